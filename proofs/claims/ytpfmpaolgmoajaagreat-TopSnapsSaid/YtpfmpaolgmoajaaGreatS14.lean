/- Lemmas of this claim. Conditions: as each says. -/
import Derived.Test.YtpfmpaolgmoajaaGreatS13
set_option linter.unusedVariables false
set_option linter.unusedSimpArgs false
set_option maxHeartbeats 4000000
set_option maxRecDepth 20000
set_option linter.defProp false
open Go.Proofs.Tryz
namespace Go.Fw
open Go.RowKit open Go.Proofs hiding intOf
variable {m h:Nat}(k:Nat)
section
open Go.Sort
section
variable {α:Type} [Inhabited α] {lt:α→α→Bool}
def Nk(hS:SWO lt){d:Array α}{b:Nat}(hs:SortedIn lt m b d){x:α}(hx:lt d[h]! x=true)(hh:h<b)(t:Nat)(h1:m<=t)(h2:t<=h):lt d[t]! x=true:=by
 cases e:lt d[t]! x with
 |true=>rfl
 |false=>have:=hS.ntrans _ _ _ (ez hS hs h1 h2 hh) e;rw[hx]at this;cases this
def LL(hS:SWO lt){d:Array α}{b:Nat}(hs:SortedIn lt m b d){x:α}(hx:lt d[h]! x=false)(hm:m<=h)(t:Nat)(h1:h<=t)(h2:t<b):lt d[t]! x=false:=hS.ntrans _ _ _ (ez hS hs hm h1 h2) hx
def LM(hS:SWO lt){d:Array α}{a:Nat}(hs:SortedIn lt a m d){x:α}(hx:lt x d[h]! =false)(hh:h<m)(t:Nat)(h1:a<=t)(h2:t<=h):lt x d[t]! =false:=hS.ntrans _ _ _ hx (ez hS hs h1 h2 hh)
def IU(hS:SWO lt){d:Array α}{a:Nat}(hs:SortedIn lt a m d){x:α}(hx:lt x d[h]! =true)(hm:a<=h)(t:Nat)(h1:h<=t)(h2:t<m):lt x d[t]! =true:=by
 cases e:lt x d[t]! with
 |true=>rfl
 |false=>have:=hS.ntrans _ _ _ e (ez hS hs hm h1 h2);rw[hx]at this;cases this
def nL{i j:Nat}(h:i<j):∃k:Nat,((i:Int)+(j:Int))/2=(k:Int)/\k=(i+j)/2/\i<=k/\k<j:=⟨(i+j)/2,zO,rfl,zO,zO⟩
end
end
section
open Go.Shelf Go.Sort Go.Lib
set_option maxRecDepth 1000000
set_option maxHeartbeats 8000000
abbrev pB(k g:Nat)(cb:Array Value)(B0 off N0:Nat)(w0:World):Prop:=CmpLays prog g cb Et.cells k bY B0 off N0 w0
def ku(k:Nat)(w0:World)(B0 off a b:Nat)(d:Array Et)(e:Ending)(w':World):Prop:=e=.returned (.tuple #[])/\∃d',SE k w0 B0 off d' w'/\PermIn a b d d'/\SortedIn (ltOf bY) a b d'
def EY(zE:∀w,(Go.sizeOf 224).run prog w=.ok k w)(w0:World)(B0 off cap g:Nat)(cb:Array Value)(N0:Nat)(d0 d:Array Et)(R:no k w0 B0 off d0)(hs:d0.size=N0)(hsd:d.size=N0)(hsz:N0<1000000)(eg:∀args w,(callFunc g args).run prog w=.ok (.enter g args) w)(hcmp:pB k g cb B0 off N0 w0)(a m b:Nat)(w:World)(S:SE k w0 B0 off d w)(hm:m=a+1)(hmb:m<=b)(hb:b<=N0)(hr:SortedIn (ltOf bY) m b d):
  C 334 #[V B0 off N0 cap,I a,I m,I b,.func (.func g) #[] cb] w λe w'=>ku k w0 B0 off a b d e w':=by
 have S0:=S;have HC:Aside _:=hcmp;have X:Aside _:=hr;have HM:=Z1 hm;have a9:(m:Int)-(a:Int)=1:=zO;have ba:a<m:=zO;have al:prog.follows Departure.mixedOrders=true:=zR;have aE:∀w,(isAgg 224).run prog w=.ok true w:=λw=>zR;clear S hcmp hr hm
 go_in
 go_wp2;go_loopg [10,11] (b-m) (λkx s1 s2 wr=>∃(i j:Nat),s1=I i/\s2=I j/\m<=i/\i<=j/\j<=b/\j-i<=kx/\Aside (SWK Et.cells k w0 B0 off d wr)/\Hid ((∀t,m<=t->t<i->ltOf bY d[t]! d[a]! =true)/\∀t,j<=t->t<b->ltOf bY d[t]! d[a]! =false))
 case atStart=>exact⟨m,b,rfl,rfl,OA _,hmb,OA _,OA _,S0,⟨λt q r=>zO,λt q r=>zO⟩⟩
 case round=>
  clear S0;obtain⟨i,j,rfl,rfl,af,bb,ag,bc,c,P⟩:=hrel;by_cases ah:i<j
  ·have H:(i:Int)<(j:Int):=zO;obtain⟨h,bd,T,be,bf⟩:=nL ah;have HH:=Z1 T;clear T;have ap:((h:Int):Int).toNat=h:=zO;have aq:(0:Int)<=(h:Int):=zO;have ar:(h:Int)<(N0:Int):=zO;have au:IntKind.i64.wrap ((h:Int))=(h:Int):=by rw[OX];omega
   have av:((a:Int):Int).toNat=a:=zO;have aw:(0:Int)<=(a:Int):=zO;have ax:(a:Int)<(N0:Int):=zO;have ay:IntKind.i64.wrap ((a:Int))=(a:Int):=by rw[OX];omega
   obtain⟨D,u⟩:∃x,x=d[h]!:=⟨_,rfl⟩;obtain⟨F,v⟩:∃x,x=d[a]!:=⟨_,rfl⟩;have y:=c.o.ld R zO prog (h) zO;have z:=c.o.ld R zO prog (a) zO;rw[<-u]at y;rw[<-v]at z;have l:=c.o.cmp HC.o zO D F;have G:ltOf bY D F=decide (bY D F<0):=rfl;have p:=Z3 u v G;clear u v G;generalize bY D F=cv at l p;by_cases hv:cv<0
   ·have A:=decide_eq_true hv;go_wp2_with fail
    go_quiet_grown (first|(go_at_fn g;refine Calls.grown_of (l _ _)))
    have n:=c.o.grown nq osq;clear y z l c;generalize grow (wr.drewN nq) osq=w2 at n ⊢;clear nq osq;go_wp2
    go_roundg (j-(h+1))
    case measure=>omega
    case rel=>exact⟨h+1,j,by go_num,rfl,zO,zO,ag,OA _,n,⟨λt q r=>Nk (h:=h) gJ X.o (by rw[<-p.o.1,<-p.o.2.1,p.o.2.2];exact A) zO t q zO,P.o.2⟩⟩
   ·have A:=decide_eq_false hv;go_wp2_with fail
    go_quiet_grown (first|(go_at_fn g;refine Calls.grown_of (l _ _)))
    have n:=c.o.grown nq osq;clear y z l c;generalize grow (wr.drewN nq) osq=w2 at n ⊢;clear nq osq;go_wp2
    go_roundg (h-i)
    case measure=>omega
    case rel=>exact⟨i,h,rfl,rfl,af,zO,zO,OA _,n,⟨P.o.1,λt q r=>LL gJ X.o (by rw[<-p.o.1,<-p.o.2.1,p.o.2.2];exact A) zO t q r⟩⟩
  ·obtain rfl:i=j:=zO;go_wp2;go_loopg [13] (i-1-a) (λkx s wr=>∃(x:Nat) (f:Array Et),s=I x/\a<=x/\x<=i-1/\i-1-x<=kx/\f.size=N0/\Aside (SWK Et.cells k w0 B0 off f wr)/\Hid ((∀t,f[t]! =upF (λt=>d[t]!) a x t)/\PermIn a b d f))
   case atStart=>exact⟨a,d,rfl,OA _,zO,OA _,hsd,c,⟨λt=>(LH _ _ _).symm,permIn_refl _ _ _⟩⟩
   case round=>
    clear c;obtain⟨x,f,rfl,aj,bg,az,ak,c,Q⟩:=hrel;by_cases a0:x<i-1
    ·have H:(x:Int)<(i:Int)-1:=zO;go_wp2_with fail;have a1:((x:Int):Int).toNat=x:=zO;have a2:(0:Int)<=(x:Int):=zO;have a3:(x:Int)<(N0:Int):=zO;have a4:IntKind.i64.wrap ((x:Int))=(x:Int):=by rw[OX];omega
     have a5:((x:Int)+1:Int).toNat=x+1:=zO;have a6:(0:Int)<=(x:Int)+1:=zO;have a7:(x:Int)+1<(N0:Int):=zO;have a8:IntKind.i64.wrap ((x:Int)+1)=(x:Int)+1:=by rw[OX];omega
     have n:=c.o.swapped R (x) (x+1) zO zO;have L:=c.o.ld1 R zO prog (x) zO;have N:=c.o.ld1 R zO prog (x+1) zO;have O:=c.o.st1 R zO prog (x) zO f[x+1]!;have B:=c.o.st2 R zO prog (x) (x+1) zO zO f[x+1]! f[x]!;have ab:(Et.cells f[x]!).length=k:=R.hk _;have ac:(Et.cells f[x+1]!).length=k:=R.hk _;generalize Et.cells f[x]! =cI44 at n L B ab;generalize Et.cells f[x+1]! =cJ44 at n N O B ac;clear c;go_wp2_with fail
     go_big_region_o
     clear L N O B;generalize (wr.drew.setCells B0 (off+(x)*k) cJ44).setCells B0 (off+(x+1)*k) cI44=w2 at n ⊢;go_wp2
     go_roundg (i-1-(x+1))
     case measure=>omega
     case rel=>exact⟨x+1,swp f x (x+1),by go_num,zO,zO,OA _,by rw[size_swp];exact ak,n,⟨LI aj zO Q.o.1,permIn_trans _ _ _ _ _ Q.o.2 (swp_permIn _ _ _ _ _ zO zO zO zO zO)⟩⟩
    ·have H:¬(x:Int)<(i:Int)-1:=zO;have U:x=i-1:=zO;have p:=Z1 U;clear U;go_wp2;refine OH (Pb rfl _ _ _) rfl ?_;refine⟨rfl,f,c.o,Q.o.2,ES gJ (d:=d) (i:=i-1) zO zO (by rw[<-HM.o];exact X.o) (by rw[<-p.o];exact Q.o.1) (λt q r=>P.o.1 t (by have:=HM.o;omega) zO) λt q r=>P.o.2 t zO r⟩
def IV(zE:∀w,(Go.sizeOf 224).run prog w=.ok k w)(w0:World)(B0 off cap g:Nat)(cb:Array Value)(N0:Nat)(d0 d:Array Et)(R:no k w0 B0 off d0)(hs:d0.size=N0)(hsd:d.size=N0)(hsz:N0<1000000)(eg:∀args w,(callFunc g args).run prog w=.ok (.enter g args) w)(hcmp:pB k g cb B0 off N0 w0)(a m b:Nat)(w:World)(S:SE k w0 B0 off d w)(hm:b=m+1)(ham:a<m)(hne:m≠a+1)(hb:b<=N0)(hl:SortedIn (ltOf bY) a m d):
  C 334 #[V B0 off N0 cap,I a,I m,I b,.func (.func g) #[] cb] w λe w'=>ku k w0 B0 off a b d e w':=by
 have S0:=S;have HC:Aside _:=hcmp;have HL:Aside _:=hl;have HM:=Z1 hm;have bc:(b:Int)-(m:Int)=1:=zO;obtain⟨am,bd⟩:∃x:Int,(m:Int)-(a:Int)=x:=⟨_,rfl⟩;have be:(am==1)=false:=zT;have bf:0<=am/\am<=1000000:=zO;have bg:m<b:=zO;have an:prog.follows Departure.mixedOrders=true:=zR;have aE:∀w,(isAgg 224).run prog w=.ok true w:=λw=>zR;clear S hcmp hl hm hne
 go_in
 go_wp2;go_loopg [14,15] (m-a) (λkx s1 s2 wr=>∃(i j:Nat),s1=I i/\s2=I j/\a<=i/\i<=j/\j<=m/\j-i<=kx/\Aside (SWK Et.cells k w0 B0 off d wr)/\Hid ((∀t,a<=t->t<i->ltOf bY d[m]! d[t]! =false)/\∀t,j<=t->t<m->ltOf bY d[m]! d[t]! =true))
 case atStart=>exact⟨a,m,rfl,rfl,OA _,zO,OA _,OA _,S0,⟨λt p q=>zO,λt p q=>zO⟩⟩
 case round=>
  clear S0;obtain⟨i,j,rfl,rfl,U,bh,L,bi,c,Q⟩:=hrel;by_cases ah:i<j
  ·have ad:(i:Int)<(j:Int):=zO;obtain⟨h,bj,X,bk,bl⟩:=nL ah;have HH:=Z1 X;clear X;have au:((m:Int):Int).toNat=m:=zO;have av:(0:Int)<=(m:Int):=zO;have aw:(m:Int)<(N0:Int):=zO;have ax:IntKind.i64.wrap ((m:Int))=(m:Int):=by rw[OX];omega
   have ay:((h:Int):Int).toNat=h:=zO;have az:(0:Int)<=(h:Int):=zO;have a0:(h:Int)<(N0:Int):=zO;have a1:IntKind.i64.wrap ((h:Int))=(h:Int):=by rw[OX];omega
   obtain⟨F,r⟩:∃x,x=d[m]!:=⟨_,rfl⟩;obtain⟨G,u⟩:∃x,x=d[h]!:=⟨_,rfl⟩;have v:=c.o.ld R zO prog (m) zO;have z:=c.o.ld R zO prog (h) zO;rw[<-r]at v;rw[<-u]at z;have l:=c.o.cmp HC.o zO F G;have H:ltOf bY F G=decide (bY F G<0):=rfl;have A:=Z3 r u H;clear r u H;generalize bY F G=cv at l A;by_cases hv:cv<0
   ·have B:=decide_eq_true hv;go_wp2_with fail
    go_quiet_grown (first|(go_at_fn g;refine Calls.grown_of (l _ _)))
    have n:=c.o.grown nq osq;clear v z l c;generalize grow (wr.drewN nq) osq=w2 at n ⊢;clear nq osq;go_wp2
    go_roundg (h-i)
    case measure=>omega
    case rel=>exact⟨i,h,rfl,rfl,U,zO,zO,OA _,n,⟨Q.o.1,λt p q=>IU gJ HL.o (by rw[<-A.o.1,<-A.o.2.1,A.o.2.2];exact B) zO t p q⟩⟩
   ·have B:=decide_eq_false hv;go_wp2_with fail
    go_quiet_grown (first|(go_at_fn g;refine Calls.grown_of (l _ _)))
    have n:=c.o.grown nq osq;clear v z l c;generalize grow (wr.drewN nq) osq=w2 at n ⊢;clear nq osq;go_wp2
    go_roundg (j-(h+1))
    case measure=>omega
    case rel=>exact⟨h+1,j,by go_num,rfl,zO,zO,L,OA _,n,⟨λt p q=>LM (h:=h) gJ HL.o (by rw[<-A.o.1,<-A.o.2.1,A.o.2.2];exact B) zO t p zO,Q.o.2⟩⟩
  ·obtain rfl:i=j:=zO;go_wp2;go_loopg [17] (m-i) (λkx s wr=>∃(x:Nat) (f:Array Et),s=I x/\i<=x/\x<=m/\x-i<=kx/\f.size=N0/\Aside (SWK Et.cells k w0 B0 off f wr)/\Hid ((∀t,f[t]! =mR (λt=>d[t]!) x m t)/\PermIn a b d f))
   case atStart=>exact⟨m,d,rfl,L,OA _,OA _,hsd,c,⟨λt=>(EP _ _ _).symm,permIn_refl _ _ _⟩⟩
   case round=>
    clear c;obtain⟨x,f,rfl,bm,aj,a2,ak,c,T⟩:=hrel;by_cases a3:i<x
    ·have ad:(i:Int)<(x:Int):=zO;obtain⟨y,rfl⟩:∃y,x=y+1:=⟨x-1,zO⟩;go_wp2_with fail;have a4:((y:Int)+1:Int).toNat=y+1:=zO;have a5:(0:Int)<=(y:Int)+1:=zO;have a6:(y:Int)+1<(N0:Int):=zO;have a7:IntKind.i64.wrap ((y:Int)+1)=(y:Int)+1:=by rw[OX];omega
     have a8:((y:Int):Int).toNat=y:=zO;have a9:(0:Int)<=(y:Int):=zO;have ba:(y:Int)<(N0:Int):=zO;have bb:IntKind.i64.wrap ((y:Int))=(y:Int):=by rw[OX];omega
     have n:=c.o.swapped R (y+1) (y) zO zO;have N:=c.o.ld1 R zO prog (y+1) zO;have O:=c.o.ld1 R zO prog (y) zO;have P:=c.o.st1 R zO prog (y+1) zO f[y]!;have D:=c.o.st2 R zO prog (y+1) (y) zO zO f[y]! f[y+1]!;have ae:(Et.cells f[y+1]!).length=k:=R.hk _;have af:(Et.cells f[y]!).length=k:=R.hk _;generalize Et.cells f[y+1]! =cI44 at n N D ae;generalize Et.cells f[y]! =cJ44 at n O P D af;clear c;go_wp2_with fail
     go_big_region_o
     clear N O P D;generalize (wr.drew.setCells B0 (off+(y+1)*k) cJ44).setCells B0 (off+(y)*k) cI44=w2 at n ⊢;go_wp2
     go_roundg (y-i)
     case measure=>omega
     case rel=>exact⟨y,swp f (y+1) y,by go_num,zO,zO,OA _,by rw[size_swp];exact ak,n,⟨ER aj zO T.o.1,permIn_trans _ _ _ _ _ T.o.2 (swp_permIn _ _ _ _ _ zO zO zO zO zO)⟩⟩
    ·obtain rfl:x=i:=zO;go_wp2;refine OH (Pb rfl _ _ _) rfl ?_;refine⟨rfl,f,c.o,T.o.2,?_⟩;have al:=HM.o;rw[al];exact Ai gJ (d:=d) (i:=x) U L HL.o T.o.1 (λt p q=>Q.o.1 t p q) λt p q=>Q.o.2 t p q
end
end Go.Fw
namespace Go.Proofs
open Go.Shelf Go.Fw
def O5:Go.Shelf.Ren:=⟨λ|20=>333|n=>n,λ|24=>224|22=>170|3=>3|25=>423|4=>4|0=>0|n=>n,λ|n=>n⟩
def lsi:Go.Proofs.SlLaysF0.n20 prog O5:={
 mixed:=by kernel_rfl
 f20:=⟨f333.name,by decide,func333.trans (congrArg some (by kernel_rfl))⟩
 t0:=underlying0
 a0:=isAgg0
 z0:=sizeOf0
 v0:=zeroValue0
 t3:=underlying3
 a3:=isAgg3
 z3:=sizeOf3
 v3:=zeroValue3
 t4:=underlying4
 a4:=isAgg4
 z4:=sizeOf4
 v4:=zeroValue4
 t22:=underlying170
 a22:=isAgg170
 z22:=sizeOf170
 v22:=zeroValue170
 t25:=underlying423
 a25:=isAgg423
 z25:=sizeOf423
 v25:=zeroValue423}
end Go.Proofs
namespace Go.Fw
open Go.RowKit open Go.Proofs hiding intOf
variable {m h:Nat}(k:Nat)
section
open Go.Shelf Go.Sort Go.Lib
set_option maxRecDepth 1000000
set_option maxHeartbeats 8000000
def IW(zE:∀w,(Go.sizeOf 224).run prog w=.ok k w)(w0:World)(B0 off cap g:Nat)(cb:Array Value)(N0:Nat)(d0 d:Array Et)(R:no k w0 B0 off d0)(hs:d0.size=N0)(hsd:d.size=N0)(hsz:N0<1000000)(eg:∀args w,(callFunc g args).run prog w=.ok (.enter g args) w)(hcmp:pB k g cb B0 off N0 w0)(a b:Nat)(w:World)(S:SE k w0 B0 off d w)(hab:a<=b)(hb:b<=N0):
  C 333 #[V B0 off N0 cap,I a,I b,.func (.func g) #[] cb] w λe w'=>e=.returned (.tuple #[])/\∃d',SE k w0 B0 off d' w'/\PermIn a b d d'/\SortedIn (ltOf bY) a b d':=by
 subst hs;have c:=insertionSort_holds (lt:=ltOf bY) gJ d a b hab zO;have h:=AnyQ.insertionSortCmpFunc_w lsi k (λw=>zR) zE Et.cells bY g cb B0 off cap a b d0 d w0 w eg hcmp R hsd.symm S gJ hab zO zO;rw[hsd]at h;refine zm h λw' f=>?_;exact⟨rfl,_,f,c.1,c.2⟩
end
end Go.Fw
