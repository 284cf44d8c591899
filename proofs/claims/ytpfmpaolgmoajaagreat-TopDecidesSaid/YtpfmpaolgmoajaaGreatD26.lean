/- Lemmas of this claim. Conditions: as each says. -/
import Derived.Test.YtpfmpaolgmoajaaGreatD25
set_option linter.unusedVariables false
set_option linter.unusedSimpArgs false
set_option maxHeartbeats 4000000
set_option maxRecDepth 20000
set_option linter.defProp false
open Go.Proofs.Tryz
namespace Go.Fw
open Go.RowKit open Go.Proofs hiding intOf
variable {WA W':World}{B np:Nat}{cs:Array Value}{S:Nat->Prop}{wk st:Int}(w:World)(c:Cg)(ps:List (List Cl))(m:Nat)(l:List Vt)(f:Cl->Nat)(raw:List Int)(n:Nat)(k:K2)(F:Nat)(Ap A:Option Addr)
def dK(f:Cl->Nat)(l:List Cl):Nat:=(l.map f).sum
def oW(a b:List Cl):dK f (a++b)=dK f a+dK f b:=by simp[dK]
def lZ(l:List Cl)(h:∀x∈l,f x<=F):dK f l<=l.length*F:=by
 induction l with
 |nil=>simp[dK]
 |cons a t ih=>
  have b:=ih λx c=>h x (Pm _ c);have d:=h a (Qc ..);simp only[dK,Pi,List.sum_cons,OC]at b ⊢;rw[Qj];omega
def mH(h:∀p∈ps,p.length<=F):ps.flatten.length<=ps.length*F:=by
 induction ps with
 |nil=>simp
 |cons a t ih=>
  have c:=ih λx b=>h x (Pm _ b);have d:=h a (Qc ..);simp only[Sm,OS,OC];rw[Qj];omega
def vO{ps:List (List Cl)}{i:Nat}(h:i<ps.length):(ps.take (i+1)).flatten=(ps.take i).flatten++ps[i]:=by
 rw[OG h,Se,Sm,List.flatten_nil,PC]
def qB{c:Cg}(hc:c.ok)(x:Cl):(aF c x).length<=202:=by
 have:=vF hc x;unfold aF;split<;>simp<;>omega
def DK(hc:c.ok)(ps:List (List Cl))(A:Option Addr)(n k:Nat)(w:World)(hP:dv w A n ps)(hn:n<=32)(hall:∀p∈ps,p.length<=256/\∀x∈p,x.ok):
  C 46 #[.agg #[I c.st,I c.sa,I c.lo,I c.hi],.slice A n k] w λr w'=>r=.returned (I (stepsN c ps:Int))/\M w w':=by
 have S:=zh w (.cells #[I c.st,I c.sa,I c.lo,I c.hi] 23);have T:=Blk.A8 w 23 #[I c.st,I c.sa,I c.lo,I c.hi] rfl;have y:=hP.len;have z:=Z4 hP hall hc y;have ac:Hid (stepsN c ps=dK (λx=>(aF c x).length) (ps.take n).flatten):=Z1 (by rw[y,PO];rfl);have HO:=Z1 (λx (P:x.ok) W=>yk c hc x P W);have H0:Hid (M w (w.alloc (.cells #[I c.st,I c.sa,I c.lo,I c.hi] 23))/\Blk (w.alloc (.cells #[I c.st,I c.sa,I c.lo,I c.hi] 23)) w.heap.size 23 #[I c.st,I c.sa,I c.lo,I c.hi]):=Z1 ⟨S,T⟩;have U:∀i≤n,dK (λx=>(aF c x).length) (ps.take i).flatten<=i*(256*202):=λi hi=>by
  have h1:=lZ (λx=>(aF c x).length) 202 (ps.take i).flatten λx _=>qB hc x;have h2:=mH (ps.take i) 256 λp hp=>(hall p (Qb hp)).1;have h3:(ps.take i).length<=i:=zT;have h4:(ps.take i).length*256<=i*256:=Pr _ h3;have h5:(ps.take i).flatten.length*202<=i*256*202:=Pr _ zO;rw[QM]at h5;omega
 have HF:=Z1 U;clear hP hall hc y S T U
 go_in
 go_wp2;go_loopw [5,12] (λs i wr=>∃j q:Nat,j<=n/\i=I j/\s=I q/\Hid (q=dK (λx=>(aF c x).length) (ps.take j).flatten)/\Hid (M w wr/\Blk wr w.heap.size 23 #[I c.st,I c.sa,I c.lo,I c.hi])) (λ_ i _=>n-(intOf i).toNat)
 case atStart=>exact⟨0,0,OK _,rfl,rfl,Z1 (by simp[dK]),H0⟩
 case round=>
  obtain⟨j,q,hj,rfl,rfl,HQ,Q⟩:=hrel;by_cases ba:j<n
  ·have B:j<ps.length:=by have:=z.o.2.2.2;omega
   obtain⟨ad,A3,k3,rfl,_,v,_,_,X⟩:=(z.o.1.up Q.o.1).at_ B;have aa:=z.o.2.1 _ (OR B);have bb:(j:Int)<(n:Int):=zO;have ab:=HF.o j hj;have ah:Hid (dK (λx=>(aF c x).length) (ps.take (j+1)).flatten=q+dK (λx=>(aF c x).length) ps[j]):=Z1 (by rw[vO B,oW,HQ.o]);rw[<-HQ.o]at ab;generalize ps[j]=p at*;obtain⟨f,D⟩:∃f,f=p.length:=⟨_,rfl⟩;have R:=Z3 aa D X;have az:f<=256:=zO;have bc:q<=1654784:=by
    have:j*(256*202)<=32*(256*202):=Pr _ zO;omega
   rw[<-D]at v;clear aa D X ab;go_wp2_with fail;go_loopw [5,18] (λs i wi=>∃a e:Nat,a<=f/\i=I a/\s=I e/\Hid (e=q+dK (λx=>(aF c x).length) (p.take a))/\Hid (M w wi/\Blk wi w.heap.size 23 #[I c.st,I c.sa,I c.lo,I c.hi]/\M wr wi)) (λ_ i _=>f-(intOf i).toNat)
   case atStart=>exact⟨0,q,OK _,rfl,rfl,Z1 (by simp[dK]),Z1 ⟨Q.o.1,Q.o.2,Oy _ _⟩⟩
   case round=>
    obtain⟨a,e,bd,rfl,rfl,F,m⟩:=hrel;by_cases a0:a<f
    ·have t:a<p.length:=by have:=R.o.2.1;omega
     have G:=(R.o.2.2).up m.o.2.2;obtain⟨b,o,rfl,_,H⟩:=sf G t;have a1:(a:Int)<(f:Int):=zO;have P:=R.o.1.2 _ (OR t);have aj:Hid (dK (λx=>(aF c x).length) (p.take (a+1))=dK (λx=>(aF c x).length) (p.take a)+(aF c p[a]).length):=Z1 (by rw[OG t,oW];simp[dK]);have a2:e<=1654784+256*202:=by
      have h1:=lZ (λx=>(aF c x).length) 202 (p.take a) λx _=>qB z.o.2.2.1 x;have h2:(p.take a).length<=256:=zT;have h3:(p.take a).length*202<=256*202:=Pr _ h2;have:=F.o;omega
     generalize p[a]=x at*;have a3:=qB z.o.2.2.1 x;have d:=Z3 (show x.arr.size=11 from rfl) (mF x) (dw (cs:=x.arr) (b:=b) (o:=o+a*11) λj u h=>by have:=H j u h;rwa [<-PQ]at this);have HX:=Z1 (HO.o x P);have g:=m.o.2.1.alloc (.cells x.arr 73);have c0:=g.cell 0;have c1:=g.cell 1;have c2:=g.cell 2;have c3:=g.cell 3;generalize L:x.arr=cs at*;have HG:=Z1 L;clear H P v L g G
     go_wp2_with (first|(refine aG dU rfl (.tmp 20) rfl (Y b (o+a*11)) zF cs d.o.1 d.o.2.2 ?_)|(refine aS dU rfl rfl ?_)|(refine aT dU rfl (.tmp 9) (.tmp 21) rfl _ rfl zF cs _ zF _ d.o.1 dU.D6 d.o.2.1 ?_)|(refine aG dU rfl (.tmp 9) rfl (Y wr.heap.size 0) zF cs d.o.1 (ff _ _ _) ?_))
     have N:=HX.o (wr.alloc (.cells cs 73));rw[Cl.val,HG.o]at N;refine N.mono ?_;rintro e6 w6 ⟨v6,rfl,l⟩;obtain⟨A6,k6,rfl,_,_⟩:=ak l.own;have ao:=Z3 (af (ae m.o.1 (.cells cs 73)) l.below) ((m.o.2.1.alloc (.cells cs 73)).later l.below) (af (ae m.o.2.2 (.cells cs 73)) l.below);generalize (aF c x).length=ln at*;have be:IntKind.i64.wrap ((e:Int)+(ln:Int))=((e+ln:Nat):Int):=by rw[OX];omega
     clear l N c0 c1 c2 c3;go_wp2;go_roundw
     case rel=>exact⟨a+1,e+ln,zO,by go_num,by go_num,Z1 (by rw[aj.o,F.o];omega),ao⟩
     case measure=>simp[intOf];omega
    ·obtain rfl:f=a:=zO;have O:e=q+dK (λx=>(aF c x).length) p:=by
      have:=F.o;rw[OT (by have:=R.o.2.1;omega)]at this;exact this
     have ap:=Z1 O;clear O;go_wp2;go_roundw
     case rel=>exact⟨j+1,e,zO,by go_num,rfl,Z1 (by rw[ah.o,ap.o]),Z1 ⟨m.o.1,m.o.2.1⟩⟩
     case measure=>simp[intOf];omega
  ·obtain rfl:n=j:=zO;go_wp2;go_ret;exact⟨by rw[ac.o,HQ.o];rfl,Q.o.1⟩
def DL(n k:Nat)(w:World)(hP:dv w A n ps)(hn:n<=32)(hall:∀p∈ps,p.length<=256/\∀x∈p,x.ok):
  C 47 #[.slice A n k] w λr w'=>r=.returned (I (stirsN ps:Int))/\M w w':=by
 have D:=hP.len;have HI:=Z4 hP hall True.intro D;have am:Hid (stirsN ps=dK ee (ps.take n).flatten):=Z1 (by rw[D,PO];rfl);have HO:=Z1 (λ(x:Cl) (T:x.ok) W=>oy x T.L7 W);have F:∀x:Cl,ee x<=1:=λx=>by unfold ee;split<;>omega
 have aa:∀i≤n,dK ee (ps.take i).flatten<=i*(256*1):=λi hi=>by
  have h1:=lZ ee 1 (ps.take i).flatten λx _=>F x;have h2:=mH (ps.take i) 256 λp hp=>(hall p (Qb hp)).1;have h3:(ps.take i).length<=i:=zT;have h4:(ps.take i).length*256<=i*256:=Pr _ h3;have h5:(ps.take i).flatten.length*1<=i*256*1:=Pr _ zO;rw[QM]at h5;omega
 have HF:=Z1 aa;clear hP hall D aa
 go_in
 go_wp2;go_loopw [3,10] (λs i wr=>∃j q:Nat,j<=n/\i=I j/\s=I q/\Hid (q=dK ee (ps.take j).flatten)/\Hid (M w wr)) (λ_ i _=>n-(intOf i).toNat)
 case atStart=>exact⟨0,0,OK _,rfl,rfl,Z1 (by simp[dK]),Z1 (Oy _ _)⟩
 case round=>
  obtain⟨j,q,hj,rfl,rfl,HQ,HW⟩:=hrel;by_cases bd:j<n
  ·have G:j<ps.length:=by have:=HI.o.2.2.2;omega
   obtain⟨ad,A3,k3,rfl,_,B,_,_,ab⟩:=(HI.o.1.up HW.o).at_ G;have ac:=HI.o.2.1 _ (OR G);have be:(j:Int)<(n:Int):=zO;have ag:=HF.o j hj;have ap:Hid (dK ee (ps.take (j+1)).flatten=q+dK ee ps[j]):=Z1 (by rw[vO G,oW,HQ.o]);rw[<-HQ.o]at ag;generalize ps[j]=p at*;obtain⟨m,H⟩:∃m,m=p.length:=⟨_,rfl⟩;have U:=Z3 ac H ab;have a5:m<=256:=zO;have bf:q<=8192:=by
    have:j*(256*1)<=32*(256*1):=Pr _ zO;omega
   rw[<-H]at B;clear ac H ab ag;go_wp2_with fail;go_loopw [3,16] (λs i wi=>∃c d:Nat,c<=m/\i=I c/\s=I d/\Hid (d=q+dK ee (p.take c))/\Hid (M w wi/\M wr wi)) (λ_ i _=>m-(intOf i).toNat)
   case atStart=>exact⟨0,q,OK _,rfl,rfl,Z1 (by simp[dK]),Z1 ⟨HW.o,Oy _ _⟩⟩
   case round=>
    obtain⟨c,d,bg,rfl,rfl,t,X⟩:=hrel;by_cases a6:c<m
    ·have y:c<p.length:=by have:=U.o.2.1;omega
     have L:=(U.o.2.2).up X.o.2;obtain⟨b,o,rfl,_,N⟩:=sf L y;have a7:(c:Int)<(m:Int):=zO;have T:=U.o.1.2 _ (OR y);have z:Hid (dK ee (p.take (c+1))=dK ee (p.take c)+ee p[c]):=Z1 (by rw[OG y,oW];simp[dK]);have a8:d<=8192+256:=by
      have h1:=lZ ee 1 (p.take c) λx _=>F x;have h2:(p.take c).length<=256:=zT;have:=t.o;omega
     generalize p[c]=x at*;have a9:=F x;have bh:(wr.alloc (.cells x.arr 73)).cell? (Y wr.heap.size 0)=some (I x.k):=(Blk.A8 wr 73 x.arr rfl).cell 0;have a:=Z3 (show x.arr.size=11 from rfl) (mF x) (dw (cs:=x.arr) (b:=b) (o:=o+c*11) λj u h=>by have:=N j u h;rwa [<-PQ]at this);have HX:=Z1 (HO.o x T);generalize O:x.arr=cs at*;have HG:=Z1 O;have P:Hid (ee x=if(x.k=1\/x.k=6)/\aH x=0 then 1 else 0):=Z1 rfl;have ah:Hid (C 95 #[.agg cs] (wr.alloc (.cells cs 73)) λe w'=>e=.returned (I (aH x))/\Below (wr.alloc (.cells cs 73)).heap.size (wr.alloc (.cells cs 73)) w'):=Z1 (by
      have:=HX.o (wr.alloc (.cells cs 73));rw[Cl.val,HG.o]at this;exact this)
     have v:=Z2 (ae X.o.1 (.cells cs 73)) (ae X.o.2 (.cells cs 73));generalize aH x=ce at*;generalize x.k=g at*;generalize ee x=sx at*;have bi:IntKind.i64.wrap ((d:Int)+1)=((d+1:Nat):Int):=by rw[OX];omega
     clear N T B O L;by_cases hk:g=1\/g=6
     ·have l:Hid (sx=if ce=0 then 1 else 0):=Z1 (by rw[P.o];simp[hk]);have ai:g=1\/(g==1)=false/\(g==6)=true:=by
       by_cases h:g=1
       ·exact .inl h
       ·have:g=6:=zO;subst this;exact .inr ⟨rfl,rfl⟩
      by_cases Q:ce=0
      ·subst Q
       rcases ai with rfl|⟨aj,ak⟩
       all_goals
        go_wp2_with (first|(refine aG dU rfl (.tmp 18) rfl (Y b (o+c*11)) zF cs a.o.1 a.o.2.2 ?_)|(refine aS dU rfl rfl ?_)|(refine aT dU rfl (.tmp 7) (.tmp 19) rfl _ rfl zF cs _ zF _ a.o.1 dU.D6 a.o.2.1 ?_)|(refine fh dU zF (.tmp 7) rfl (Y wr.heap.size 0) zF cs a.o.1 (ff _ _ _) ?_))
        refine zm ah.o λw6 f=>?_;have R:=Z2 (af v.o.1 f) (af v.o.2 f);clear f;go_wp2;go_roundw
        case rel=>exact⟨c+1,d+1,zO,by go_num,by go_num,Z1 (by rw[z.o,t.o,l.o];first|(simp;done)|(simp;omega)),R⟩
        case measure=>simp[intOf];omega
      ·have bj:(ce==0)=false:=by simpa using Q
       rcases ai with rfl|⟨aj,ak⟩
       all_goals
        go_wp2_with (first|(refine aG dU rfl (.tmp 18) rfl (Y b (o+c*11)) zF cs a.o.1 a.o.2.2 ?_)|(refine aS dU rfl rfl ?_)|(refine aT dU rfl (.tmp 7) (.tmp 19) rfl _ rfl zF cs _ zF _ a.o.1 dU.D6 a.o.2.1 ?_)|(refine fh dU zF (.tmp 7) rfl (Y wr.heap.size 0) zF cs a.o.1 (ff _ _ _) ?_))
        refine zm ah.o λw6 f=>?_;have R:=Z2 (af v.o.1 f) (af v.o.2 f);clear f;go_wp2;go_roundw
        case rel=>exact⟨c+1,d,zO,by go_num,rfl,Z1 (by rw[z.o,t.o,l.o,Oz Q];omega),R⟩
        case measure=>simp[intOf];omega
     ·have aj:(g==1)=false:=zT;have ak:(g==6)=false:=zT;have l:Hid (sx=0):=Z1 (by rw[P.o,Oz λh=>hk h.1])
      go_wp2_with (first|(refine aG dU rfl (.tmp 18) rfl (Y b (o+c*11)) zF cs a.o.1 a.o.2.2 ?_)|(refine aS dU rfl rfl ?_)|(refine aT dU rfl (.tmp 7) (.tmp 19) rfl _ rfl zF cs _ zF _ a.o.1 dU.D6 a.o.2.1 ?_)|(refine fh dU zF (.tmp 7) rfl (Y wr.heap.size 0) zF cs a.o.1 (ff _ _ _) ?_))
      go_roundw
      case rel=>exact⟨c+1,d,zO,by go_num,rfl,Z1 (by rw[z.o,t.o,l.o];omega),v⟩
      case measure=>simp[intOf];omega
    ·obtain rfl:m=c:=zO;have S:d=q+dK ee p:=by
      have:=t.o;rw[OT (by have:=U.o.2.1;omega)]at this;exact this
     have aw:=Z1 S;clear S;go_wp2;go_roundw
     case rel=>exact⟨j+1,d,zO,by go_num,rfl,Z1 (by rw[ap.o,aw.o]),Z1 X.o.1⟩
     case measure=>simp[intOf];omega
  ·obtain rfl:n=j:=zO;go_wp2;go_ret;exact⟨by rw[am.o,HQ.o];rfl,HW.o⟩
def GP{c:Cg}(hc:c.ok){ps:List (List Cl)}(hn:ps.length<=32)(hall:∀p∈ps,p.length<=256):stepsN c ps<=1654784:=by
 have a:=lZ (λx=>(aF c x).length) 202 ps.flatten λx _=>qB hc x;have b:=mH ps 256 hall;have d:ps.length*256<=32*256:=Pr _ hn;have e:ps.flatten.length*202<=8192*202:=Pr _ zO;have:stepsN c ps=dK (λx=>(aF c x).length) ps.flatten:=rfl;omega
def GQ{ps:List (List Cl)}(hn:ps.length<=32)(hall:∀p∈ps,p.length<=256):stirsN ps<=8192:=by
 have a:=lZ ee 1 ps.flatten λx _=>by unfold ee;split<;>omega
 have b:=mH ps 256 hall;have c:ps.length*256<=32*256:=Pr _ hn;have:stirsN ps=dK ee ps.flatten:=rfl;omega
def GR(hc:c.ok)(ps:List (List Cl))(A:Option Addr)(n k m:Nat)(hP:dv w A n ps)(hn:ps.length+m<=32)(hall:∀p∈ps,p.length<=256/\∀x∈p,x.ok)(h0:cj c.st c.sa c.lo c.hi ps m=0):
  C 9 #[.agg #[I c.st,I c.sa,I c.lo,I c.hi],.slice A n k,I m] w λr w'=>r=.returned (.tuple #[I (mostN c ps m:Int),I 0])/\M w w':=by
 have e:=zh w (.cells #[I c.st,I c.sa,I c.lo,I c.hi] 23);have f:=Blk.A8 w 23 #[I c.st,I c.sa,I c.lo,I c.hi] rfl;have s:=hP.len;have t:=Z1 (λW (hW:M w W)=>oU c.st c.sa c.lo c.hi ps A n k m W (hP.up hW) zO (by unfold aq;omega));rw[h0]at t;have v:=Z1 (λW (hW:M w W)=>DK c hc ps A n k W (hP.up hW) zO hall);have y:=Z1 (λW (hW:M w W)=>DL ps A n k W (hP.up hW) zO hall);have N:=GP hc zO λp j=>(hall p j).1;have O:=GQ (ps:=ps) zO λp j=>(hall p j).1;have z:Hid (mostN c ps m=stepsN c ps+16*stirsN ps+6*m):=Z1 rfl;generalize mostN c ps m=B at*;generalize stepsN c ps=l at*;generalize stirsN ps=b at*;have D:m<=32:=zO;have P:IntKind.i64.wrap (16*(b:Int))=16*(b:Int):=by rw[OX];omega
 have Q:IntKind.i64.wrap ((l:Int)+16*(b:Int))=(l:Int)+16*(b:Int):=by rw[OX];omega
 have R:IntKind.i64.wrap (6*(m:Int))=6*(m:Int):=by rw[OX];omega
 have S:IntKind.i64.wrap ((l:Int)+16*(b:Int)+6*(m:Int))=(B:Int):=by have:=z.o;rw[OX];omega
 have q:=Z2 e f;clear hP h0 e f hc hall hn s
 go_in
 go_wp2_with fail;refine zm (t.o _ q.o.1) λT d=>?_;have a:=Z2 (af q.o.1 d) (q.o.2.later d);clear d;have F:=a.o.2.cell 0;have G:=a.o.2.cell 1;have H:=a.o.2.cell 2;have L:=a.o.2.cell 3;go_wp2_with fail;refine zm (v.o _ a.o.1) λU g=>?_;have h:=Z1 (af a.o.1 g);clear g F G H L;go_wp2_with fail;refine zm (y.o _ h.o) λX i=>?_;have u:=Z1 (af h.o i);clear i;go_wp2;exact OH (results_tmp2 rfl _ _ _) rfl ⟨rfl,u.o⟩
def yE:(finL c ps m raw).length=mostN c ps m+1:=pd _ _ _
def MP(h0:0<ps.length+m)(h1:ps.length+m<=32):∀p∈finL c ps m raw,aq p:=λp a=>by
 have:=vM (ps.length+m) zO raw _ p a;unfold aq;omega
def AU(hp:ge c ps)(A Ap:Option Addr)(n k kp m:Nat)(hP:dv w A n ps)(hn:ps.length+m<=32)(hn0:0<ps.length+m)(hall:∀p∈ps,p.length<=256/\∀x∈p,x.ok)(h0:cj c.st c.sa c.lo c.hi ps m=0)
  (raw:List Int)(hl:∀p∈raw,aq p)(hr:an w w.heap.size 1 Ap raw.length (i64s raw))(hrl:raw.length<=100000)(hu:mostN c ps m+1<=30000):
  C 42 #[.agg #[I c.st,I c.sa,I c.lo,I c.hi],.slice A n k,I m,.slice Ap raw.length kp] w λr w'=>∃ve vq,r=.returned (.tuple #[.agg (pT ve vq (j9 c ps m raw) (decide (gQ c (j9 c ps m raw) 0<0))),I 0])/\
   w'.ownsRow w.heap.size 79 34 ve (j9 c ps m raw).g.ev.length (vts (j9 c ps m raw).g.ev)/\w'.ownsRow w.heap.size 58 2 vq (j9 c ps m raw).g.q.line.length (cG (j9 c ps m raw).g.q.line)/\M w w':=by
 have s:=hP.len;have D:=ae (zh w (.cells #[I c.st,I c.sa,I c.lo,I c.hi] 23)) (.cells kG 38);have F:=Blk.A8 (w.alloc (.cells #[I c.st,I c.sa,I c.lo,I c.hi] 23)) 38 kG (g:=w.heap.size+1) zS;have G:=(Blk.A8 w 23 #[I c.st,I c.sa,I c.lo,I c.hi] rfl).alloc (.cells kG 38);have HM:=Z1 (λW (hW:M w W)=>GR W c hp.cfg ps A n k m (hP.up hW) hn hall h0);have T:Hid (∀W,M w W->C 91 #[I ((ps.length+m:Nat):Int),I ((mostN c ps m+1:Nat):Int),.slice Ap raw.length kp] W λe w'=>∃v,e=.returned v/\aL 1 W w' 3 v (mostN c ps m+1) (i64s (finL c ps m raw))):=Z1 λW hW=>by
  have h:=GO (ps.length+m) ((mostN c ps m+1:Nat):Int) raw Ap kp W (hr.up hW) hl zO hn zO hrl;rw[PH]at h;exact h
 have X:=Z1 (λW (hW:M w W) A2 k2 (ab:an W W.heap.size 1 A2 (mostN c ps m+1) (i64s (finL c ps m raw)))=>tj W c ps hp A A2 n k (mostN c ps m+1) k2 m (hP.up hW) hn hn0 h0 (finL c ps m raw) (MP c ps m raw hn0 hn) ab hu);have H:En.run c (.new c ps m) (finL c ps m raw)=j9 c ps m raw:=rfl;rw[H]at X;generalize j9 c ps m raw=e at*;generalize ac:mostN c ps m=mo at*;rw[<-s]at T;have ao:IntKind.i64.wrap ((n:Int)+(m:Int))=((n+m:Nat):Int):=by rw[OX];omega
 have ap:IntKind.i64.wrap ((mo:Int)+1)=((mo+1:Nat):Int):=by rw[OX];omega
 have B:=Z4 D F G s;clear hP h0 D F G hp hn hn0 hall hl hr hrl hu s H ac
 go_in
 go_wp2_with fail;refine zm (HM.o _ B.o.1) λw1 j=>?_;have i:=Z3 (af B.o.1 j) (B.o.2.1.later j) (B.o.2.2.1.later j);clear j;have Q:=i.o.2.2.drew;go_upto_region 4 with fail
 refine bW 14 (S:=λU=>Blk U w.heap.size 23 #[I c.st,I c.sa,I c.lo,I c.hi]) zR zR Q ?_;simp only[OM,OO,ON,OQ];try simp only[zD,zE,Nat.reduceAdd,zG]
 refine zq 0 ?_ (λW hW=>?_) ?_;rotate_left
 ·refine bE ye (.tmp 4) ?_ (Y w.heap.size 0) ?_ #[I c.st,I c.sa,I c.lo,I c.hi] rfl ?_;exact rfl;exact rfl;exact bQ hW
 refine zL ?_;refine zo 10 λK hK=>?_;go_simp
 (refine(T.o _ i.o.1.drew).mono ?_)
 rintro e3 w3 ⟨v3,rfl,d⟩;obtain⟨A3,k3,rfl,_,_,t⟩:=d.form;have u:=Q.later d.below;refine zJ hK u ?_;refine zo 11 λK hK=>?_;go_simp
 (refine(X.o _ (af i.o.1.drew d.below) A3 k3 t).mono ?_)
 rintro e4 w4 ⟨ve,vq,rfl,L,N,l⟩;have O:=u.later l;refine zJ hK O ?_;rw[bI];have a:=Z4 (af (af i.o.1.drew d.below) l) (aP L (af i.o.1.drew d.below).size) (aP N (af i.o.1.drew d.below).size) ((i.o.2.1.drew.later d.below).later l);clear L N l d t Q u O;generalize P:pT ve vq e (decide (gQ c e 0<0))=R at*;have y:R.size=5/\R.all (·.oneCell')=true:=by
  rw[<-P];have h1:=ak a.o.2.1;have h2:=ak a.o.2.2.1;obtain⟨_,_,rfl,_⟩:=h1;obtain⟨_,_,rfl,_⟩:=h2;exact⟨rfl,by simp[pT,Value.oneCell']⟩
 refine zj j8 (cs:=R) (hn:=y.1) (h1:=y.2) a.o.2.2.2 ?_;intro w9 ag z;go_wp2;refine OH (cx j8 rfl ag y.1 _ rfl) rfl ⟨ve,vq,by rw[P];rfl,?_,?_,z.below a.o.1 zO⟩
 ·exact z.B7.C8 a.o.2.1 λb e f=>aB a.o.2.1 a.o.2.2.2 zP (f▸e)
 ·exact z.B7.C8 a.o.2.2.1 λb e f=>aB a.o.2.2.1 a.o.2.2.2 zP (f▸e)
section
open Go.Maps Go.Sort Go.Shelf
def GS:Result Next->Bool
 | .ok (.enter _ _) _=>false
 | .ok (.row _ _) _=>false
 |_=>true
def MQ{F:Fence}{n:Nat}{P:Program}{o:Oper}{a:Act}{K:Act->World->Prop}{Q:Exit->Act->World->Prop}{r:Result Next}(hq:GS r=true)(h:o.upon P a K Q r):o.uponIn F n P a K Q r:=by
 unfold Oper.upon at h;unfold Oper.uponIn;split at h
 ·exact h
 ·exact h
 ·exact h
 ·cases hq
 ·cases hq
 ·exact h
 ·exact h.elim
def qC:Op->Bool
 | .load _ _=>true
 | .alloc _=>true
 | .store _ _ _=>true
 |_=>false
def GT{P:Program}{ρ:Operand->Value}{o:Oper}(h:qC o.op=true)(w:World):GS ((execOp ρ o).run P w)=true:=by
 unfold execOp
 cases ho:o.op<;>simp only[ho,qC]at h<;>first|cases h|skip
 all_goals
  simp only[Sem.run_bind];generalize Sem.run P _ w=r
  cases r<;>rfl
def nD{F:Fence}{n:Nat}{P:Program}{o:Oper}{ops:Array Oper}{rest:List Oper}{a:Act}{w:World}{Q:Exit->Act->World->Prop}(hgd:o.guard=none)(hq:qC o.op=true)
  (h:∀K:Act->World->Prop,(∀a' w',wpListIn F n P ops Q rest a' w'->K a' w')->o.wp P a w K Q):wpListIn F n P ops Q (o::rest) a w:=by
 refine wpListIn_plain hgd λK hK=>?_;have b:=h K hK;unfold Oper.wp at b;unfold Oper.wpIn;refine⟨λf d=>?_,?_⟩
 ·unfold Oper.about at d
  cases ho:o.op<;>simp[ho,qC]at hq d
 ·rw[Oper.semAt_plain F _ _ (λc e=>by rw[e]at hq;cases hq)];exact MQ (GT hq w) b
variable {F:Fence} {m n:Nat} {P:Program} {T:TypeId} {ops:Array Oper} {rest:List Oper} {o:Oper} {a:Act} {w:World} {Q:Exit→Act→World→Prop}
def rW(hT:cU P T n)(hgd:o.guard=none)(x:Operand)(ho:o.op=.load T x)
  (ad:Addr)(hx:a.eval x=.pointer (some ad))(cs:Array Value)(hn:cs.size=n)(hc:∀j v,cs.toList[j]?=some v->w.cell? (ad.add j)=some v)(h:wpListIn F m P ops Q rest (a.put o.dst (.agg cs)) w):wpListIn F m P ops Q (o::rest) a w:=
 nD hgd (by rw[ho];rfl) λK hK=>nU hT x ho ad hx cs hn hc (hK _ _ h)
def pV(hT:cU P T n)(hgd:o.guard=none)(ho:o.op=.alloc T)
  (h:wpListIn F m P ops Q rest (a.put o.dst (Z w.heap.size 0)) (w.alloc (.cells (zc P T) T))):wpListIn F m P ops Q (o::rest) a w:=
 nD hgd (by rw[ho];rfl) λK hK=>pg hT ho (hK _ _ h)
def iz(hT:cU P T n)(hgd:o.guard=none)(x y:Operand)(ho:o.op=.store T x y)(g:Nat)(hx:a.eval x=Z g 0)(cs:Array Value)(hy:a.eval y=.agg cs)
  {t:TypeId}{E8:Array Value}(hb:Blk w g t E8)(hn:cs.size=n)(hold:E8.size=n)(h1:cs.all (·.oneCell')=true)
  (h:∀w',Blk w' g t cs->aI g w w'->wpListIn F m P ops Q rest (a.put o.dst undef) w'):wpListIn F m P ops Q (o::rest) a w:=
 nD hgd (by rw[ho];rfl) λK hK=>bX hT x y ho g 0 hx cs hy hb hn zO h1 λw' b c=>hK _ _ (h w' (by rwa [pi _ _ zO]at b) c)
end
section
open Go.Maps Go.Sort Go.Shelf
set_option maxRecDepth 100000
attribute [local go_sem] Oper.semAt_some
def fS(l:List Vt):List (Int×Vt):=(l.mapIdx λi x=>((i:Int),x)).reverse
def pW:(fS l).length=l.length:=by simp[fS]
def GU{l:List Vt}{m k:Nat}(h:l.length=m+1+k)(hk:k<(fS l).length)(hm:m<l.length):(fS l)[k]=((m:Int),l[m]):=by
 have:l.length-1-k=m:=zO;simp[fS,this]
def GV(hn:1<=n)(l Bb tb:Nat)(A:Option Addr)(cp:Nat)(es:List Vt)(S:Nat->Prop)(hSb:S Bb)(hSA:∀ad,A=some ad->0<es.length->S ad.block)(hfew:es.length<=100000)(J Jx:List (Int×Vt)->World->Prop)(W:World)
  (hY:∀pre x W1,J pre W1->pre.length<(fS es).length->YieldAt Fence.wide (n-1) prog l #[I x.1,.agg x.2.arr] W1 λe W'=>
   (e=.returned (.bool true)/\J (pre++[x]) W'/\KpQ S W1 W')\/(e=.returned (.bool false)/\Jx (pre++[x]) W'))
  (hBn:Blk W Bb tb #[.slice A es.length cp])(hR:an W W.heap.size 34 A es.length (vts es))(h0:J [] W):
  CallsIn Fence.wide n prog 110 #[.func (.yield l) #[] #[],Z Bb 0] W λe W'=>(∃v,e=.returned v)/\
   ((∃ys,ys=fS es/\J ys W')\/(∃pre,pre <+:fS es/\Jx pre W')):=by
 have f:=pW es;have y:=Z3 f hSA hR;refine callsIn_of_wp func110 rfl trivial ?_ rfl;simp only[ntmps110,OD,OC,OE,Nat.reduceAdd,Nat.reduceSub,Qu,Qv,QJ,QD,QA,PY];have X:=hBn.cell 0;simp at X;have ai:IntKind.i64.wrap ((es.length:Int)-1)=(es.length:Int)-1:=IntWalk.i64_in _ ⟨zO,zO⟩;obtain⟨N,hN⟩:∃N,N=es.length:=⟨_,rfl⟩;clear hR f hSA;gi_wp2
 gi_loopw [3] (λi wr=>∃k:Nat,k<=es.length/\i=I ((es.length:Int)-1-k)/\Hid (J ((fS es).take k) wr/\KpQ S W wr)) (λi _=>(intOf i+1).toNat)
 case atStart=>exact⟨0,OK _,zS,Z1 ⟨by simpa using h0,KpQ.refl _ _⟩⟩
 case round=>
  obtain⟨k,hk,rfl,c⟩:=hrel;have b1:wr.cell? (Y Bb 0)=some (.slice A es.length cp):=by
   have z:Blk wr Bb tb #[.slice A es.length cp]:=(c.o.2.1 Bb hSb).trans hBn;have:=z.cell 0
   simpa using this
  by_cases B:k<es.length
  ·obtain⟨m,s⟩:∃m,es.length=m+1+k:=⟨es.length-1-k,zO⟩;have g:m<es.length:=zO;have h:k<(fS es).length:=by rw[pW];exact B
   have D:=OG h;have t:=GU s h g;obtain⟨b,o,rfl,_,a⟩:=y.o.2.2.elem Vt.C2 zP rfl g;obtain⟨fn,aa,F,ab,hy,p⟩:=hY _ (fS es)[k] wr c.o.1 zT;have q:∀j u,es[m].arr.toList[j]?=some u->wr.cell? (((Y b (o+m*34)):Addr).add j)=some u:=by
    refine dw λj u hj=>?_;have G:=a j u hj;rw[<-PQ]at G;have h2:=c.o.2.1 b (y.o.2.1 _ rfl zO);simpa[World.cell?,h2]using G
   have H:=Z1 D;have d:(es.length:Int)-1-k=(m:Int):=zO;have ag:(m:Int)<(es.length:Int):=zO;have aj:IntKind.i64.wrap ((m:Int)-1)=(m:Int)-1:=IntWalk.i64_in _ ⟨zO,zO⟩;rw[d];rw[t]at hy p;have L:=Z1 t;have O:=Z2 d s;have P:=Z2 (show es[m].arr.size=34 from kF _) q;clear D a d s q t;generalize es[m]=x at*;generalize x.arr=cs at*
   gi_wp2_with (refine rW ba rfl (.tmp 15) rfl (Y b (o+m*34)) zF cs P.o.1 P.o.2 ?_)
   refine p.mono ?_;rintro e W3 (⟨rfl,Q,R⟩|⟨rfl,w⟩)
   ·gi_wp2;go_roundw
    case rel=>exact⟨k+1,zO,by have:=O.o.1;congr 1;omega,Z1 ⟨by rw[H.o,L.o];exact Q,c.o.2.trans R⟩⟩
    case measure=>have:=O.o.1;simp[intOf]
   ·gi_wp2;refine OH (Pb rfl _ _ _) rfl ?_;exact⟨⟨_,rfl⟩,.inr ⟨_,by have T:=H.o;rw[L.o]at T;rw[<-T];exact List.take_prefix _ _,w⟩⟩
  ·obtain rfl:k=es.length:=zO;have U:(es.length:Int)-1-(es.length:Int)= -1:=zO;have r:=c.o.1;rw[OT (by rw[pW];exact OA _)]at r;rw[U];gi_wp2
   go_end0
   exact⟨⟨_,rfl⟩,.inl ⟨_,rfl,r⟩⟩
def NM(hn:1<=n)(Bb tb:Nat)(A:Option Addr)(cp:Nat)(es:List Vt)(S:Nat->Prop)(hSb:S Bb)(hSA:∀ad,A=some ad->0<es.length->S ad.block)(hfew:es.length<=100000)(w:World)(hBn:Blk w Bb tb #[.slice A es.length cp])(hR:an w w.heap.size 34 A es.length (vts es)):
  SeqStopsK Fence.wide n prog 110 #[Z Bb 0] (λx:Int×Vt=>#[I x.1,.agg x.2.arr]) (KpQ S) (λys=>ys=fS es) (λpre=>pre <+:fS es) (fS es).length w:=λl J a W hW d _ b c=>
 GV n hn l Bb tb A cp es S hSb hSA hfew J a W b (hBn.later hW) (hR.up hW) c
def GW(n c:Nat)(w:World):C 64 #[.slice A n c] w λe w'=>e=.returned (.func (.func 110) #[] #[Z w.heap.size 0])/\w.alloc (.cells #[.slice A n c] 35)=w':=by
 go_in
 go_wp2;go_ret;exact⟨rfl,rfl⟩
end
def jc:Array Value:=#[I 0,I 0,I 0,I 0,I 0]
def lI(k:K2)(x:Vt):Bool:=decide (x.kind=6)&&decide (x.key=k)
def qD(w WA:World)(k:K2)(tk ta tb:TypeId)(S:Nat->Prop)(pre:List (Int×Vt))(W:World):Prop:=
 ((Blk W w.heap.size tk k.arr/\Blk W (w.heap.size+1) ta jc/\Blk W (w.heap.size+2) tb #[.bool false])/\M w W)/\KpQ S WA W/\∀y∈pre,lI k y.2=false
def Lq(w:World)(k:K2)(ta tb:TypeId)(c:Code)(pre:List (Int×Vt))(W:World):Prop:=
 c=.ret/\∃p y,pre=p++[y]/\(∀z∈p,lI k z.2=false)/\lI k y.2=true/\(Blk W (w.heap.size+1) ta y.2.E0.cells.toArray/\Blk W (w.heap.size+2) tb #[.bool true])/\M w W
def iR{W:World}{row:Option Nat}{g:Nat}{t:TypeId}(h:Blk W g t cs)(hg:W.grownBy W' row)(hr:∀r,row=some r->B<=r/\∃o:Obj,W.heap[r]?=some o/\o.isCells=false):Blk W' g t cs:=
 (hg.block g h.lt λe=>by
  obtain⟨_,o,a,b⟩:=hr g e.symm;rw[show W.heap[g]?=_ from h]at a;injection a with a;subst a
  cases b).trans h
def GX{w:World}{k:K2}{tk ta tb:TypeId}(h1:w.heap.size<=WA.heap.size)(hS:∀j,S j->j<WA.heap.size):OwnFrom WA.heap.size (qD w WA k tk ta tb S):=λs W o n g a b=>by
 obtain⟨⟨⟨h,i,l⟩,c⟩,d,m⟩:=g;refine⟨⟨⟨iR h a b,iR i a b,iR l a b⟩,c.grown a c.size λr e=>OJ h1 (b r e).1⟩,d.trans ⟨λj f=>a.block j (OV (hS j f) d.2) (λe=>by have:=(b j e.symm).1;have:=hS j f;omega),a.size⟩,m⟩
def qD.up{w W:World}{k:K2}{tk ta tb:TypeId}{pre:List (Int×Vt)}(h:qD w WA k tk ta tb S pre W)(hS:∀j,S j->j<WA.heap.size)(hb:M W W'):qD w WA k tk ta tb S pre W':=by
 obtain⟨⟨⟨b,c,d⟩,e⟩,a,f⟩:=h;exact⟨⟨⟨b.later hb,c.later hb,d.later hb⟩,af e hb⟩,a.trans ⟨λj g=>hb.block j (OV (hS j g) a.2),hb.size⟩,f⟩
def GY{w:World}{k:K2}{ta tb:TypeId}(h1:w.heap.size<=WA.heap.size)(c:Code):OwnFrom WA.heap.size (Lq w k ta tb c):=λs W o n f a b=>by
 obtain⟨g,p,y,h,i,j,⟨l,m⟩,d⟩:=f;exact⟨g,p,y,h,i,j,⟨iR l a b,iR m a b⟩,d.grown a d.size λr e=>OJ h1 (b r e).1⟩
section
open Go.Maps Go.Sort Go.Shelf
set_option maxRecDepth 100000
attribute [local go_sem] Oper.semAt_some
def uh(A:Option Addr)(n cp:Nat)(k0 k1:Int)(q vb:Nat)(x:Int×Vt):Act:={tmps:=#[.slice A n cp,.agg #[E k0,E k1],undef,Z q 0,Z (q+1) 0,Z (q+2) 0,undef,Z vb 0,.slice A n cp,.func (.func 110) #[] #[Z (q+3) 0],I x.1,.agg x.2.arr,undef,undef,undef,undef,undef,undef,undef,undef,undef,undef,undef,undef],defers:=[]}
def BO:cU prog 62 5:=⟨zR,zR,zR⟩
def pX{q:Nat}{b:Bool}(h1:Blk w (q+1) 62 cs)(hn:cs.size=5)(h2:Blk w (q+2) 4 #[.bool b])(tmps:Array Value)(h4:tmps[4]?.getD undef=Z (q+1) 0)(h5:tmps[5]?.getD undef=Z (q+2) 0):
  (results f19 tmps).run prog w=.ok (.tuple #[.agg cs,.bool b]) w:=by
 obtain⟨l⟩:=cs;obtain⟨a,c,d,e,f,rfl⟩:∃a c d e f,l=[a,c,d,e,f]:=by
  match l,hn with
  |[a,c,d,e,f],_=>exact⟨a,c,d,e,f,rfl⟩
 have g:=h1.cell 0;have h:=h1.cell 1;have i:=h1.cell 2;have j:=h1.cell 3;have k:=h1.cell 4;have m:=h2.cell 0;simp at g h i j k m;simp[results,results19,h4,h5,asAddr,go_sem,g,h,i,j,k,m]
def KS:(fS l).map (·.2)=l.reverse:=by
 unfold fS;rw[List.map_reverse];congr 1;apply QI;intro i;simp
 cases l[i]?<;>rfl
def tx:kb l k=((fS l).find? λy=>lI k y.2).map (·.2.E0):=by
 unfold kb;rw[<-KS,List.find?_map,Option.map_map];have:(λy:Int×Vt=>lI k y.2)=((λx:Vt=>decide (x.kind=6/\x.key=k)) ∘ λx:Int×Vt=>x.2):=by
  funext y;simp[lI]
 rw[this];rfl
def GZ(es:List Vt)(hes:∀x∈es,x.ok)(k:K2)(A:Option Addr)(cp:Nat)(w:World)(hr:an w w.heap.size 34 A es.length (vts es))(hfew:es.length<=100000):
  C 19 #[.slice A es.length cp,.agg k.arr] w λe w'=>e=.returned (.tuple #[.agg ((kb es k).getD az).cells.toArray,.bool (kb es k).isSome])/\M w w':=by
 refine(callsIn_wide (n:=3)).1 ?_;refine callsIn_of_wp_marks func19 rfl trivial ?_ rfl;simp only[ntmps19,OD,OC,OE,Nat.reduceAdd,Nat.reduceSub,Qu,Qv,QJ,QD,QA,PY];obtain⟨a,d⟩:=k;unfold K2.arr;simp only;gi_wp2;refine⟨trivial,(callsIn_wide.2 (GW _ _ _ _)).mono ?_⟩;rintro e w' ⟨rfl,rfl⟩;gi_wp2;have ay:=Blk.A8 w 58 (K2.arr ⟨a,d⟩) rfl;have a0:=Blk.A8 (w.alloc (.cells (K2.arr ⟨a,d⟩) 58)) 62 jc (g:=w.heap.size+1) zS;have a1:=Blk.A8 ((w.alloc (.cells (K2.arr ⟨a,d⟩) 58)).alloc (.cells jc 62)) 4 #[.bool false] (g:=w.heap.size+2) zS;have a2:=Blk.A8 (((w.alloc (.cells (K2.arr ⟨a,d⟩) 58)).alloc (.cells jc 62)).alloc (.cells #[.bool false] 4)) 35 #[.slice A es.length cp] (g:=w.heap.size+3) zS;have ab:M w ((((w.alloc (.cells (K2.arr ⟨a,d⟩) 58)).alloc (.cells jc 62)).alloc (.cells #[.bool false] 4)).alloc (.cells #[.slice A es.length cp] 35)):=ae (ae (ae (ae (Oy _ w) _) _) _) _;have h1:qD w _ ⟨a,d⟩ 58 62 4 (λb=>b<w.heap.size\/b=w.heap.size+3) [] ((((w.alloc (.cells (K2.arr ⟨a,d⟩) 58)).alloc (.cells jc 62)).alloc (.cells #[.bool false] 4)).alloc (.cells #[.slice A es.length cp] 35)):=⟨⟨⟨((ay.alloc _).alloc _).alloc _,(a0.alloc _).alloc _,a1.alloc _⟩,ab⟩,KpQ.refl _ _,λy m=>by cases m⟩;have P:((((w.alloc (.cells (K2.arr ⟨a,d⟩) 58)).alloc (.cells jc 62)).alloc (.cells #[.bool false] 4)).alloc (.cells #[.slice A es.length cp] 35)).heap.size=w.heap.size+4:=zS;have a3:=NM 2 zP (w.heap.size+3) 35 A cp es (λb=>b<w.heap.size\/b=w.heap.size+3) (.inr rfl) (λad e h0=>by
  obtain⟨bw,e2,h2,_⟩:=hr.2 h0;rw[e]at e2;injection e2 with e2;exact .inl (e2▸h2)) hfew _ a2 (hr.up ab)
 have Q:=Z3 P ab hes;have bg:=Z1 h1;have bh:=Z1 a3;clear P h1 a3 ay a0 a1 a2 ab hes;unfold K2.arr jc at*;simp only[PQ,Nat.reduceAdd];generalize bx:((((w.alloc (.cells #[E a,E d] 58)).alloc (.cells #[I 0,I 0,I 0,I 0,I 0] 62)).alloc (.cells #[.bool false] 4)).alloc (.cells #[.slice A es.length cp] 35))=WA at*;have ac:∀j,(j<w.heap.size\/j=w.heap.size+3)->j<WA.heap.size:=λj R=>by have:=Q.o.1;omega
 have a4:w.heap.size<=WA.heap.size:=by have:=Q.o.1;omega
 refine wpIn_rangeFunc_ownH rfl zP (gf:=110) (lb:=#[Z (w.heap.size+3) 0]) rfl trivial (enters_of func110 zR rfl)
  bh.o (λh k=>h.trans k) (λW l o o' hl h1 h2 h3=>⟨el.put ac W l o o' hl h1 h2 h3,zS⟩) (Oy _ _) (λ_=>rfl)
  (qD w WA ⟨a,d⟩ 58 62 4 λb=>b<w.heap.size\/b=w.heap.size+3) (Lq w ⟨a,d⟩ 62 4) (GX a4 ac) (λc=>GY a4 c)
  bg.o (λx a' W=>∃H,WA.heap.size<=H/\Blk W H 79 x.2.arr/\a'=uh A es.length cp a d w.heap.size H x) ?ax ?assign ?body ?done ?stop
 case ax=>
  rintro x a' s W W' bz ⟨H,h1,h2,h3⟩ hg hr;exact⟨H,h1,iR h2 hg hr,h3⟩
 case assign=>
  rintro l ao ⟨i,x⟩ W K S hK;obtain⟨⟨b0,q⟩,hk,t⟩:=id S;have P:=hk.2;have hx:=kF x;simp only;refine wpIn_region_lit ?_;refine pV ba rfl rfl ?_;go_simp;refine iz ba rfl (.tmp 7) (.tmp 11) rfl W.heap.size zF x.arr zF (Blk.A8 W 79 _ rfl) hx ba.D6 (mE x) ?_;intro L T v;have U:M W L:=v.below (ae (Oy _ W) _) (OA _);have HZ:=hK (uh A es.length cp a d w.heap.size W.heap.size (i,x)) L ⟨U.size,λj o _ R _=>(U.block j (PX.1 R).1).trans R⟩ ⟨λj R=>U.block j (OV (ac j R) P),U.size⟩ (S.up ac U) ⟨W.heap.size,P,T,rfl⟩;have HZ:=Z1 HZ;clear hK;gi_wp2;exact HZ.o
 case body=>
  rintro l ao ⟨i,x⟩ a' W _ _ S ⟨H,b1,u,rfl⟩ b2;unfold uh;simp only at*;obtain⟨⟨⟨N,B,F⟩,q⟩,X,t⟩:=id S;have c0:W.cell? ⟨H,0,none⟩=some (I x.kind):=u.cell 0;have b3:W.cell? ⟨H,27,none⟩=some (E x.key.hi):=u.cell 27;have b4:W.cell? ⟨H,28,none⟩=some (E x.key.lo):=u.cell 28;have d0:W.cell? ⟨w.heap.size,0,none⟩=some (E a):=N.cell 0;have d1:W.cell? ⟨w.heap.size,1,none⟩=some (E d):=N.cell 1;have a5:=qj x.key.hi x.key.lo a d;have HI:=Z1 S;by_cases h6:x.kind=6
  ·by_cases aa:x.key=⟨a,d⟩
   ·have hq:(x.key.hi==a&&x.key.lo==d)=true:=by rw[aa];simp
    rw[hq]at a5;have f:lI ⟨a,d⟩ x=true:=by simp[lI,h6,aa]
    have G:=Z4 f t q F;have b5:W.cell? ⟨H,29,none⟩=some (I x.E0.tick):=u.cell 29;have b6:W.cell? ⟨H,30,none⟩=some (I x.E0.load):=u.cell 30;have b7:W.cell? ⟨H,31,none⟩=some (I x.E0.want):=u.cell 31;have b8:W.cell? ⟨H,32,none⟩=some (I x.E0.V1):=u.cell 32;have b9:W.cell? ⟨H,33,none⟩=some (I x.E0.I8):=u.cell 33;have bj:=Z1 B;rw[h6]at c0;generalize a6:x.E0=ad at*;have bk:=Z1 a6;clear a6;have aq:w.heap.size+2≠w.heap.size+1:=zO;clear f S N B F q X t u hq h6
    gi_wp2_with (refine iz BO rfl (.tmp 4) (.tmp 22) rfl (w.heap.size+1) zF #[I ad.tick,I ad.load,I ad.want,I ad.V1,I ad.I8] zF bj.o rfl zF zV ?_;intro L T v;have O:Blk L (w.heap.size+2) 4 #[.bool false]:=v.B7.B0 G.o.2.2.2 aq;have cB:=O.cell 0;have fB:=O.frozen 0)
    have a7:=Q.o.1;refine⟨KeepsFrom.trans (Y:=L) ⟨v.B7.size,λj o hB R _=>(v.B7.block j (PX.1 R).1 zO).trans R⟩ ((KeepsOthers.setCell _ _ _).from _),rfl,ao,(i,x),rfl,G.o.2.1,G.o.1,⟨?_,?_⟩,(v.below G.o.2.2.1 zO).setCell (p:=⟨w.heap.size+2,0,none⟩) (by show w.heap.size<=w.heap.size+2;omega) _⟩
    ·have:=T.D1 (p:=⟨w.heap.size+2,0,none⟩) (by show w.heap.size+1≠w.heap.size+2;omega) (.bool true);rw[<-bk.o]at this;exact this
    ·have:=O.B4 0 (.bool true)
     simpa using this
   ·have hq:(x.key.hi==a&&x.key.lo==d)=false:=by
     cases hqq:(x.key.hi==a&&x.key.lo==d)with
     |false=>rfl
     |true=>
      simp at hqq;exact(aa (by cases hxk:x.key;rw[hxk]at hqq;simp at hqq;rw[hqq.1,hqq.2])).elim
    rw[hq]at a5;have f:lI ⟨a,d⟩ x=false:=by simp[lI,aa]
    have G:=Z1 f;rw[h6]at c0;clear f S N B F q X t u aa hq;gi_wp2;exact⟨KeepsFrom.refl _ _,KpQ.refl _ _,HI.o.1,HI.o.2.1,λy m=>by
     rcases Po.1 m with m|m
     ·exact HI.o.2.2 y m
     ·simp at m;subst m;exact G.o⟩
  ·have ca:(x.kind==6)=false:=by simpa using h6
   have f:lI ⟨a,d⟩ x=false:=by simp[lI,h6]
   have G:=Z1 f;clear f S N B F q X t u;gi_wp2;exact⟨KeepsFrom.refl _ _,KpQ.refl _ _,HI.o.1,HI.o.2.1,λy m=>by
    rcases Po.1 m with m|m
    ·exact HI.o.2.2 y m
    ·simp at m;subst m;exact G.o⟩
 case done=>
  rintro D ys W hD rfl ⟨⟨⟨N,B,F⟩,q⟩,X,t⟩ hK;have a7:=Q.o.1;have aq:w.heap.size+2≠w.heap.size+1:=zO;have G:=Z5 B F q t hK;clear B F q t hK N X
  gi_wp2_with (refine iz BO rfl (.tmp 4) (.tmp 23) rfl (w.heap.size+1) zF jc zF G.o.1 rfl zF (by simp[Value.oneCell',jc]) ?_;intro L T v;have O:Blk L (w.heap.size+2) 4 #[.bool false]:=v.B7.B0 G.o.2.1 aq;have cB:=O.cell 0;have fB:=O.frozen 0)
  have bd:Blk (L.setCell ⟨w.heap.size+2,0,none⟩ (.bool false)) (w.heap.size+2) 4 #[.bool false]:=by
   have:=O.B4 0 (.bool false)
   simpa using this
  have be:=T.D1 (p:=⟨w.heap.size+2,0,none⟩) (by show w.heap.size+1≠w.heap.size+2;omega) (.bool false);have bf:=(v.below G.o.2.2.1 zO).setCell (p:=⟨w.heap.size+2,0,none⟩) (by show w.heap.size<=w.heap.size+2;omega) (.bool false);have a8:(L.setCell ⟨w.heap.size+2,0,none⟩ (.bool false)).heap[D]?=some (.deferred (some [])):=(Pd L ⟨w.heap.size+2,0,none⟩ _ D (by show D≠w.heap.size+2;omega)).trans ((v.B7.block D (PX.1 G.o.2.2.2.2).1 zO).trans G.o.2.2.2.2);generalize L.setCell ⟨w.heap.size+2,0,none⟩ (.bool false)=W2 at*;refine⟨zS,.inl ⟨_,_,rfl,run_takeDeferred a8,?_⟩⟩;have af:Blk (W2.putObj D (.deferred none)) (w.heap.size+1) 62 jc:=(World.putObj_heap_other zO).trans be;have ag:Blk (W2.putObj D (.deferred none)) (w.heap.size+2) 4 #[.bool false]:=(World.putObj_heap_other zO).trans bd;have aw:kb es ⟨a,d⟩=none:=by
   rw[tx,RB.2 λy m=>by rw[G.o.2.2.2.1 y m];simp];rfl
  refine⟨.tuple #[.agg jc,.bool false],pX _ af rfl ag _ zF zF,by rw[aw];rfl,bf.trans (belowK_b (w:=w) (OA _) _ D _ (.deferred none) zO a8 rfl rfl)⟩
 case stop=>
  rintro D c ao W hD ⟨r,hr⟩ ⟨rfl,p,y,rfl,t,f,⟨B,F⟩,q⟩ hK;have a7:=Q.o.1;have af:Blk (W.putObj D (.deferred none)) (w.heap.size+1) 62 y.2.E0.cells.toArray:=(World.putObj_heap_other zO).trans B;have ag:Blk (W.putObj D (.deferred none)) (w.heap.size+2) 4 #[.bool true]:=(World.putObj_heap_other zO).trans F;have ah:kb es ⟨a,d⟩=some y.2.E0:=by
   rw[tx,<-hr,Pv,List.find?_append,RB.2 λz hz=>by rw[t z hz];simp];simp[List.find?_cons,f]
  have HF:=Z5 ah af ag hK (q.trans (belowK_b (w:=w) (OA _) _ D _ (.deferred none) zO hK rfl rfl));clear af ag ah hK q t f B F hr;gi_wp2;refine⟨zS,.inl ⟨_,_,rfl,run_takeDeferred HF.o.2.2.2.1,?_⟩⟩;exact⟨.tuple #[.agg y.2.E0.cells.toArray,.bool true],pX _ HF.o.2.1 rfl HF.o.2.2.1 _ zF zF,by rw[HF.o.1];rfl,HF.o.2.2.2.2⟩
end
def awA:Adv:=((kb (j9 awC awP 1 []).g.ev (av awI)).getD az)
def Ha:awC.ok:=by unfold Cg.ok;decide+kernel
def NN:cj (awC.st:Nat) (awC.sa:Nat) (awC.lo:Nat) (awC.hi:Nat) awP (1:Nat)=0:=by decide+kernel
def ui:mostN awC awP 1=54:=by decide+kernel
def MR:(kb (j9 awC awP 1 []).g.ev (av awI)).isSome=true/\awA.V1=3:=by decide+kernel
def Oi:bd awI=true:=by decide+kernel
def DM:∀p∈awP,p.length<=256/\∀x∈p,x.ok:=by
 intro p a;simp only[awP,Pj,List.mem_nil_iff,or_false]at a;subst a;refine⟨zP,λx b=>?_⟩;simp only[Pj,List.mem_nil_iff,or_false]at b
 rcases b with rfl|rfl
 all_goals exact⟨by unfold aq;decide,by unfold aq;decide,by unfold aq;decide,by unfold aq;decide,⟨by unfold aq;decide,by unfold aq;decide,by unfold aq;decide,by unfold aq;decide,by unfold aq;decide,by unfold aq;decide⟩,zP⟩
def DN:ge awC awP:=⟨Ha,λp a=>⟨OJ (DM p a).1 zP,(DM p a).2⟩,zP⟩
def NO:dI awC awP (j9 awC awP 1 [])/\(j9 awC awP 1 []).used<=55:=by
 have h:=(dI.new DN 1 zP).run DN (finL awC awP 1 []) (by rw[yE,ui];decide);refine⟨h.1,?_⟩;have:=h.2.1;rw[yE,ui]at this;exact this
def MS:gQ awC (j9 awC awP 1 []) 0<0:=by decide+kernel
def Hb:C 41 #[] w (J (.agg #[I 1,I 10,I 100,I 100,I 5,I 3]) w):=by
 go_in
 have a:=Blk.A8 w 51 #[I 0,I 0,I 0,I 0,I 0,I 0] rfl;have b:=Z2 a (ae (Oy _ w) (.cells #[I 0,I 0,I 0,I 0,I 0,I 0] 51));clear a
 go_wp2_with (refine zj wR (cs:=#[I 1,I 10,I 100,I 100,I 5,I 3]) b.o.1 ?_;intro f c d)
 exact OH (au wR rfl c rfl _ rfl) rfl ⟨rfl,d.below b.o.2 (OA _)⟩
def awB(w:World):World:=(w.alloc (.cells #[I 6,.string ⟨#[97]⟩,I 0,I 0,I 0,I 1,I 10,I 100,I 100,I 5,I 3,I 1,.string ⟨#[97]⟩,I 1,I 250,I 0,I 0,I 0,I 0,I 0,I 0,I 0] 73)).alloc (.cells #[V w.heap.size 0 2 2] 40)
def NP:dv (awB w) (some (Y (w.heap.size+1) 0)) 1 awP/\M w (awB w):=by
 have c:=(Blk.A8 w 73 (cls awP[0]).toArray rfl).alloc (.cells #[V w.heap.size 0 2 2] 40);have d:=Blk.A8 (w.alloc (.cells (cls awP[0]).toArray 73)) 40 #[V w.heap.size 0 2 2] (g:=w.heap.size+1) zS;refine⟨⟨[V w.heap.size 0 2 2],⟨rfl,λ_=>⟨_,rfl,by simp[awB],λj u a=>?_⟩⟩,rfl,λi e=>?_⟩,ae (ae (Oy _ w) _) _⟩
 ·exact bQ (w:=awB w) d j u a
 ·have b:i=0:=by simp[awP]at e;omega
  subst b;exact⟨some (Y w.heap.size 0),2,rfl,OA 2,zP,rfl,λ_=>⟨_,rfl,by simp[awB];omega,λj u a=>bQ (w:=awB w) c j u a⟩⟩
def NQ(h:dv w A 1 awP):∃(l:List Vt) (ad:Adv),C 42 #[.agg #[I 2,I 4,I 4,I 2],.slice A 1 1,I 1,.slice none 0 0] w (λr w'=>∃A3 k3 vq u op,r=.returned (.tuple #[.agg #[.slice A3 l.length k3,I u,I op,vq,.bool true],I 0])/\
   an w' w'.heap.size 34 A3 l.length (vts l)/\(∃A4 n4 k4,vq=.slice A4 n4 k4)/\M w w')/\l.length<=80000/\(∀x∈l,nz x)/\mT awC l/\sV l/\ix (l.map aK)=true/\kb l (av awI)=some ad/\ad.V1=3:=by
 have d:=AU w awC awP DN A none 1 1 0 1 h zP zP DM NN [] zS ⟨rfl,λh=>absurd h zP⟩ zP (by rw[ui];decide);rw[decide_eq_true MS]at d;have b:=NO;have i:=b.1.evs zO;have c:=MR;unfold awA at c;generalize j9 awC awP 1 []=e at*;refine⟨e.g.ev,(kb e.g.ev (av awI)).getD az,d.mono λr w' ⟨n,vq,j,f,k,m⟩=>?_,zO,b.1.E.L9.O3,b.1.E.L9.U0,b.1.E.L9.told,b.1.E.L9.right,?_,c.2⟩
 ·obtain⟨A3,k3,rfl,_⟩:=ak f;obtain⟨A4,k4,rfl,_⟩:=ak k;exact⟨A3,k3,.slice A4 e.g.q.line.length k4,(e.used:Int),(openN e:Int),j,an.C4 f,⟨A4,_,k4,rfl⟩,m⟩
 ·cases hq:kb e.g.ev (av awI)with
  |none=>rw[hq]at c;cases c.1
  |some a=>rfl
def pY:C 7 #[] w (J (.bool true) w):=by
 have HU:=Z1 (λW=>Hb W)
 go_in
 go_wp2_with fail;refine zm (HU.o _) λw1 N=>?_;have z:=Z1 N;clear N;have O:=(Blk.A8 w 23 #[I 2,I 4,I 4,I 2] rfl).later z.o;have P:=af (ae (Oy _ w) (.cells #[I 2,I 4,I 4,I 2] 23)) z.o;have Q:=NP w1;have q:=Z3 O P Q;clear O P Q;go_upto_region 3 with fail
 unfold awB at q;generalize a1:(w1.alloc (.cells #[I 6,.string ⟨#[97]⟩,I 0,I 0,I 0,I 1,I 10,I 100,I 100,I 5,I 3,I 1,.string ⟨#[97]⟩,I 1,I 250,I 0,I 0,I 0,I 0,I 0,I 0,I 0] 73)).alloc (.cells #[V w1.heap.size 0 2 2] 40)=w2 at*;have R:=q.o.2.2.1;have S:=af q.o.2.1 q.o.2.2.2;have c:=q.o.1.later q.o.2.2.2;obtain⟨l,a,hF,ao,B,T,U,X,aa,ab⟩:=NQ w2 _ R;have HF:=Z1 hF;obtain⟨f,er,a4,ac,ag⟩:=rJ awI zP;have D:=ac Oi;have HK:=Z1 ag;have HL:=Z1 (λ(W:World) (A:Option Addr) (k n:Nat) (hn:n=l.length) (hr:an W W.heap.size 34 A n (vts l))=>show C 43 #[.agg #[I 2,I 4,I 4,I 2],.slice A n k] W λe w'=>e=.returned (.bool true)/\M W w' from Di awC Ha l B T U X A k n W hr zO);have HD:=Z1 (λ(W:World) (A:Option Addr) (k n:Nat) (hn:n=l.length) (hr:an W W.heap.size 34 A n (vts l))=>show C 19 #[.slice A n k,.agg #[E f.hi,E f.lo]] W λe w'=>e=.returned (.tuple #[.agg #[I a.tick,I a.load,I a.want,I 3,I a.I8],.bool true])/\M W w' from by
  subst hn;have h:=GZ l (λx hx=>(B x hx).ok) f A k W hr zO;rw[D,aa]at h;rw[D,<-ab];exact h)
 have HE:=Z2 S c;have c0:=c.cell 0;have c1:=c.cell 1;have c2:=c.cell 2;have c3:=c.cell 3;clear hF ao B T U X aa ab D ag ac R S c a4 q a1 HU z;go_wp2_with fail;refine HF.o.mono ?_;rintro e3 w3 ⟨A3,k3,vq,u,op,rfl,F,⟨A4,n4,k4,rfl⟩,G⟩;obtain⟨H,r⟩:∃H,H=l.length:=⟨_,rfl⟩;rw[<-r]at F;rw[<-r];clear c0 c1 c2 c3;have y:=Z4 (af HE.o.1 G) (HE.o.2.later G) F r;have ah:=Blk.A8 w3 38 kG rfl;have a7:=Z1 ah;clear F r G ah
 go_wp2_with (refine zj j8 (cs:=#[.slice A3 H k3,I u,I op,.slice A4 n4 k4,.bool true]) a7.o ?_;intro w9 ai aj)
 have g:=aj.below (ae (Oy _ w3) _) (OA _);have s:=Z5 (af y.o.1 g) (y.o.2.1.later g) (y.o.2.2.1.up g) y.o.2.2.2 ai;clear ai aj g;refine zm (HK.o w9) λw4 i=>?_;have t:=Z4 (af s.o.1 i) (s.o.2.1.later i) (s.o.2.2.1.up i) (s.o.2.2.2.2.later i);clear i;go_upto_region 5 with fail
 have j:=ae (Oy _ w4) (.cells #[E f.hi,E f.lo] 58);have L:=Blk.A8 w4 58 #[E f.hi,E f.lo] rfl;have d:=Z4 (af t.o.1 j) (t.o.2.1.later j) (t.o.2.2.1.up j) (t.o.2.2.2.later j);have e0:=d.o.2.2.2.cell 0;have k0:=L.cell 0;have k1:=L.cell 1;clear L j;generalize w4.alloc (.cells #[E f.hi,E f.lo] 58)=w5 at*;go_wp2_with fail;refine zm (HD.o w5 A3 k3 H y.o.2.2.2 d.o.2.2.1) λw6 m=>?_;clear e0 k0 k1;have v:=Z4 (af d.o.1 m) (d.o.2.1.later m) (d.o.2.2.1.up m) (d.o.2.2.2.later m);clear m;go_upto_region 6 with fail
 have p:=ae (Oy _ w6) (.cells #[I a.tick,I a.load,I a.want,I 3,I a.I8] 62);have ak:=Blk.A8 w6 62 #[I a.tick,I a.load,I a.want,I 3,I a.I8] rfl;have b:=Z4 (af v.o.1 p) (v.o.2.1.later p) (v.o.2.2.1.up p) (v.o.2.2.2.later p);have a3:=ak.cell 3;clear ak p;generalize w6.alloc (.cells #[I a.tick,I a.load,I a.want,I 3,I a.I8] 62)=w7 at*;have e0:=b.o.2.2.2.cell 0;have e4:=b.o.2.2.2.cell 4;have c0:=b.o.2.1.cell 0;have c1:=b.o.2.1.cell 1;have c2:=b.o.2.1.cell 2;have c3:=b.o.2.1.cell 3;go_wp2_with fail;refine zm (HL.o w7 A3 k3 H y.o.2.2.2 b.o.2.2.1) λw8 al=>?_;have a8:=Z1 (af b.o.1 al);clear al e0 e4 c0 c1 c2 c3 a3;go_wp2;go_ret;exact⟨rfl,a8.o⟩
def ef(ps:List (List Cl))(wk:Int)(np:Nat):Bool:=ps.all (λp=>decide (p.length<=8))&&(decide (ps.length<=5)&&(decide (wk<=4)&&decide (np<=200)))
def Hc{ps:List (List Cl)}{k:Nat}(h:k<ps.length)(h8:¬ps[k].length<=8):ef ps wk np=false:=by
 unfold ef;have:ps.all (λp=>decide (p.length<=8))=false:=by
  rw[List.all_eq_false];exact⟨ps[k],OR h,by simpa using h8⟩
 rw[this];rfl
def DO{ps:List (List Cl)}(h:∀(j:Nat) (hj:j<ps.length),ps[j].length<=8):ef ps wk np=(decide (ps.length<=5)&&(decide (wk<=4)&&decide (np<=200))):=by
 unfold ef;have:ps.all (λp=>decide (p.length<=8))=true:=by
  rw[QT];intro p a;obtain⟨j,hj,rfl⟩:=PJ a
  simpa using h j hj
 rw[this];rfl
def DP(wk:Int)(A Ap:Option Addr)(n k np kp:Nat)(w:World)(hP:dv w A n ps)(hn:n<=10000000000000)(hnp:np<=maxLen)(hwk:aq wk):
  C 44 #[.slice A n k,I wk,.slice Ap np kp] w (J (.bool (ef ps wk np)) w):=by
 have m:=hP.len;have r:=Z1 m;have D:=Z1 hP;have d:=Z1 (Oy w.heap.size w);unfold aq at hwk;unfold maxLen at hnp;clear m hP
 go_in
 go_wp2;go_loop [7] (λi=>∃(k:Nat),k<=n/\i=I k/\Hid (∀(j:Nat) (f:j<ps.length),j<k->ps[j].length<=8)) (λi=>n-(intOf i).toNat)
 case atStart=>exact⟨0,zO,rfl,Z1 λj _ h=>zO⟩
 case round=>
  obtain⟨k,O,rfl,u⟩:=hrel;by_cases H:k<n
  ·have p:k<ps.length:=by have:=r.o;omega
   have s:(k:Int)<(n:Int):=zO;obtain⟨P,Q,R,rfl,F,S,L,v,q⟩:=D.o.at_ p;unfold maxLen at v;by_cases g:ps[k].length<=8
   ·have x:¬(8:Int)<(ps[k].length:Int):=zO;have G:=Z1 g;clear g q;go_wp2;go_round
    case rel=>
     refine⟨k+1,zO,by go_num,Z1 λj f N=>?_⟩;by_cases y:j=k
     ·subst y;exact G.o
     ·exact u.o j f zO
    case measure=>simp[intOf];omega
   ·have x:(8:Int)<(ps[k].length:Int):=zO;have b:Hid (ef ps wk np=false):=Z1 (Hc p g);clear g q;go_wp2;go_ret;exact⟨cN b.o.symm,d.o⟩
  ·obtain rfl:n=k:=zO;have s:¬(n:Int)<(n:Int):=zO;have b:Hid (ef ps wk np=(decide (ps.length<=5)&&(decide (wk<=4)&&decide (np<=200)))):=Z1 (DO λj f=>u.o j f (by have:=r.o;omega));rw[<-r.o]at b;by_cases a:n<=5
   ·have z:(n:Int)<=5:=zO;by_cases t:wk<=4
    ·by_cases l:np<=200
     ·have B:(np:Int)<=200:=zO;have c:Hid (ef ps wk np=true):=Z1 (by rw[b.o];simp[a,t,l]);clear a l;go_wp2;go_ret;exact⟨cN c.o.symm,d.o⟩
     ·have B:¬(np:Int)<=200:=zO;have c:Hid (ef ps wk np=false):=Z1 (by rw[b.o];simp[a,t,l]);clear a l;go_wp2;go_ret;exact⟨cN c.o.symm,d.o⟩
    ·have c:Hid (ef ps wk np=false):=Z1 (by rw[b.o];simp[a,t]);clear a;go_wp2;go_ret;exact⟨cN c.o.symm,d.o⟩
   ·have z:¬(n:Int)<=5:=zO;have c:Hid (ef ps wk np=false):=Z1 (by rw[b.o];simp[a]);clear a;go_wp2;go_ret;exact⟨cN c.o.symm,d.o⟩
def pZ(st sa lo hi:Int)(ps:List (List Cl))(wk:Int)(A Ap:Option Addr)(n k np kp:Nat)(w:World)(hP:dv w A n ps)(hn:n<=10000000000000)(hnp:np<=maxLen)(hst:aq st)(hwk:aq wk):
  C 8 #[.agg #[I st,I sa,I lo,I hi],.slice A n k,I wk,.slice Ap np kp] w λe w'=>e=.returned (.bool (decide (st<=8)&&ef ps wk np))/\M w w':=by
 have a:=zh w (.cells #[I st,I sa,I lo,I hi] 23);have i:=Z1 (λW (hW:M w W)=>DP ps wk A Ap n k np kp W (hP.up hW) hn hnp hwk);have d:=Z1 a;generalize ef ps wk np=b at*;unfold aq at hst;clear a hP;by_cases g:st<=8
 ·have f:Hid ((decide (st<=8)&&b)=b):=Z1 (by simp[g])
  go_in
  go_wp2_with fail;refine zm (i.o _ d.o) λj c=>?_;have h:=Z1 (af d.o c);clear c;go_wp2;go_ret;exact⟨cN f.o.symm,h.o⟩
 ·have f:Hid ((decide (st<=8)&&b)=false):=Z1 (by simp[g])
  go_in
  go_wp2;go_ret;exact⟨cN f.o.symm,d.o⟩
def SY(j:Nat):(vts l).take (j*34)=vts (l.take j):=by
 induction l generalizing j with
 |nil=>simp[vts]
 |cons x r ih=>
  cases j with
  |zero=>simp[vts]
  |succ j=>
   have a:vts (x::r)=x.cells++vts r:=rfl;have b:vts ((x::r).take (j+1))=x.cells++vts (r.take j):=rfl;rw[a,b,List.take_append,Vt.C2,OT (by rw[Vt.C2];omega),show(j+1)*34-34=j*34 by omega,ih]
def SM{w:World}{n:Nat}{A:Option Addr}{l:List Vt}(h:an w B 34 A n (vts l)){j:Nat}(hj:j<=n):an w B 34 A j (vts (l.take j)):=by
 have b:=h.1;rw[<-SY];refine⟨by rw[PG,b];omega,λg=>?_⟩;obtain⟨c,e,d,f⟩:=h.2 zO;refine⟨c,e,d,λi u a=>f i u ?_⟩;rw[QX]at a;split at a
 ·exact a
 ·cases a
section
variable {c:Cg} {ps:List (List Cl)}
def SD(hp:ge c ps)(I:En->Prop)(hI:∀(e:En) t,dI c ps e->e.used<=30000->e.ready c t=true->I e->I (e.go c t)):∀(l:List Int) {e:En},dI c ps e->e.used+l.length<=30000->I e->I (En.run c e l)
 |[],e,_,_,h=>h
 |p::r,e,hA,hu,h=>by
  simp only[OC]at hu;rw[rU];split
  ·exact h
  ·rename_i hn;obtain⟨t,ht⟩:=Option.ne_none_iff_exists'.1 hn;have a:ja c e p=e.go c t:=by unfold ja;rw[ht]
   have d:=(qV (c:=c) (e:=e) p).2.2.2;have b:=hA.step hp zO p;refine SD hp I hI r b zO ?_;rw[a];exact hI e t hA zO (vn ht).1 h
def dI.dec(hp:ge c ps){e:En}{t:Nat}(h:dI c ps e)(hr:e.ready c t=true)(hd:ka c e):ka c (e.go c t):=hd.go hp.cfg h.E h.L h.Q hr
end
def Tc(w:World)(c:Cg)(ps:List (List Cl))(hp:ge c ps)(A Ap:Option Addr)(n k np kp m:Nat)(hP:dv w A n ps)(hn:ps.length+m<=32)(hn0:0<ps.length+m)(h0:cj c.st c.sa c.lo c.hi ps m=0)
  (l:List Int)(hl:∀p∈l,aq p)(hr:an w w.heap.size 1 Ap np (i64s l))(hu:np<=30000):∃(ev:List Vt) (mp:Mp),kD c ps ev mp/\ev.length<=60000/\(∀(i:Nat) (h:i<ev.length),ev[i].kind=6->o5 c (ev.take i) ev[i])/\(apF ev).2=true/\
  C 20 #[.agg #[I c.st,I c.sa,I c.lo,I c.hi],.slice A n k,I m,.slice Ap np kp] w λr w'=>∃A3 k3 u op A4 n4 k4 b,r=.returned (.tuple #[.agg #[.slice A3 ev.length k3,I u,I op,.slice A4 n4 k4,.bool b],I 0])/\ev.length<=k3/\an w' w'.heap.size 34 A3 ev.length (vts ev)/\M w w':=by
 have x:=tj w c ps hp A Ap n k np kp m hP hn hn0 h0 l hl hr hu;have j:np=l.length:=by have:=hr.len;simpa[i64s]using this
 have d:(En.new c ps m).used+l.length<=30000:=by rw[<-j];simpa[En.new]using hu
 have a:=(dI.new hp m hn).run hp l d;have f:=a.1.evs (by have:=a.2.1;omega);have o:=SD hp (ka c) (λe t h _ hr y=>h.dec hp hr y) l (dI.new hp m hn) d (ka.new c ps m);generalize En.run c (.new c ps m) l=e at*;refine⟨e.g.ev,e.g.mp,a.1.E.L9,f,o.ok,o.app.1,x.mono λr w' ⟨F,G,z,s,B,D⟩=>?_⟩;obtain⟨A3,k3,rfl,v,_⟩:=ak s;obtain⟨A4,k4,rfl,_⟩:=ak B;exact⟨A3,k3,(e.used:Int),(openN e:Int),A4,e.g.q.line.length,k4,_,z,v,an.C4 s,D⟩
def vR{ps:List (List Cl)}(h:(decide (st<=8)&&ef ps wk np)=true):st<=8/\(∀p∈ps,p.length<=8)/\ps.length<=5/\wk<=4/\np<=200:=by
 unfold ef at h;simp only[OY,decide_eq_true_eq,QT]at h;obtain⟨a,b,c,d,e⟩:=h;exact⟨a,b,c,d,e⟩
def KU{l:List Int}(h:rZ l):∀p∈l,aq p:=λp a=>by
 obtain⟨i,b,rfl⟩:=PJ a;exact h i b
def DS{sa lo hi:Int}{ps:List (List Cl)}(hL:(decide (st<=8)&&ef ps wk np)=true)(h:cj st sa lo hi ps wk=0)(hx:∀p∈ps,∀x∈p,x.ok):
  ∃(c:Cg) (m:Nat),st=c.st/\sa=c.sa/\lo=c.lo/\hi=c.hi/\wk=m/\ge c ps/\ps.length+m<=32/\0<ps.length+m:=by
 obtain⟨o,d,l,r,s⟩:=vR hL;unfold cj at h;by_cases a:cA st sa lo hi=false\/wk<0\/32<wk\/(ps.length:Int)+wk<1\/32<(ps.length:Int)+wk
 ·rw[OB a]at h
  cases h
 ·have e:cA st sa lo hi=true:=by
   cases hc:cA st sa lo hi with
   |true=>rfl
   |false=>exact absurd (.inl hc) a
  have t:¬wk<0:=λq=>a (.inr (.inl q));have u:¬(ps.length:Int)+wk<1:=λq=>a (.inr (.inr (.inr (.inl q))));have v:¬32<(ps.length:Int)+wk:=λq=>a (.inr (.inr (.inr (.inr q))));have b:=e;unfold cA at b;simp only[OY,decide_eq_true_eq]at b;obtain⟨n,w,y,z⟩:=b;have A:=ob n;have f:st=((st.toNat:Nat):Int):=zO;have g:sa=((sa.toNat:Nat):Int):=zO;have i:lo=((lo.toNat:Nat):Int):=zO;have j:hi=((hi.toNat:Nat):Int):=zO;refine⟨⟨st.toNat,sa.toNat,lo.toNat,hi.toNat⟩,wk.toNat,f,g,i,j,zO,⟨?_,λp k=>⟨OJ (d p k) zP,hx p k⟩,?_⟩,zO,zO⟩
  ·show cA ((st.toNat:Nat):Int) ((sa.toNat:Nat):Int) ((lo.toNat:Nat):Int) ((hi.toNat:Nat):Int)=true;rw[<-f,<-g,<-i,<-j];exact e
  ·have B:=mH ps 8 d;have:ps.length*8<=5*8:=Pr _ l;omega
end Go.Fw
