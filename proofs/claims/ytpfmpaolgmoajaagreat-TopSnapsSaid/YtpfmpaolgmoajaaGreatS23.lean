/- Lemmas of this claim. Conditions: as each says. -/
import Derived.Test.YtpfmpaolgmoajaaGreatS20
set_option linter.unusedVariables false
set_option linter.unusedSimpArgs false
set_option maxHeartbeats 4000000
set_option maxRecDepth 20000
set_option linter.defProp false
open Go.Proofs.Tryz
namespace Go.Fw
open Go.RowKit open Go.Proofs hiding intOf
variable {c:Cg}{m:Mp}{w:World}{mb lb:Nat}{v:Ld}(ps:List ((Int×Int)×Rp))(l:List Vt)(x:Vt)(k:Int×Int)
def mT(c:Cg)(l:List Vt):Prop:=∀k (hk:k<l.length),(cd c (fK c (l.take k)) l[k]).2=true
def sS(c:Cg)(l:List Vt)(x:Vt):fK c (l++[x])=(cd c (fK c l) x).1:=by simp[fK]
def oH{l:List Vt}{k:Nat}(hk:k<l.length):fK c (l.take (k+1))=(cd c (fK c (l.take k)) l[k]).1:=by
 rw[OG hk,sS]
def JJ(c:Cg)(m:Mp)(x:Cl):(doM c m x).1.ls.length<=m.ls.length+1/\(doM c m x).1.B9.length<=m.B9.length+1:=by
 have a:∀(k:K2) (v:Ld),(aR m.ls k v).length<=m.ls.length+1:=λk v=>by
  rw[lM];split<;>omega
 unfold doM;split
 ·exact⟨OW _,OW _⟩
 split
 ·split
  ·exact⟨OW _,OW _⟩
  ·exact⟨a _ _,OW _⟩
 split
 ·exact⟨zS,OW _⟩
 split
 ·split
  ·exact⟨OW _,OW _⟩
  ·exact⟨OW _,zS⟩
 split
 ·split
  ·exact⟨OW _,zS⟩
  ·exact⟨OW _,OW _⟩
 split
 ·split
  ·split<;>exact⟨OW _,OW _⟩
  ·exact⟨OW _,OW _⟩
 split
 ·split
  ·exact⟨OW _,OW _⟩
  ·exact⟨a _ _,OW _⟩
 split
 ·split<;>exact⟨OW _,OW _⟩
 split
 ·exact⟨OW _,OW _⟩
 ·exact⟨OW _,OW _⟩
def Df(c:Cg)(m:Mp)(x:Vt):(cd c m x).1.ls.length<=m.ls.length+1/\(cd c m x).1.B9.length<=m.B9.length+1:=by
 unfold cd;split
 ·exact JJ c m x.call
 split
 ·unfold eo;split
  ·exact⟨OW _,OW _⟩
  ·refine⟨?_,OW _⟩;show(aR m.ls x.key _).length<=_;rw[lM];split<;>omega
 ·exact⟨OW _,OW _⟩
def lQ(c:Cg)(l:List Vt):∀k,k<=l.length->(fK c (l.take k)).ls.length<=k/\(fK c (l.take k)).B9.length<=k
 |0,_=>by simp[fK,Mp.new]
 |k+1,hk=>by
  have h1:=lQ c l k zO;have a:=Df c (fK c (l.take k)) (l[k]'(by omega));rw[oH zO];omega
section
set_option maxRecDepth 100000
def cq.P4{fs:List Fe}{kv:List (Option (Nat×List Fe))}{cv:Value}(h:cq w c mb lb fs kv cv m):fs.length=m.ls.length/\kv.length=m.B9.length:=⟨by rw[h.ls];simp[fls],h.small.symm⟩
structure kT(w wr:World)(c:Cg)(mb lb:Nat)(m:Mp):Prop where
 at_:∃fs kv cv,cq wr c mb lb fs kv cv m
 mb:w.heap.size<=mb
 lb:w.heap.size<=lb
 below:M w wr
def kT.next{wr w1 w2:World}{m':Mp}(h:kT w wr c mb lb m)(hb:M wr w1)(hn:dM w1 w2 c mb lb m'):kT w w2 c mb lb m':=
 ⟨hn.1,h.mb,h.lb,(af h.below hb).trans (hn.2.below (af h.below hb).size λk e=>by rcases e with e|e;(have:=h.mb;omega);(have:=h.lb;omega))⟩
def kT.up{wr w1:World}(h:kT w wr c mb lb m)(hb:M wr w1):kT w w1 c mb lb m:=by
 obtain⟨⟨a,b,d,e⟩,f,g,i⟩:=h;exact⟨⟨a,b,d,e.up hb⟩,f,g,af i hb⟩
def SO(c:Cg)(hc:c.ok)(l:List Vt)(hi:∀x∈l,nz x)(ht:mT c l)(A:Option Addr)(k n:Nat)(q:Nat)(w:World)(hr:an w w.heap.size 34 A n (vts l))(hl:n<=80000)(hq:q<=n):
  C 15 #[c.val,.slice A n k,I q] w λe w'=>∃mb lb,e=.returned (Z mb 0)/\kT w w' c mb lb (fK c (l.take q)):=by
 have R:=jU (λx s=>(hi x s).ok);rw[<-iL]at hr;have X:n=l.length:=by have:=kA R hr;simpa using this
 have d:=zh w (.cells c.cells.toArray 23);have f:=Blk.A8 w 23 c.cells.toArray rfl;have S:=Z1 (λW=>xA c hc W);have p:=Z5 hi ht R X hc;obtain⟨⟨st,sa,lo,au⟩,t⟩:∃c',c'=c:=⟨c,rfl⟩;have u:=Z1 t;rw[<-t]at f d S ⊢;simp only[Cg.val,Cg.cells]at f d S ⊢;have c0:=f.cell 0;have c1:=f.cell 1;have c2:=f.cell 2;have c3:=f.cell 3;simp at c0 c1 c2 c3;have T:=Z1 d;clear d f hi ht R X hc t
 go_in
 go_wp2_with fail;refine(S.o _).mono ?_;rintro e w1 ⟨mb,lb,rfl,h,ag,ah,d⟩;have H1:Hid (kT w w1 c mb lb .new):=Z1 ⟨⟨[],[],_,by rw[<-u.o];exact h⟩,by have:=T.o.size;omega,by have:=T.o.size;omega,af T.o d⟩;clear h ag ah d c0 c1 c2 c3;go_wp2;go_loopw [14] (λi wr=>∃(j:Nat),j<=q/\i=I j/\Hid (kT w wr c mb lb (fK c (l.take j)))) (λi _=>n-(intOf i).toNat)
 case atStart=>exact⟨0,OK _,rfl,H1⟩
 case round=>
  obtain⟨j,hj,rfl,v⟩:=hrel;by_cases av:j<n
  ·have F:j<(l.map aK).length:=by have:=p.o.2.2.2.1;simp;omega
   have g:j<l.length:=by have:=p.o.2.2.2.1;omega
   obtain⟨b,o,rfl,_,m⟩:=mw p.o.2.2.1 (hr.below v.o.below) F;have G:(l.map aK)[j]=aK l[j]:=zS;rw[G]at m;have s:=oG (p.o.1 _ (OR g)).ok;have H:=p.o.2.1 j g;have L:=oH (c:=c) g;have N:=p.o.1 _ (OR g);have O:=lQ c l j zO;generalize l[j]=x at*;have a:=Z3 s.size s.all (dw m);have y:=Z4 H L N O;have HR:=Z1 hr;have z:(aK x).cs=x.arr:=rfl;rw[z]at a;generalize B:x.arr=r at*;have HG:=Z1 B;clear m s G hr H L N O F g z B;by_cases aw:j<q
   ·have U:(j:Int)<(n:Int):=zO;have ax:(j:Int)<(q:Int):=zO
    go_wp2_with (first|(refine aG ba rfl (.tmp 17) rfl (Y b (o+j*34)) zF r a.o.1 a.o.2.2 ?_)|(refine aS ba rfl rfl ?_)|(refine aT ba rfl (.tmp 9) (.tmp 18) rfl _ rfl zF r _ zF _ a.o.1 ba.D6 a.o.2.1 ?_)|(refine aG ba rfl (.tmp 9) rfl (Y wr.heap.size 0) zF r a.o.1 (ff _ _ _) ?_))
    have P:=zh wr (.cells r 79);have Q:=Z1 P;clear P;obtain⟨fs,kv,cv,h⟩:=v.o.at_;have hs:=h.P4;have HO:=Z1 (sR _ c p.o.2.2.2.2 mb lb fs kv cv _ (h.up Q.o) (by have:=y.o.2.2.2;omega) (by have:=y.o.2.2.2;omega) x y.o.2.2.1 y.o.1);rw[HG.o]at HO;clear h hs;refine HO.o.mono ?_;rintro e w5 ⟨rfl,D⟩;have HN:=Z1 (v.o.next Q.o D);rw[<-y.o.2.1]at HN;clear D;go_wp2;go_roundw
    case rel=>exact⟨j+1,zO,by go_num,HN⟩
    case measure=>simp[intOf];omega
   ·obtain rfl:j=q:=zO;have U:(j:Int)<(n:Int):=zO
    go_wp2_with (first|(refine aG ba rfl (.tmp 17) rfl (Y b (o+j*34)) zF r a.o.1 a.o.2.2 ?_)|(refine aS ba rfl rfl ?_)|(refine aT ba rfl (.tmp 9) (.tmp 18) rfl _ rfl zF r _ zF _ a.o.1 ba.D6 a.o.2.1 ?_)|(refine aG ba rfl (.tmp 9) rfl (Y wr.heap.size 0) zF r a.o.1 (ff _ _ _) ?_))
    go_ret;rw[u.o];exact⟨_,_,rfl,v.o.up (ae (Oy _ _) _)⟩
  ·obtain rfl:j=q:=zO;obtain rfl:j=n:=zO;go_wp2;go_ret;rw[u.o];exact⟨_,_,rfl,v.o⟩
end
def eB(l:List Vt):List ((Int×Int)×Rp):=l.foldl (λa x=>if x.kind=2 then aR a (x.task,x.nth) x.rep else a) []
def my:eB (l++[x])=if x.kind=2 then aR (eB l) (x.task,x.nth) x.rep else eB l:=by simp[eB]
def sV(l:List Vt):Prop:=∀k (hk:k<l.length),l[k].kind=3->ap (eB (l.take k)) (l[k].task,l[k].nth)=some l[k].rep
def rpV(ps:List ((Int×Int)×Rp)):List ((Int×Int)×Value):=ps.map λe=>(e.1,e.2.val)
def Mq(r:Rp):rpV (aR ps k r)=aR (rpV ps) k r.val:=by
 induction ps with
 |nil=>rfl
 |cons e t ih=>
  simp only[rpV,Pi,aR]at ih ⊢;by_cases h:e.1=k
  ·simp[h]
  ·simp[h,ih]
def Mr:ap (rpV ps) k=(ap ps k).map Rp.val:=by
 induction ps with
 |nil=>rfl
 |cons e t ih=>
  simp only[rpV,Pi,ap]at ih ⊢;by_cases h:e.1=k
  ·simp[h]
  ·simp[h,ih]
def BC(l:List Vt):∀k,k<=l.length->(eB (l.take k)).length<=k
 |0,_=>by simp[eB]
 |k+1,hk=>by
  have:=BC l k zO;rw[OG (show k<l.length by omega),my];split
  ·rw[lM];split<;>omega
  ·omega
section
set_option maxRecDepth 100000
def Dh(c:Cg)(hc:c.ok)(l:List Vt)(hi:∀x∈l,nz x)(ht:mT c l)(A:Option Addr)(k n:Nat)(w:World)(hr:an w w.heap.size 34 A n (vts l))(hl:n<=80000):
  C 93 #[c.val,.slice A n k] w (J (I (-1)) w):=by
 have P:=jU (λx q=>(hi x q).ok);rw[<-iL]at hr;have U:n=l.length:=by have:=kA P hr;simpa using this
 have d:=zh w (.cells c.cells.toArray 23);have f:=Blk.A8 w 23 c.cells.toArray rfl;have Q:=Z1 (λW=>xA c hc W);have p:=Z5 hi ht P U hc;obtain⟨⟨st,sa,lo,au⟩,r⟩:∃c',c'=c:=⟨c,rfl⟩;have X:=Z1 r;rw[<-r]at f d Q ⊢;simp only[Cg.val,Cg.cells]at f d Q ⊢;have c0:=f.cell 0;have c1:=f.cell 1;have c2:=f.cell 2;have c3:=f.cell 3;simp at c0 c1 c2 c3;have R:=Z1 d;clear d f hi ht P U hc r
 go_in
 go_wp2_with fail;refine(Q.o _).mono ?_;rintro e w1 ⟨S,T,rfl,h,ae,ag,d⟩;have H1:Hid (kT w w1 c S T .new):=Z1 ⟨⟨[],[],_,by rw[<-X.o];exact h⟩,by have:=R.o.size;omega,by have:=R.o.size;omega,af R.o d⟩;clear h ae ag d c0 c1 c2 c3;go_wp2;go_loopw [12] (λi wr=>∃(j:Nat),j<=n/\i=I j/\Hid (kT w wr c S T (fK c (l.take j)))) (λi _=>n-(intOf i).toNat)
 case atStart=>exact⟨0,OK _,rfl,H1⟩
 case round=>
  obtain⟨j,hj,rfl,y⟩:=hrel;by_cases av:j<n
  ·have B:j<(l.map aK).length:=by have:=p.o.2.2.2.1;simp;omega
   have g:j<l.length:=by have:=p.o.2.2.2.1;omega
   obtain⟨b,o,rfl,_,m⟩:=mw p.o.2.2.1 (hr.below y.o.below) B;have D:(l.map aK)[j]=aK l[j]:=zS;rw[D]at m;have q:=oG (p.o.1 _ (OR g)).ok;have F:=p.o.2.1 j g;have G:=oH (c:=c) g;have H:=p.o.1 _ (OR g);have L:=lQ c l j zO;generalize l[j]=x at*;have a:=Z3 q.size q.all (dw m);have s:=Z4 F G H L;have HR:=Z1 hr;have t:(aK x).cs=x.arr:=rfl;rw[t]at a;generalize u:x.arr=z at*;have HG:=Z1 u;clear m q D hr F G H L B g t u;have am:(j:Int)<(n:Int):=zO
   go_wp2_with (first|(refine aG ba rfl (.tmp 15) rfl (Y b (o+j*34)) zF z a.o.1 a.o.2.2 ?_)|(refine aS ba rfl rfl ?_)|(refine aT ba rfl (.tmp 7) (.tmp 16) rfl _ rfl zF z _ zF _ a.o.1 ba.D6 a.o.2.1 ?_)|(refine aG ba rfl (.tmp 7) rfl (Y wr.heap.size 0) zF z a.o.1 (ff _ _ _) ?_))
   have N:=zh wr (.cells z 79);have O:=Z1 N;clear N;obtain⟨fs,kv,cv,h⟩:=y.o.at_;have hs:=h.P4;have HO:=Z1 (sR _ c p.o.2.2.2.2 S T fs kv cv _ (h.up O.o) (by have:=s.o.2.2.2;omega) (by have:=s.o.2.2.2;omega) x s.o.2.2.1 s.o.1);rw[HG.o]at HO;clear h hs;refine zm HO.o λw5 v=>?_;have HN:=Z1 (y.o.next O.o v);rw[<-s.o.2.1]at HN;clear v;go_wp2;go_roundw
   case rel=>exact⟨j+1,zO,by go_num,HN⟩
   case measure=>simp[intOf];omega
  ·obtain rfl:j=n:=zO;go_wp2;go_ret;exact⟨rfl,y.o.below⟩
abbrev Ny(w:World)(b:Nat)(l:List ((Int×Int)×Value)):Prop:=aw prog 247 Cx (λx=>aq x.1/\aq x.2) w b l
def JL(w:World):(zeroValue 77).run prog w=.ok Rp.zero.val w:=zR
def JM(hi:∀x∈l,x.ok)(ht:sV l)(A:Option Addr)(k n:Nat)(w:World)(hr:an w w.heap.size 34 A n (vts l))(hl:n<=80000):
  C 92 #[.slice A n k] w (J (.bool true) w):=by
 have ho:=jU hi;rw[<-iL]at hr;have hn:n=l.length:=by have:=kA ho hr;simpa using this
 have H:=Z4 hi ht ho hn;have a8:=@run_makeMap prog;have aa:Ny (w.alloc (.map #[] 0)) w.heap.size []:=aw.made w;have a9:=Z1 aa;clear hi ht ho hn aa
 go_in
 go_wp2;clear a8;go_loopw [12] (λi wr=>∃(j:Nat),j<=n/\i=I j/\Hid (Ny wr w.heap.size (rpV (eB (l.take j)))/\M w wr)) (λi _=>n-(intOf i).toNat)
 case atStart=>exact⟨0,OK _,rfl,Z1 ⟨a9.o,ae (Oy _ _) _⟩⟩
 case round=>
  obtain⟨j,hj,rfl,s⟩:=hrel;by_cases bn:j<n
  ·have ab:j<(l.map aK).length:=by have:=H.o.2.2.2;simp;omega
   have c:j<l.length:=by have:=H.o.2.2.2;omega
   obtain⟨b,o,rfl,_,d⟩:=mw H.o.2.2.1 (hr.below s.o.2) ab;have ac:(l.map aK)[j]=aK l[j]:=zS;rw[ac]at d;have L:=H.o.1 _ (OR c);have v:=oG L;have m:=H.o.2.1 j c;have ad:=BC l j zO;have ag:eB (l.take (j+1))=if l[j].kind=2 then aR (eB (l.take j)) (l[j].task,l[j].nth) l[j].rep else eB (l.take j):=by rw[OG c,my]
   generalize l[j]=x at*;have a:=Z3 v.size v.all (dw d);have f:=Z4 m ag L ad;have HR:=Z1 hr;have ah:=Blk.A8 wr 79 x.arr rfl;have bj:(j:Int)<(n:Int):=zO;clear m;have ck:=eu (w:=wr) (t:=79) v.c0;have ct:=eu (w:=wr) (t:=79) v.c1;have cn:=eu (w:=wr) (t:=79) v.c2;have N:(aK x).cs=x.arr:=rfl;have z:=v.c0;rw[N]at a ck ct cn z;have ai:(aK x).kind=x.kind:=rfl;have m:(aK x).task=x.task:=rfl;have aj:(aK x).nth=x.nth:=rfl;rw[ai]at ck z;rw[m]at ct;rw[aj]at cn;have ak:=zh wr (.cells x.arr 79);have al:=Z2 ah ak;generalize O:x.arr=P at*;have HG:=Z1 O;generalize am:x.kind=X at*;generalize ap:x.task=p at*;generalize aq:x.nth=r at*;have B:=Z3 am ap aq;clear d v ac hr ag L ad ab c N ah O ai m aj ak am ap aq;have D:=al.o.1.alloc (.cells #[I p,I r] 247);have bb:=(D.cell 0).trans z;clear z;go_upto_block 2 with(first|(refine aG ba rfl (.tmp 14) rfl (Y b (o+j*34)) zF P a.o.1 a.o.2.2 ?_)|(refine aS ba rfl rfl ?_)|(refine aT ba rfl (.tmp 5) (.tmp 15) rfl _ rfl zF P _ zF _ a.o.1 ba.D6 a.o.2.1 ?_)|(refine aG ba rfl (.tmp 5) rfl (Y wr.heap.size 0) zF P a.o.1 (ff _ _ _) ?_))
   have Q:=ae al.o.2 (.cells #[I p,I r] 247);have ar:=Blk.A8 (wr.alloc (.cells P 79)) 247 #[I p,I r] (g:=wr.heap.size+1) zS;have au:=aw.up s.o.1 Q;generalize (wr.alloc (.cells P 79)).alloc (.cells #[I p,I r] 247)=W at*;obtain⟨d0,d1⟩:=ao ar;have R:=D;rw[<-HG.o]at R;have av:=Z1 (Nv R);have h:=Z3 Q au D;clear Q D ar au R ck ct cn bb;by_cases y:X=2
   ·subst y;have F:=Z1 f.o.2.1;rw[OB rfl]at F
    go_wp2_with (first|(refine aG aA rfl (.tmp 27) rfl (Y wr.heap.size 14) zF x.rep.arr rfl av.o ?_)|(refine cZ rfl _ _ _ 245 77 rfl KZ underlying245 (p,r) (by rw[<-B.o.2.1,<-B.o.2.2];exact⟨f.o.2.2.1.task,f.o.2.2.1.nth⟩) (.agg x.rep.arr) rfl rfl rfl h.o.2.1 (by rw[rpV,Pe];have:=f.o.2.2.2;omega) ?_;intro W6 ax ay bc;have H6:=Z2 ax ay;clear ax ay bc))
    go_roundw
    case rel=>
     refine⟨j+1,zO,by go_num,Z1 ⟨?_,?_⟩⟩
     ·have h1:=H6.o.1;have y:=Mq (eB (l.take j)) (p,r) x.rep;have G:=F.o;rw[G,y];exact h1
     ·exact(af s.o.2 h.o.1).trans (H6.o.2.below (af s.o.2 h.o.1).size λq e=>by have G:q=w.heap.size:=e;omega)
    case measure=>simp[intOf];omega
   ·have q2:(X==2)=false:=by simpa using y
    have F:=Z1 f.o.2.1;rw[Oz y]at F;by_cases G:X=3
    ·subst G;have hg:=f.o.1 rfl;have S:=Mr (eB (l.take j)) (p,r);rw[hg]at S;have az:=aw.look_ok h.o.2.1 KZ underlying245 (JL W) (x:=(p,r)) (by rw[<-B.o.2.1,<-B.o.2.2];exact⟨f.o.2.2.1.task,f.o.2.2.1.nth⟩);rw[S]at az;simp only[PT,Qd,Rl,Rp.val]at az;have a0:=FZ x.rep f.o.2.2.1.rep;have bf:=Z1 (λW=>a0 W);have T:=dy x.rep;have bg:=Z1 T;have bo:=zh W (.cells (zc prog 77) 77);have a1:x.rep.arr.size=13:=rfl;have U:=Z1 a1;have bh:=Z1 F.o;generalize x.rep.arr=ra at*;have bp:=bf.o;clear hg S y T a0 a1
     go_wp2_with (first|(refine aS aA rfl rfl ?_)|(refine aT aA rfl (.tmp 7) (.tmp 35) rfl _ rfl zF ra _ zF _ U.o aA.D6 bg.o ?_)|(refine fh aA zF (.tmp 7) rfl (Y W.heap.size 0) zF ra U.o (ff _ _ _) ?_)|(refine fh aA zF (.tmp 41) rfl (Y wr.heap.size 14) zF ra U.o ?_ ?_))
     ·intro i u hu;have h5:=av.o i u (by simpa using hu);rw[show((Y wr.heap.size 14):Addr).add i=(Y wr.heap.size (14+i)) by unfold Addr.add;split<;>simp_all]at h5;exact(World.cell?_alloc_lt W _ _ h.o.2.2.lt).trans h5
     go_roundw
     case rel=>exact⟨j+1,zO,by go_num,Z1 ⟨by rw[bh.o];exact aw.up h.o.2.1 (ae (Oy _ _) _),ae (af s.o.2 h.o.1) _⟩⟩
     case measure=>simp[intOf];omega
    ·have q3:(X==3)=false:=by simpa using G
     clear y G;go_wp2;go_roundw
     case rel=>exact⟨j+1,zO,by go_num,Z1 ⟨by rw[F.o];exact h.o.2.1,af s.o.2 h.o.1⟩⟩
     case measure=>simp[intOf];omega
  ·obtain rfl:j=n:=zO;go_wp2;go_ret;exact⟨rfl,s.o.2⟩
def Di(c:Cg)(hc:c.ok)(l:List Vt)(hi:∀x∈l,nz x)(ht:mT c l)(htd:sV l)(hrt:ix (l.map aK)=true)(A:Option Addr)(k n:Nat)(w:World)(hr:an w w.heap.size 34 A n (vts l))(hl:n<=80000):
  C 43 #[c.val,.slice A n k] w (J (.bool true) w):=by
 have u:=jU (λx s=>(hi x s).ok);have b:=Blk.A8 w 23 c.cells.toArray rfl;have d:=zh w (.cells c.cells.toArray 23);have v:=Z1 (λU (f:M w U)=>sU (l.map aK) A k n U u (by rw[iL];exact hr.up f) zO);rw[hrt]at v;have z:=Z1 (λU (f:M w U)=>JM l (λx s=>(hi x s).ok) htd A k n U (hr.up f) hl);have B:=Z1 (λU (f:M w U)=>Dh c hc l hi ht A k n U (hr.up f) hl);obtain⟨F,G,H,D⟩:=c;simp only[Cg.val,Cg.cells]at*;have g:=b.cell 0;have h:=b.cell 1;have i:=b.cell 2;have j:=b.cell 3;simp at g h i j;have t:=Z2 d b;clear d b u hi ht htd hrt hr hc
 go_in
 go_wp2_with fail;refine zm (v.o _ t.o.1) λL d=>?_;have m:=Z2 (af t.o.1 d) (t.o.2.later d);clear d g h i j;go_wp2_with fail;refine zm (z.o _ m.o.1) λN p=>?_;have a:=m.o.2.later p;have q:=Z1 (af m.o.1 p);have g:=a.cell 0;have h:=a.cell 1;have i:=a.cell 2;have j:=a.cell 3;simp at g h i j;clear p a;go_wp2_with fail;refine zm (B.o _ q.o) λO r=>?_;have y:=Z1 (af q.o r);clear r g h i j;go_wp2;go_ret;exact⟨rfl,y.o⟩
end
structure fG(c:Cg)(m:Mp):Prop where
 ls:∀e∈m.ls,e.2.C6 c
 B9:∀l,some l∈m.B9->∀e∈l,e.2.C6 c
def fG.new(c:Cg):fG c .new:=⟨by simp[Mp.new],by simp[Mp.new]⟩
def JX{α:Type}{l:List (K2×α)}{k:K2}{v:α}{e:K2×α}(h:e∈aR l k v):e=(k,v)\/e∈l:=by
 induction l with
 |nil=>simp[aR]at h;exact .inl h
 |cons a r ih=>
  unfold aR at h;split at h
  ·rcases Pj.1 h with q|q
   ·exact .inl q
   ·exact .inr (Pm _ q)
  ·rcases Pj.1 h with q|q
   ·exact .inr (by rw[q];exact Qc)
   ·exact(ih q).imp id (Pm _)
def fG.put(h:fG c m)(k:K2)(hv:v.C6 c):fG c {m with ls:=aR m.ls k v}:=
 ⟨λe a=>(JX a).elim (λq=>q▸hv) (h.ls e),h.B9⟩
def fG.get(h:fG c m){k:K2}(hg:ap m.ls k=some v):v.C6 c:=h.ls _ (bR hg)
def fG.room(h:fG c m){k:K2}(hg:dR c m k=some v):v.C6 c:=by
 unfold dR at hg;split at hg
 ·rename_i y a;injection hg with hg;exact hg▸h.get a
 ·split at hg
  ·cases hg
  ·injection hg with hg;exact hg▸lq c
def fA{e:Int}(h:aq e):(Rp.of e).ok:=⟨h,aD,aD,⟨aD,aD,aD,aD,aD⟩,⟨aD,aD,aD,aD,aD⟩⟩
def dS:Rp.zero.ok:=fA aD
def mU{x:Ld}(h:x.C6 c):fo x.D2:=λs a=>⟨⟨by have:=(h.right s a).1;omega,(h.right s a).1.2⟩,⟨by have:=(h.right s a).2;omega,(h.right s a).2.2⟩⟩
def cX{n:Int}(h:0<=n/\n<=2000000000):aq n:=⟨zO,zO⟩
def vz(x:Cl):0<=aH x/\aH x<=14:=by
 unfold aH bG idE
 repeat' split
 all_goals omega
def sY{α:Type}(l:List (Option α))(n:Int):0<=findE l n/\findE l n<=8:=by
 unfold findE
 repeat' split
 all_goals omega
def JY{l:List Adv}(h:∀a∈l,a.ok):(iF l).ok:=by
 unfold iF
 cases e:l.getLast? with
 |none=>exact⟨aD,aD,aD,aD,aD⟩
 |some a=>exact h a (List.mem_of_getLast? e)
def Dq{x:Cl}(hx:x.ok)(h:bG x.tick x.value=0):(0<=x.tick/\x.tick<=9223372036854775807)/\(0<=x.value/\x.value<=9223372036854775807):=by
 unfold bG at h;have a:=hx.tick;have b:=hx.value;unfold aq at a b;split at h
 ·omega
 split at h
 ·omega
 ·omega
def xT(hc:c.ok)(h:fG c m){x:Cl}(hx:x.ok)(hn:m.B9.length<=1000000):fG c (doM c m x).1/\(doM c m x).2.ok:=by
 have L:=Cg.small hc;by_cases i:aH x≠0
 ·have j:doM c m x=(m,.of (aH x)):=by unfold doM;rw[OB i]
  rw[j];exact⟨h,fA (cX (by have:=vz x;omega))⟩
 have a:=Pg i;unfold doM;rw[Oz i];by_cases p:x.k=1
 ·rw[OB p];split
  ·exact⟨h,fA (cX zO)⟩
  ·rename_i y b;have B:bG x.tick x.value=0:=by
    unfold aH at a;rw[OB p]at a;split at a
    ·exact a
    ·cases a
   obtain⟨D,F⟩:=Dq hx B;exact⟨h.put _ (mS hc (h.room b) D F),dS⟩
 rw[Oz p];by_cases t:x.k=2
 ·rw[OB t];refine⟨⟨λe j=>?_,h.B9⟩,dS⟩;obtain⟨G,u,rfl⟩:=Pa.1 j;exact pA (h.ls G u) _
 rw[Oz t];by_cases v:x.k=3
 ·rw[OB v];split
  ·exact⟨h,fA (cX zO)⟩
  ·refine⟨⟨h.ls,λl r=>?_⟩,⟨aD,cX (n:=(m.B9.length:Int)+1) zO,cX (n:=(m.B9.length:Int)+1) zO,dS.stat,dS.E0⟩⟩;have f:=r;rw[Po]at f
   rcases f with q|q
   ·exact h.B9 l q
   ·simp at q;exact q▸h.ls
 rw[Oz v];by_cases w:x.k=4
 ·rw[OB w];split
  ·refine⟨⟨h.ls,λl r=>?_⟩,dS⟩
   rcases List.mem_or_eq_of_mem_set (show some l∈m.B9.set _ _ from r)with q|q
   ·exact h.B9 l q
   ·cases q
  ·exact⟨h,fA (cX (by have:=sY m.B9 x.handle;omega))⟩
 rw[Oz w];by_cases z:x.k=5
 ·rw[OB z];split
  ·split
   ·exact⟨h,fA (cX zO)⟩
   ·rename_i N y b;have g:y.C6 c:=by
     have d:=bR b
     cases e:m.B9.getD (x.handle.toNat-1) none with
     |none=>rw[e]at d;simp at d
     |some l=>
      rw[e]at d;refine h.B9 l ?_ _ d;rw[OP]at e
      cases e2:m.B9[x.handle.toNat-1]? with
      |none=>rw[e2]at e;simp at e
      |some o=>
       rw[e2]at e;simp at e;subst e;exact Qx e2
    exact⟨h,⟨aD,hx.handle,aD,wD (mU g) (by have:=g.E5;omega) _ _,dS.E0⟩⟩
  ·exact⟨h,fA (cX (by have:=sY m.B9 x.handle;omega))⟩
 rw[Oz z];by_cases s:x.k=6
 ·rw[OB s];split
  ·exact⟨h,fA (cX zO)⟩
  ·rename_i y b;have H:x.D8.right=true:=by
    unfold aH at a;rw[Oz zO,Oz zO,Oz zO,OB s]at a;split at a
    ·split at a
     ·assumption
     ·cases a
    ·cases a
   exact⟨h.put _ (rH (h.room b) hx.D8 H),dS⟩
 rw[Oz s];by_cases A:x.k=7
 ·rw[OB A];split
  ·exact⟨h,fA (cX zO)⟩
  ·rename_i y b;exact⟨h,⟨aD,aD,aD,dS.stat,JY (h.get b).advs⟩⟩
 rw[Oz A];split
 ·exact⟨h,fA (cX zO)⟩
 ·exact⟨⟨h.ls,h.B9⟩,dS⟩
def Gf(h:fG c m)(k:K2){a:Adv}(ha:a.ok):fG c (eo c m k a).1:=by
 unfold eo;split
 ·exact h
 ·rename_i y b;exact h.put _ (uR (h.get b) ha)
def JZ{p:Pl}(hr:p.right=true)(n:Int):p.mn<=eW p n/\eW p n<=p.mx/\0<=p.mn/\p.mx<=1073741824:=by
 unfold Pl.right at hr;simp only[decide_eq_true_eq]at hr;unfold eW iX
 repeat' split
 all_goals omega
def Mz{x:Ld}(hc:c.ok)(hf:x.C6 c)(hr:x.D8.right=true):(od x.D8 x.D2 x.C0).ok:=by
 have b:=Cg.small hc;have a:∀n,aq (eW x.D8 n):=λn=>cX (by have:=JZ hr n;omega);refine⟨sN (mU hf),(wD (mU hf) (by have:=hf.E5;omega) _ _).F3,?_,a _,?_⟩
 ·show aq (kq _ _ _);unfold kq;split<;>exact a _
 ·show aq (pw _ _ _ _ _);unfold pw;refine cX ?_
  repeat' split
  all_goals omega
def trV(l:List Vt)(t:Int):Tr:=(l.map aK).foldl cT (λ_=>Tr.zero) t
def jn(l:List Vt)(x:Vt)(t:Int):trV (l++[x]) t=if t=x.task then(trV l x.task).next (aK x)else trV l t:=by
 unfold trV;rw[QC,Qe];rfl
def qR:∀(l:List Ev) (tr:Int->Tr) (x:Ev),fy tr (l++[x])=(fy tr l&&kU (l.foldl cT tr) x)
 |[],tr,x=>by simp[fy]
 |y::r,tr,x=>by
  simp only[PY,fy,Qz,qR r (cT tr y) x,Bool.and_assoc]
def Dr:ix ((l++[x]).map aK)=(ix (l.map aK)&&kU (trV l) (aK x)):=by
 unfold ix;rw[QC];exact qR _ _ _
structure kD(c:Cg)(ps:List (List Cl))(ev:List Vt)(mp:Mp):Prop where
 right:ix (ev.map aK)=true
 mp:fK c ev=mp
 U0:mT c ev
 told:sV ev
 O3:∀y∈ev,nz y
 call:∀y∈ev,(y.kind=1\/y.kind=2)->∃(i n:Nat) (p:List Cl),y.task=i/\y.nth=n/\ps[i]?=some p/\p[n]?=some y.call
 low:∀y∈ev,y.kind<=3->y.task<ps.length
def mV{α:Type}(l:List α)(x:α){k:Nat}(hk:k<=l.length):(l++[x]).take k=l.take k:=QN hk
def kD.snoc{c:Cg}{ps:List (List Cl)}{ev:List Vt}{mp mp':Mp}(h:kD c ps ev mp){y:Vt}(ht:0<=y.task/\y.task<32)(hok:(trV ev y.task).ok (aK y)=true)(ha:cd c mp y=(mp',true))(htd:y.kind=3->ap (eB ev) (y.task,y.nth)=some y.rep)(hv:nz y)
  (hc:(y.kind=1\/y.kind=2)->∃(i n:Nat) (p:List Cl),y.task=i/\y.nth=n/\ps[i]?=some p/\p[n]?=some y.call)(hlo:y.kind<=3->y.task<ps.length):kD c ps (ev++[y]) mp':=by
 have b:∀z∈ev++[y],z∈ev\/z=y:=λz d=>by simpa using d
 have m:(ev++[y]).length=ev.length+1:=zS;have f:∀k (g:k<(ev++[y]).length),(k<ev.length/\∃a:k<ev.length,(ev++[y])[k]=ev[k])\/(k=ev.length/\(ev++[y])[k]=y):=λk g=>by
  by_cases a:k<ev.length
  ·exact .inl ⟨a,a,PK a⟩
  ·have e:k=ev.length:=zO;subst e;exact .inr ⟨rfl,zS⟩
 refine⟨?_,?_,λk g=>?_,λk g=>?_,λz d=>?_,λz d=>?_,λz d=>?_⟩
 ·rw[Dr,h.right];unfold kU;simp only[Bool.true_and,OY,decide_eq_true_eq];exact⟨ht,hok⟩
 ·rw[sS,h.mp,ha]
 ·rcases f k g with⟨a,o,e⟩|⟨j,l⟩
  ·rw[e,mV _ _ (RD a)];exact h.U0 k a
  ·rw[l,j,mV _ _ (OA _),PO,h.mp,ha]
 ·rcases f k g with⟨a,o,e⟩|⟨j,l⟩
  ·rw[e,mV _ _ (RD a)];exact h.told k a
  ·rw[l,j,mV _ _ (OA _),PO];exact htd
 ·rcases b z d with e|e
  ·exact h.O3 z e
  ·exact e▸hv
 ·rcases b z d with e|e
  ·exact h.call z e
  ·exact e▸hc
 ·rcases b z d with e|e
  ·exact h.low z e
  ·exact e▸hlo
def kD.nil(c:Cg)(ps:List (List Cl)):kD c ps [] .new:=⟨rfl,rfl,λk a=>by simp at a,λk a=>by simp at a,zS,zS,zS⟩
def vA{l:List Vt}{x:Vt}{t n:Int}(h:x.kind≠2\/x.task≠t):ap (eB (l++[x])) (t,n)=ap (eB l) (t,n):=by
 rw[my];split
 ·rename_i a;rw[iE];intro e;injection e with b c
  rcases h with h|h
  ·exact h a
  ·exact h b.symm
 ·rfl
def xU{l:List Vt}{x:Vt}(h:x.kind=2):ap (eB (l++[x])) (x.task,x.nth)=some x.rep:=by
 rw[my,OB h,lD]
def trC(c:Cg)(x:Ci):Tr:=if x.at_=0 then(if x.nth=0 then Tr.zero else⟨(x.nth:Int)-1,3,0,0⟩)else if du (dZ c x)=true then⟨x.nth,1,0,0⟩else⟨x.nth,2,0,0⟩
structure TrW(t:Tr)(x:Wi):Prop where
 nth:t.nth=0
 hi:t.hi=x.key.hi
 lo:t.lo=x.key.lo
 idle:(x.B6=0\/x.B6=1\/x.B6=12\/x.B6=13)->t.last=0\/t.last=7
 N9:(x.B6=2\/x.B6=3\/x.B6=4)->t.last=4
 D9:(x.B6=5\/x.B6=6\/x.B6=7\/x.B6=8)->t.last=5
 done:(x.B6=9\/x.B6=10\/x.B6=11)->t.last=5\/t.last=6
 Q3:x.B6=14->t.last=7
structure WOk(c:Cg)(n:Nat)(x:Wi):Prop where
 D9:x.D9.C6 c
 E0:x.E0.ok
 key:x.key.ok
 done:x.done<=n
structure fC(c:Cg)(ps:List (List Cl))(e:En):Prop where
 L9:kD c ps e.g.ev e.g.mp
 C6:fG c e.g.mp
 U1:∀(i:Nat) x,e.cs[i]?=some x->trV e.g.ev (i:Int)=trC c x
 U2:∀(j:Nat) x,e.ws[j]?=some x->TrW (trV e.g.ev ((e.cs.length+j:Nat):Int)) x
 J2:∀(i:Nat) x,e.cs[i]?=some x->x.at_≠0->du (dZ c x)=false->ap (eB e.g.ev) ((i:Int),(x.nth:Int))=some x.rep
 P0:∀(i:Nat) x,e.cs[i]?=some x->x.rep.ok
 K9:∀(j:Nat) x,e.ws[j]?=some x->WOk c e.used x
 len:e.g.ev.length<=2*e.used
 n:e.cs.length=ps.length
def nR:az.ok:=⟨aD,aD,aD,aD,aD⟩
def BG:(⟨0,0⟩:K2).ok:=⟨⟨zP,zP⟩,zP,zP⟩
def fC.new(c:Cg)(ps:List (List Cl))(n:Nat):fC c ps (.new c ps n):=by
 refine⟨kD.nil c ps,fG.new c,λi x a=>?_,λj x a=>?_,λi x a b=>?_,λi x a=>?_,λj x a=>?_,OK _,by simp[En.new]⟩
 ·simp only[En.new,Qw,PB]at a;obtain⟨p,_,rfl⟩:=a;rfl
 ·simp only[En.new,Pz,PB]at a;obtain⟨k,_,rfl⟩:=a;exact⟨rfl,rfl,rfl,λ_=>.inl rfl,λq=>by simp[Wi.new]at q,λq=>by simp[Wi.new]at q,λq=>by simp[Wi.new]at q,λq=>by simp[Wi.new]at q⟩
 ·simp only[En.new,Qw,PB]at a;obtain⟨p,_,rfl⟩:=a;exact absurd rfl b
 ·simp only[En.new,Qw,PB]at a;obtain⟨p,_,rfl⟩:=a;exact dS
 ·simp only[En.new,Pz,PB]at a;obtain⟨k,_,rfl⟩:=a;exact⟨lq c,nR,BG,OK _⟩
section
variable {c:Cg} {ps:List (List Cl)} {e:En} {g':Gs} {t j:Nat}
def fC.K3(h:fC c ps e){x x':Ci}(hx:e.cs[t]?=some x)(new:List Vt)(hnew:∀y∈new,y.task=(t:Int))(hev:g'.ev=e.g.ev++new)(hl2:new.length<=2)(ht:kD c ps g'.ev g'.mp)(hf:fG c g'.mp)(hc:trV g'.ev (t:Int)=trC c x')
  (hp:x'.at_≠0->du (dZ c x')=false->ap (eB g'.ev) ((t:Int),(x'.nth:Int))=some x'.rep)(hr:x'.rep.ok):fC c ps {e with g:=g',cs:=e.cs.set t x',used:=e.used+1}:=by
 have d:=cz hx;have b:∀(l:List Vt),(∀y∈l,y.task=(t:Int))->∀(u:Int),u≠(t:Int)->∀ev:List Vt,trV (ev++l) u=trV ev u/\∀n,ap (eB (ev++l)) (u,n)=ap (eB ev) (u,n):=λl=>by
  induction l with
  |nil=>intro _ u _ ev;rw[PC];exact⟨rfl,λ_=>rfl⟩
  |cons y r ih=>
   intro a u k ev;have j:=a y Qc;obtain⟨m,o⟩:=ih (λz q=>a z (Pm _ q)) u k (ev++[y]);rw[show ev++y::r=ev++[y]++r from by simp];refine⟨m.trans ?_,λn=>(o n).trans (vA (.inr (by rw[j];exact Pc k)))⟩;rw[jn,Oz (by rw[j];exact k)]
 refine⟨ht,hf,λi y a=>?_,λi y a=>?_,λi y a=>?_,λi y a=>?_,λi y a=>⟨(h.K9 i y a).D9,(h.K9 i y a).E0,(h.K9 i y a).key,RI (h.K9 i y a).done⟩,?_,by simp only[PI];exact h.n⟩
 ·rcases dp a d with⟨rfl,rfl⟩|⟨p,f⟩
  ·exact hc
  ·show trV g'.ev _=_;rw[hev,(b new hnew _ zO _).1];exact h.U1 i y f
 ·show TrW (trV g'.ev (((e.cs.set t x').length+i:Nat):Int)) y;rw[PI,hev,(b new hnew _ zO _).1];exact h.U2 i y a
 ·rcases dp a d with⟨rfl,rfl⟩|⟨p,f⟩
  ·exact hp
  ·intro m o;show ap (eB g'.ev) _=_;rw[hev,(b new hnew _ zO _).2];exact h.J2 i y f m o
 ·rcases dp a d with⟨rfl,rfl⟩|⟨p,f⟩
  ·exact hr
  ·exact h.P0 i y f
 ·show g'.ev.length<=2*(e.used+1);rw[hev,OS];have:=h.len;omega
def fC.M5(h:fC c ps e){x x':Wi}(hx:e.ws[j]?=some x)(new:List Vt)(hnew:∀y∈new,y.task=((e.cs.length+j:Nat):Int))(hev:g'.ev=e.g.ev++new)(hl2:new.length<=2)(ht:kD c ps g'.ev g'.mp)(hf:fG c g'.mp)
  (hc:TrW (trV g'.ev ((e.cs.length+j:Nat):Int)) x')(hr:WOk c (e.used+1) x'):fC c ps {e with g:=g',ws:=e.ws.set j x',used:=e.used+1}:=by
 have f:=cz hx;have b:∀(l:List Vt),(∀y∈l,y.task=((e.cs.length+j:Nat):Int))->∀(u:Int),u≠((e.cs.length+j:Nat):Int)->∀ev:List Vt,trV (ev++l) u=trV ev u/\∀n,ap (eB (ev++l)) (u,n)=ap (eB ev) (u,n):=λl=>by
  induction l with
  |nil=>intro _ u _ ev;rw[PC];exact⟨rfl,λ_=>rfl⟩
  |cons y r ih=>
   intro a u m ev;have k:=a y Qc;obtain⟨o,p⟩:=ih (λz q=>a z (Pm _ q)) u m (ev++[y]);rw[show ev++y::r=ev++[y]++r from by simp];refine⟨o.trans ?_,λn=>(p n).trans (vA (.inr (by rw[k];exact Pc m)))⟩;rw[jn,Oz (by rw[k];exact m)]
 refine⟨ht,hf,λi y a=>?_,λi y a=>?_,λi y a o p=>?_,h.P0,λi y a=>?_,?_,h.n⟩
 ·show trV g'.ev _=_;have:i<e.cs.length:=cz a;rw[hev,(b new hnew _ zO _).1];exact h.U1 i y a
 ·rcases dp a f with⟨rfl,rfl⟩|⟨s,d⟩
  ·exact hc
  ·show TrW (trV g'.ev ((e.cs.length+i:Nat):Int)) y;rw[hev,(b new hnew _ zO _).1];exact h.U2 i y d
 ·show ap (eB g'.ev) _=_;have:i<e.cs.length:=cz a;rw[hev,(b new hnew _ zO _).2];exact h.J2 i y a o p
 ·rcases dp a f with⟨rfl,rfl⟩|⟨s,d⟩
  ·exact hr
  ·exact⟨(h.K9 i y d).D9,(h.K9 i y d).E0,(h.K9 i y d).key,RI (h.K9 i y d).done⟩
 ·show g'.ev.length<=2*(e.used+1);rw[hev,OS];have:=h.len;omega
end
section
variable {c:Cg} {ps:List (List Cl)} {e:En} {g':Gs} {t j:Nat}
def lS{o:Op2}{r:List Op2}(h:o.1≠4):du (o::r)=du r:=by
 unfold du;simp[h]
def kD.B9{ev:List Vt}{mp:Mp}(h:kD c ps ev mp):mp.B9.length<=ev.length:=by
 have:=(lQ c ev ev.length (OA _)).2;rw[PO,h.mp]at this;exact this
def lA{y:Vt}(k:Int)(hk:y.kind=k)(h:k≠2/\k≠6):cd c m y=(m,true):=by
 unfold cd;rw[Oz (hk▸h.1),Oz (hk▸h.2)]
def vB{l:List Vt}{x:Vt}{t n:Int}(h:x.kind=2)(h1:x.task=t)(h2:x.nth=n):ap (eB (l++[x])) (t,n)=some x.rep:=by
 subst h1 h2;exact xU h
def MA{x:Ci}(hQ:gb c ps e)(hx:e.cs[t]?=some x)(hlt:x.nth<x.prog.length):∃p,ps[t]?=some p/\p[x.nth]?=some x.call:=by
 refine⟨x.prog,hQ.prog t x hx,?_⟩;unfold Ci.call;rw[OP,OL hlt];rfl
def fC.R5(hc0:c.ok)(hL:lG c e)(hQ:gb c ps e)(h:fC c ps e)(hps:∀p∈ps,p.length<=1000/\∀y∈p,y.ok)(hu:e.used<=30000){x:Ci}(hx:e.cs[t]?=some x)(hrx:x.ready e.g=true):fC c ps (e.go c t):=by
 have ho:=Ci.G0 hrx;have a0:=Ci.K1 ho;have a5:=hL.I1 t x hx;have b:=hL.J0 t x hx;have bx:=cz hx;obtain⟨m,a6⟩:=a5.place (hc0:=hc0) ho;obtain⟨p,ac,P⟩:=MA hQ hx a0;obtain⟨bh,ai⟩:=hps p (Qx ac);have o:=ai _ (Qx P);have bi:x.nth<1000:=by have:=cz P;omega
 have aj:=hL.lk.n32;have bj:t<32:=by unfold En.count at aj;omega
 have bg:=h.L9.B9;have Q:=h.len;have H:=h.U1 t x hx;have R:=h.P0 t x hx;have s:∀y:Vt,y.task=(t:Int)->y.nth=(x.nth:Int)->y.call=x.call->(y.kind=1\/y.kind=2)->∃(i n:Nat) (p:List Cl),y.task=i/\y.nth=n/\ps[i]?=some p/\p[n]?=some y.call:=λy D O S _=>⟨t,x.nth,p,D,O,ac,by rw[S];exact P⟩;have u:∀(k:Int) (cl:Cl) (rp:Rp),0<=k/\k<=3->cl.ok->rp.ok->nz ⟨k,x.task,x.nth,cl,rp,⟨0,0⟩,az⟩:=λk cl rp D O S=>⟨⟨cX (by show 0<=k/\k<=_;omega),cX (by show 0<=x.task/\x.task<=_;omega),cX (by show 0<=(x.nth:Int)/\(x.nth:Int)<=_;omega),O,S,BG,nR⟩,λq=>by have q2:k=6:=q;omega⟩;have l:0<=x.task/\x.task<32:=zO;have v:x.task<ps.length:=by have:=h.n;omega
 rw[Dn hx]
 rcases a6 with⟨B,a7⟩|⟨B,a8⟩
 ·have h1:(opNow c x).1=1:=by rw[a7]
  rw[tY h1];obtain⟨r,e1,_,_,_,q4,q5,_⟩:=kC hc0 x.call;have T:(aF c x.call).drop (x.at_+1)=r:=by rw[B,e1];rfl
  have am:(({x with B8:= -1,rep:=.of (aH x.call),at_:=x.at_+1}:Ci).event 1)=⟨1,x.task,x.nth,x.call,.zero,⟨0,0⟩,az⟩:=rfl;have an:(({x with B8:= -1,rep:=.of (aH x.call),at_:=x.at_+1}:Ci).event 2)=⟨2,x.task,x.nth,x.call,.of (aH x.call),⟨0,0⟩,az⟩:=rfl;rw[am,an];have F:(Rp.of (aH x.call)).ok:=fA (cX (by have:=vz x.call;omega));have U:(trV e.g.ev x.task).ok (aK ⟨1,x.task,x.nth,x.call,.zero,⟨0,0⟩,az⟩)=true/\(trV e.g.ev x.task).next (aK ⟨1,x.task,x.nth,x.call,.zero,⟨0,0⟩,az⟩)=⟨x.nth,1,0,0⟩:=by
   rw[b,H];unfold trC;rw[OB B];by_cases w:x.nth=0
   ·rw[OB w];simp[Tr.ok,Tr.is,Tr.next,aK,Tr.zero,w]
   ·rw[Oz w];simp[Tr.ok,Tr.is,Tr.next,aK]
  have ad:=h.L9.snoc (y:=⟨1,x.task,x.nth,x.call,.zero,⟨0,0⟩,az⟩) l U.1 (lA 1 rfl zP) (λq=>by cases q) (u 1 _ _ zO o dS) (s _ b rfl rfl) (λ_=>v);have G:trV (e.g.ev++[⟨1,x.task,x.nth,x.call,.zero,⟨0,0⟩,az⟩]) (t:Int)=⟨x.nth,1,0,0⟩:=by
   rw[jn,OB b.symm];exact U.2
  by_cases w:aH x.call=0
  ·rw[OB w];have L:=vu.2 (q5 w);refine h.K3 hx [⟨1,x.task,x.nth,x.call,.zero,⟨0,0⟩,az⟩] (by intro y j;simp at j;rw[j];exact b) rfl zS ad h.C6 ?_ ?_ F
   ·refine G.trans ?_;unfold trC;rw[Oz (PU _)];have:du (dZ c {x with B8:= -1,rep:=.of (aH x.call),at_:=x.at_+1})=true:=by show du ((aF c x.call).drop (x.at_+1))=true;rw[T];exact L
    rw[OB this]
   ·intro _ b2;exfalso;have ae:du ((aF c x.call).drop (x.at_+1))=false:=b2;rw[T,L]at ae
    cases ae
  ·rw[Oz w];have L:du r=false:=by rw[q4 w];rfl
   have d:(trV (e.g.ev++[⟨1,x.task,x.nth,x.call,.zero,⟨0,0⟩,az⟩]) x.task).ok (aK ⟨2,x.task,x.nth,x.call,.of (aH x.call),⟨0,0⟩,az⟩)=true/\(trV (e.g.ev++[⟨1,x.task,x.nth,x.call,.zero,⟨0,0⟩,az⟩]) x.task).next (aK ⟨2,x.task,x.nth,x.call,.of (aH x.call),⟨0,0⟩,az⟩)=⟨x.nth,2,0,0⟩:=by
    rw[b]at G ⊢;rw[G];simp[Tr.ok,Tr.is,Tr.next,aK]
   have X:cd c e.g.mp ⟨2,x.task,x.nth,x.call,.of (aH x.call),⟨0,0⟩,az⟩=(e.g.mp,true):=by
    unfold cd;have hd:doM c e.g.mp x.call=(e.g.mp,.of (aH x.call)):=by unfold doM;rw[OB w]
    simp[hd]
   have ba:=ad.snoc (y:=⟨2,x.task,x.nth,x.call,.of (aH x.call),⟨0,0⟩,az⟩) l d.1 X (λq=>by cases q) (u 2 _ _ zO o F) (s _ b rfl rfl) (λ_=>v);refine h.K3 hx [⟨1,x.task,x.nth,x.call,.zero,⟨0,0⟩,az⟩,⟨2,x.task,x.nth,x.call,.of (aH x.call),⟨0,0⟩,az⟩] (by intro y j;simp at j;rcases j with j|j<;>(rw[j];exact b)) (by simp[Gs.note]) zS ba h.C6 ?_ ?_ F
   ·show trV (e.g.ev++[_]++[_]) (t:Int)=_;rw[jn,OB b.symm];refine d.2.trans ?_;unfold trC;rw[Oz (PU _)];have:du (dZ c {x with B8:= -1,rep:=.of (aH x.call),at_:=x.at_+1})=false:=by show du ((aF c x.call).drop (x.at_+1))=false;rw[T];exact L
    rw[this];rfl
   ·intro _ _;exact vB rfl b rfl
 ·obtain⟨p1,p2,p3,p4,p5,p6⟩:=a8;have f:(opNow c x).1=2\/(opNow c x).1=3\/(opNow c x).1=4\/(opNow c x).1=5\/(opNow c x).1=6\/(opNow c x).1=7:=zO;have z:∀(g':Gs) (a:Nat) (wn:Int),g'.ev=e.g.ev->g'.mp=e.g.mp->a≠0->du ((aF c x.call).drop a)=du (dZ c x)->fC c ps {e with g:=g',cs:=e.cs.set t {x with B8:=wn,at_:=a},used:=e.used+1}:=λg' a wn D O S a4=>by
   refine h.K3 hx [] zS (by rw[D,PC]) zS (by rw[D,O];exact h.L9) (by rw[O];exact h.C6) ?_ (λ_ b2=>?_) R
   ·rw[D,H];unfold trC;rw[Oz B,Oz S];show _=if du ((aF c x.call).drop a)=true then _ else _
    rw[a4]
   ·rw[D];exact h.J2 t x hx B (by rw[<-a4];exact b2)
  rcases f with f|f|f|f|f|f
  iterate 2
   ·rw[pN zO];exact z _ _ _ (dY _ _ _ _).2.2.2 (dY _ _ _ _).2.1 (PU _) (by rw[m,lS zO];rfl)
  ·rw[tZ f];obtain⟨d1,d2,d3,d4,d5⟩:=JU c e.g x.call;obtain⟨_,_,d6⟩:=xP e.g c hL.lk x.call;obtain⟨f1,f2⟩:=xT hc0 h.C6 o zO;have aa:(({x with B8:= -1,rep:=(e.g.E6 c x.call).2,at_:=x.at_+1}:Ci).event 2)=⟨2,x.task,x.nth,x.call,(e.g.E6 c x.call).2,⟨0,0⟩,az⟩:=rfl;rw[aa];have A:du (dZ c x)=true:=vu.2 ⟨_,by rw[m];exact Qc,f⟩;have aq:=mB.2 (p3 (.inl f)).1;have d:(trV e.g.ev x.task).ok (aK ⟨2,x.task,x.nth,x.call,(e.g.E6 c x.call).2,⟨0,0⟩,az⟩)=true/\(trV e.g.ev x.task).next (aK ⟨2,x.task,x.nth,x.call,(e.g.E6 c x.call).2,⟨0,0⟩,az⟩)=⟨x.nth,2,0,0⟩:=by
    rw[b,H];unfold trC;rw[Oz B,OB A];simp[Tr.ok,Tr.is,Tr.next,aK]
   have X:cd c e.g.mp ⟨2,x.task,x.nth,x.call,(e.g.E6 c x.call).2,⟨0,0⟩,az⟩=((doM c e.g.mp x.call).1,true):=by
    unfold cd;simp[d2]
   have hT:=h.L9.snoc (y:=⟨2,x.task,x.nth,x.call,(e.g.E6 c x.call).2,⟨0,0⟩,az⟩) l d.1 X (λq=>by cases q) (u 2 _ _ zO o (by rw[d2];exact f2)) (s _ b rfl rfl) (λ_=>v);have N:((e.g.E6 c x.call).1.note ⟨2,x.task,x.nth,x.call,(e.g.E6 c x.call).2,⟨0,0⟩,az⟩).ev=e.g.ev++[⟨2,x.task,x.nth,x.call,(e.g.E6 c x.call).2,⟨0,0⟩,az⟩]:=by
    show(e.g.E6 c x.call).1.ev++_=_;rw[d6]
   have af:((e.g.E6 c x.call).1.note ⟨2,x.task,x.nth,x.call,(e.g.E6 c x.call).2,⟨0,0⟩,az⟩).mp=(doM c e.g.mp x.call).1:=d1;refine h.K3 hx [⟨2,x.task,x.nth,x.call,(e.g.E6 c x.call).2,⟨0,0⟩,az⟩] (by intro y j;simp at j;rw[j];exact b) N zS (by rw[N,af];exact hT) (by rw[af];exact f1) ?_ (λ_ _=>?_) (by rw[d2];exact f2)
   ·rw[N,jn,OB b.symm,d.2];unfold trC;rw[Oz (PU _)];have:du (dZ c {x with B8:= -1,rep:=(e.g.E6 c x.call).2,at_:=x.at_+1})=false:=aq;rw[this];rfl
   ·rw[N];exact vB rfl b rfl
  ·rw[ua f];obtain⟨n,e1,e2,e3,e4,e5⟩:=p2 f;refine z _ _ _ (dA _ _ _).2.2.2 (dA _ _ _).2.1 (PU _) ?_;rw[m,lS zO];by_cases ag:(opNow c x).2<(c.st:Int)/\x.rep.err≠0
   ·rw[OB ag];have Q:x.at_+1<(aF c x.call).length:=by
     refine Pg λq=>e4 ?_;unfold fP;rw[Rc];omega
    rw[xO _ _ Q λq=>e5 (.inr q)];by_cases hl:(((aF c x.call).drop (x.at_+1)).headD (0,0)).2=lineN c
    ·rw[OB hl];have ah:(aF c x.call).drop (x.at_+1)=eS c:=e5 (.inr hl);have bf:(aF c x.call).drop (x.at_+3+1)=[(7,0)]:=by
      rw[show x.at_+3+1=x.at_+1+3 from by omega,<-Rs,ah];rfl
     have aw:fP c x=eS c:=ah;rw[bf,aw];rfl
    ·rw[Oz hl];rfl
   ·rw[Oz ag];rfl
  ·rw[ub f];obtain⟨k1,k2,k3,k4,k5⟩:=Dl hL.lk (av x.call.id);exact z _ _ _ k3 k4 (PU _) (by rw[m,lS zO];rfl)
  ·rw[uc f];have ax:=p5.1 f;have A:du (dZ c x)=false:=by rw[m,lS zO,ax];rfl
   have aa:(({x with B8:= -1}:Ci).event 3)=⟨3,x.task,x.nth,.zero,x.rep,⟨0,0⟩,az⟩:=rfl;rw[aa];have d:(trV e.g.ev x.task).ok (aK ⟨3,x.task,x.nth,.zero,x.rep,⟨0,0⟩,az⟩)=true/\(trV e.g.ev x.task).next (aK ⟨3,x.task,x.nth,.zero,x.rep,⟨0,0⟩,az⟩)=⟨x.nth,3,0,0⟩:=by
    rw[b,H];unfold trC;rw[Oz B,A];simp[Tr.ok,Tr.is,Tr.next,aK]
   have hT:=h.L9.snoc (y:=⟨3,x.task,x.nth,.zero,x.rep,⟨0,0⟩,az⟩) l d.1 (lA 3 rfl zP) (λ_=>by have:=h.J2 t x hx B A;rw[b];exact this) (u 3 _ _ zO Cl.I2 R) (λq=>by rcases q with q|q<;>cases q) (λ_=>v);refine h.K3 hx [⟨3,x.task,x.nth,.zero,x.rep,⟨0,0⟩,az⟩] (by intro y j;simp at j;rw[j];exact b) rfl zS hT h.C6 ?_ (λq=>absurd rfl q) R;show trV (e.g.ev++[_]) (t:Int)=_;rw[jn,OB b.symm,d.2];unfold trC;rw[OB rfl,Oz (PU _)];simp
def fC.stepW(hc0:c.ok)(hL:lG c e)(hQ:gb c ps e)(h:fC c ps e)(hu:e.used<=30000){x:Wi}(hx:e.ws[j]?=some x)(hrx:x.ready c e.g=true):fC c ps (e.go c (e.cs.length+j)):=by
 have ai:=hL.Q1 j x hx;have hd:=ai.B6;have ay:=Wi.G1 hrx;have bi:=cz hx;have bj:=hL.I4 j x hx;have H:x.task=((e.cs.length+j:Nat):Int):=zO;have ac:=hL.lk.n32;have S:0<=x.task/\x.task<32:=by unfold En.count at ac;omega
 have d:=h.U2 j x hx;have f:=d;rw[<-H]at f;obtain⟨o,p,t,aa⟩:=h.K9 j x hx;have m:=RI aa;have bl:=h.n;rw[Do hx];have T:x.B6=0\/x.B6=1\/x.B6=2\/x.B6=3\/x.B6=4\/x.B6=5\/x.B6=6\/x.B6=7\/x.B6=8\/x.B6=9\/x.B6=10\/x.B6=11\/x.B6=12\/x.B6=14:=zO;have s:∀(g':Gs) (w:Wi),g'.ev=e.g.ev->g'.mp=e.g.mp->TrW (trV e.g.ev ((e.cs.length+j:Nat):Int)) w->WOk c (e.used+1) w->fC c ps {e with g:=g',ws:=e.ws.set j w,used:=e.used+1}:=λg' w i O P a4=>
  h.M5 hx [] zS (by rw[i,PC]) zS (by rw[i,O];exact h.L9) (by rw[O];exact h.C6) (by rw[i];exact P) a4
 have A:∀(N:Int) (b:Bool) (F:Nat),TrW (trV e.g.ev ((e.cs.length+j:Nat):Int)) {x with B6:=F}->fC c ps {e with g:=(ic e.g x.y N b F).1,ws:=e.ws.set j (ic e.g x.y N b F).2,used:=e.used+1}:=λN b F i=>
  s _ _ (dY _ _ _ _).2.2.2 (dY _ _ _ _).2.1 ⟨i.nth,i.hi,i.lo,i.idle,i.N9,i.D9,i.done,i.Q3⟩ ⟨o,p,t,m⟩
 have u:∀(N:Int) (F:Nat),TrW (trV e.g.ev ((e.cs.length+j:Nat):Int)) {x with B6:=F}->fC c ps {e with g:=e.g.drop N x.task,ws:=e.ws.set j {x.y with B6:=F},used:=e.used+1}:=λN F i=>
  s _ _ (dA _ _ _).2.2.2 (dA _ _ _).2.1 ⟨i.nth,i.hi,i.lo,i.idle,i.N9,i.D9,i.done,i.Q3⟩ ⟨o,p,t,m⟩
 have L:x.at->∃G,bd G=true/\x.key=av G:=λha=>by
  obtain⟨y,_,h2,h3⟩:=hQ.ls x.key (hQ.bk _ (hQ.wb j x hx ha));exact⟨y.id,h2,h3⟩
 have B:∀(k:Int) (U:K2) (a:Adv),4<=k/\k<=7->(∃G,bd G=true/\U=av G)->a.ok->nz ⟨k,x.task,0,.zero,.zero,U,a⟩:=λk U a i O P=>by
  obtain⟨G,b1,b2⟩:=O;have al:U.ok:=by rw[b2];exact jh G (dn b1).2.1
  exact⟨⟨cX (by show 0<=k/\k<=_;omega),cX (by show 0<=x.task/\x.task<=_;omega),aD,Cl.I2,dS,al,P⟩,λ_=>⟨G,b1,b2⟩⟩
 have D:∀(y:Vt) (X:Mp) (g':Gs) (w:Wi),y.task=x.task->4<=y.kind->(trV e.g.ev x.task).ok (aK y)=true->cd c e.g.mp y=(X,true)->nz y->g'.ev=e.g.ev++[y]->g'.mp=X->fG c X->TrW ((trV e.g.ev x.task).next (aK y)) w->WOk c (e.used+1) w->fC c ps {e with g:=g',ws:=e.ws.set j w,used:=e.used+1}:=λy X g' w i O P a4 a5 a6 a7 a8 a9 an=>by
  have d:=h.L9.snoc (y:=y) (by rw[i];exact S) (by rw[i];exact P) a4 (λq=>zO) a5 (λq=>zO) (λq=>zO);refine h.M5 hx [y] (by intro z hz;simp at hz;rw[hz,i];exact H) a6 zS (by rw[a6,a7];exact d) (by rw[a7];exact a8) ?_ an;rw[a6,jn,OB (by rw[i];exact H.symm),i];exact a9
 rcases T with l|l|l|l|l|l|l|l|l|l|l|l|l|l
 ·rw[qo l];exact A _ _ _ ⟨d.nth,d.hi,d.lo,λ_=>d.idle zO,λq=>by simp at q,λq=>by simp at q,λq=>by simp at q,λq=>by simp at q⟩
 ·have ab:=d.idle zO;have af:=f.idle zO
  cases hq:e.g.q.line with
  |nil=>
   rw[mz l hq];split
   ·exact s _ _ rfl rfl ⟨d.nth,d.hi,d.lo,λ_=>ab,λq=>by simp at q,λq=>by simp at q,λq=>by simp at q,λq=>by simp at q⟩ ⟨o,p,t,m⟩
   ·have Q:(e.g.sleep x.task).ev=e.g.ev/\(e.g.sleep x.task).mp=e.g.mp:=by unfold Gs.sleep;split<;>exact⟨rfl,rfl⟩
    exact s _ _ Q.1 Q.2 ⟨d.nth,d.hi,d.lo,λ_=>ab,λq=>by simp at q,λq=>by simp at q,λq=>by simp at q,λq=>by simp at q⟩ ⟨o,p,t,m⟩
  |cons k r=>
   rw[oJ l hq];have aq:=hQ.q.ld k (by rw[hq];simp);obtain⟨y,_,y2,y3⟩:=hQ.ls k (hQ.dk k aq);refine D ⟨4,x.task,0,.zero,.zero,k,az⟩ e.g.mp _ _ rfl (by show(4:Int)<=4;omega) ?_ (lA 4 rfl zP) (B 4 k az zO ⟨y.id,y2,y3⟩ nR) rfl rfl h.C6 ?_ ⟨o,p,by show k.ok;rw[y3];exact jh _ (dn y2).2.1,m⟩
   ·rcases af with q|q<;>simp[Tr.ok,Tr.is,Tr.next,aK,q,f.nth]
   ·exact⟨by simp[Tr.next,aK,f.nth],by simp[Tr.next,aK],by simp[Tr.next,aK],λq=>by simp at q,λ_=>by simp[Tr.next,aK],λq=>by simp at q,λq=>by simp at q,λq=>by simp at q⟩
 ·rw[qp l];exact u _ _ ⟨d.nth,d.hi,d.lo,λq=>by simp at q,λ_=>d.N9 zO,λq=>by simp at q,λq=>by simp at q,λq=>by simp at q⟩
 ·rw[qr l];exact A _ _ _ ⟨d.nth,d.hi,d.lo,λq=>by simp at q,λ_=>d.N9 zO,λq=>by simp at q,λq=>by simp at q,λq=>by simp at q⟩
 ·rw[qt l];have v:x.at:=⟨zO,zO⟩;have R:=f.N9 zO;have ag:((ap e.g.mp.ls x.key).getD .new).C6 c:=by
   cases hg:ap e.g.mp.ls x.key with
   |none=>exact lq c
   |some y=>exact h.C6.get hg
  refine D ⟨5,x.task,0,.zero,.zero,x.key,az⟩ e.g.mp _ _ rfl (by show(4:Int)<=5;omega) ?_ (lA 5 rfl zP) (B 5 _ az zO (L v) nR) rfl rfl h.C6 ?_ ⟨ag,p,t,m⟩
  ·simp[Tr.ok,Tr.is,Tr.next,aK,R,f.nth,f.hi,f.lo]
  ·exact⟨by simp[Tr.next,aK,f.nth],by simp[Tr.next,aK,f.hi],by simp[Tr.next,aK,f.lo],λq=>by simp at q,λq=>by simp at q,λ_=>by simp[Tr.next,aK],λq=>by simp at q,λq=>by simp at q⟩
 ·rw[qu l];exact u _ _ ⟨d.nth,d.hi,d.lo,λq=>by simp at q,λq=>by simp at q,λ_=>d.D9 zO,λq=>by simp at q,λq=>by simp at q⟩
 ·rw[qw l];have Q:=d.D9 zO;split
  ·rename_i ah;refine s _ _ rfl rfl ⟨d.nth,d.hi,d.lo,λq=>by simp at q,λq=>by simp at q,λ_=>Q,λq=>by simp at q,λq=>by simp at q⟩ ⟨o,Mz hc0 o (o.D8 ah.1),t,m⟩
  ·exact s _ _ rfl rfl ⟨d.nth,d.hi,d.lo,λq=>by simp at q,λq=>by simp at q,λq=>by simp at q,λ_=>.inl Q,λq=>by simp at q⟩ ⟨o,p,t,m⟩
 ·rw[qy l];exact A _ _ _ ⟨d.nth,d.hi,d.lo,λq=>by simp at q,λq=>by simp at q,λ_=>d.D9 zO,λq=>by simp at q,λq=>by simp at q⟩
 ·rw[qz l];have v:x.at:=⟨zO,zO⟩;have R:=f.D9 zO;have aw:cd c e.g.mp ⟨6,x.task,0,.zero,.zero,x.key,x.E0⟩=((eo c e.g.mp x.key x.E0).1,true):=by
   have hk:=hQ.bk _ (hQ.wb j x hx v);unfold dB at hk;unfold cd;rw[Oz (show ¬((6:Int)=2) by decide),OB rfl];unfold eo
   cases hg:ap e.g.mp.ls x.key with
   |none=>exact absurd hg hk
   |some y=>rfl
  refine D ⟨6,x.task,0,.zero,.zero,x.key,x.E0⟩ _ _ _ rfl (by show(4:Int)<=6;omega) ?_ aw (B 6 _ x.E0 zO (L v) p) rfl rfl (Gf h.C6 _ p) ?_ ⟨o,p,t,m⟩
  ·simp[Tr.ok,Tr.is,Tr.next,aK,R,f.nth,f.hi,f.lo]
  ·exact⟨by simp[Tr.next,aK,f.nth],by simp[Tr.next,aK,f.hi],by simp[Tr.next,aK,f.lo],λq=>by simp at q,λq=>by simp at q,λq=>by simp at q,λ_=>by simp[Tr.next,aK],λq=>by simp at q⟩
 ·rw[qA l];exact u _ _ ⟨d.nth,d.hi,d.lo,λq=>by simp at q,λq=>by simp at q,λq=>by simp at q,λ_=>d.done zO,λq=>by simp at q⟩
 ·rw[oK l];exact A _ _ _ ⟨d.nth,d.hi,d.lo,λq=>by simp at q,λq=>by simp at q,λq=>by simp at q,λ_=>d.done zO,λq=>by simp at q⟩
 ·rw[oL l];have v:x.at:=⟨zO,zO⟩;have R:=f.done zO;obtain⟨k1,k2,k3,k4,k5⟩:=xQ (hL.lk.same (g':=e.g.note (x.y.event 7)) rfl rfl rfl) x.key;refine D ⟨7,x.task,0,.zero,.zero,x.key,az⟩ e.g.mp _ _ rfl (by show(4:Int)<=7;omega) ?_ (lA 7 rfl zP) (B 7 _ az zO (L v) nR) k3 k4 h.C6 ?_ ⟨o,p,t,Nat.succ_le_succ aa⟩
  ·rcases R with q|q<;>simp[Tr.ok,Tr.is,Tr.next,aK,q,f.nth,f.hi,f.lo]
  ·exact⟨by simp[Tr.next,aK,f.nth],by simp[Tr.next,aK,f.hi],by simp[Tr.next,aK,f.lo],λq=>by simp at q,λq=>by simp at q,λq=>by simp at q,λq=>by simp at q,λ_=>by simp[Tr.next,aK]⟩
 ·rw[oM l];exact u _ _ ⟨d.nth,d.hi,d.lo,λ_=>d.idle zO,λq=>by simp at q,λq=>by simp at q,λq=>by simp at q,λq=>by simp at q⟩
 ·rw[oN l];exact u _ _ ⟨d.nth,d.hi,d.lo,λ_=>.inr (d.Q3 zO),λq=>by simp at q,λq=>by simp at q,λq=>by simp at q,λq=>by simp at q⟩
def fC.go(hc0:c.ok)(hL:lG c e)(hQ:gb c ps e)(h:fC c ps e)(hps:∀p∈ps,p.length<=1000/\∀y∈p,y.ok)(hu:e.used<=30000)(hr:e.ready c t=true):fC c ps (e.go c t):=by
 rcases i6 hr with⟨x,b,a⟩|⟨j,x,rfl,b,a⟩
 ·exact h.R5 hc0 hL hQ hps hu b a
 ·exact h.stepW hc0 hL hQ hu b a
end
end Go.Fw
