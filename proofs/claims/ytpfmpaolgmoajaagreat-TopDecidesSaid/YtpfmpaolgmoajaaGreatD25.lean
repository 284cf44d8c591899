/- Lemmas of this claim. Conditions: as each says. -/
import Derived.Test.YtpfmpaolgmoajaaGreatD23
import Derived.Test.YtpfmpaolgmoajaaGreatD24
set_option linter.unusedVariables false
set_option linter.unusedSimpArgs false
set_option maxHeartbeats 4000000
set_option maxRecDepth 20000
set_option linter.defProp false
open Go.Proofs.Tryz
namespace Go.Fw
open Go.RowKit open Go.Proofs hiding intOf
variable {x:Ci}{k p q B wp used k':Nat}{x':Wi}{A A':Option Addr}{L:Nat->Prop}{T:Nat->Tg}{pcs pws:List Nat}{vw:Value}(w:World)(c:Cg)(ps:List (List Cl))(m:Nat)(e:En)(r:Nat->Bool)(pick:Int)(wr:World)(wk:Int)(s:List K2×Bool)(raw:List Int)(n:Nat)(l:List Vt)(j ep:Nat)(a:Addr)
structure ge(c:Cg)(ps:List (List Cl)):Prop where
 cfg:c.ok
 each:∀p∈ps,p.length<=1000/\∀y∈p,y.ok
 E5:ps.flatten.length<=1000
structure dI(c:Cg)(ps:List (List Cl))(e:En):Prop where
 L:lG c e
 Q:gb c ps e
 E:InvE c ps e
section
variable {c:Cg} {ps:List (List Cl)} {e:En} {t j:Nat}
def dI.new(hp:ge c ps)(n:Nat)(hn:ps.length+n<=32):dI c ps (.new c ps n):=⟨.new hp.cfg ps n hn,.new c ps n,.new c ps n⟩
def dI.go(hp:ge c ps)(h:dI c ps e)(hu:e.used<=30000)(hr:e.ready c t=true):dI c ps (e.go c t):=⟨h.L.go hp.cfg hr,h.Q.go hp.cfg h.L hr,h.E.go hp.cfg h.L h.Q hp.each hu hr⟩
def dI.evs(h:dI c ps e)(hu:e.used<=30000):e.g.ev.length<=60000:=by have:=h.E.len;omega
def dI.E5(hp:ge c ps)(h:dI c ps e)(hu:e.used<=30000):e.g.E5:=by
 have a:=h.L.lk.E5 (n:=c.st+1) zO;have b:e.g.lock ((c.st+1:Nat):Int)=e.g.ln:=by have:=Go.Fw.lock_ln h.L.lk.len;simpa using this
 rw[b]at a;have f:=h.L.lk.S9;have i:=h.Q.E5;have j:=hp.E5;have k:=h.E.L9.B9;have l:=h.evs hu;exact⟨zO,zO,λt d=>by have:=(h.L.lk.H7 t d).1;have:=h.L.lk.n32;constructor<;>omega,⟨zO,zO,zO⟩,zO⟩
def dI.S4(hp:ge c ps)(h:dI c ps e)(hx:e.cs[t]?=some x):x.ok c:=by
 have b:=h.Q.prog t x hx;obtain⟨g,i⟩:=hp.each _ (Qx b);have a:=h.L.I1 t x hx;have m:=h.L.J0 t x hx;have o:=cz hx;have d:=h.L.lk.n32;refine⟨i,g,by unfold En.count at d;omega,a.nth,?_,a.B8.imp id λ⟨n,j,k,_⟩=>⟨n,j,k⟩,h.E.P0 t x hx⟩;by_cases f:x.at_=0
 ·obtain⟨r,l,_⟩:=kC hp.cfg x.call;rw[f,l];simp
 ·refine Pg λq=>(a.rem f).2.2 ?_;unfold dZ;rw[Rc];omega
def dI.wok(hp:ge c ps)(h:dI c ps e)(hu:e.used<=30000){x:Wi}(hx:e.ws[j]?=some x):x.ok c:=by
 have a:=h.L.Q1 j x hx;have l:=h.L.I4 j x hx;have m:=cz hx;have b:=h.L.lk.n32;obtain⟨d,f,g,o⟩:=h.E.K9 j x hx;exact⟨by unfold En.count at b;omega,a.B6,a.B8.imp id λ⟨n,i,k,_⟩=>⟨n,i,k⟩,g,d,f,zO⟩
def DG(hc0:c.ok)(x:Cl):(aF c x).length<=1000:=by
 obtain⟨r,a,_,_,_,_,_,_,h,_⟩:=kC hc0 x;rw[a];simp;omega
def dI.U5(hp:ge c ps)(h:dI c ps e)(hu:e.used<=30000)(hx:e.cs[t]?=some x)(hr:x.ready e.g=true):Lo c e.g x:=by
 have u:=Ci.G0 hr;have f:=h.L.I1 t x hx;have m:=(h.S4 hp hx).call u;obtain⟨o,v⟩:=f.place (hc0:=hp.cfg) u;have ae:=h.evs hu;have i:be c x x.at_=opNow c x:=rfl;have j:∀n:Nat,n<c.st+2->(e.g.lock n).line.length<=900:=λn N=>OJ (h.L.lk.E5 N) zP
 rcases v with⟨w,y⟩|⟨w,z,A,O,P,Q,R⟩
 ·have S:(be c x x.at_).1=1:=by rw[i,y]
  exact⟨zO,λq=>absurd S q,λ_=>zO,λq=>zO,λq=>zO,λq=>zO,λq=>zO,λq=>zO⟩
 ·rw[<-i]at z A O P Q R;refine⟨zO,λ_=>w,λq=>zO,λq=>?_,λq=>?_,λq=>?_,λq=>?_,λq=>zO⟩
  ·obtain⟨n,p,b,_⟩:=z q;exact⟨n,p,b,j n b⟩
  ·obtain⟨_,T,_⟩:=JU c e.g x.call;have af:=h.E.L9.B9;refine⟨h.E5 hp hu,by rw[T];exact(xT hp.cfg h.E.C6 m.2.2 zO).2,?_⟩;rw[(xP e.g c h.L.lk x.call).2.2];omega
  ·obtain⟨n,p,b,U,X,q5⟩:=A q;have hl:x.at_+1<(aF c x.call).length:=by
    refine Pg λq=>X ?_;unfold fP;rw[Rc];omega
   refine⟨n,p,b,f.has hr b U,j n b,hl,λd=>?_⟩;have B:∀k,be c x (x.at_+1+k)=(fP c x).getD k (0,0):=λk=>oI _ _ _;have e2:((fP c x).headD (0,0)).2=lineN c:=by
    have D:=B 0;rw[Qt]at D;rw[D]at d
    cases hq:fP c x with
    |nil=>rw[hq]at d;exact d
    |cons a r=>rw[hq]at d;exact d
   have F:=q5 (.inr e2);have G:=B 3;rw[F,show x.at_+1+3=x.at_+4 from by omega]at G;refine⟨?_,?_⟩
   ·have H:(fP c x).length=4:=by rw[F];rfl
    unfold fP at H;rw[PW]at H;omega
   ·rw[G];simp[eS,lineN];omega
  ·have s:gU (dZ c x)=true:=jY.2 ⟨_,by rw[o];exact Qc,q⟩;have hk:=xS hp.cfg s;have l:=mY hk.2 zO;exact⟨h.E5 hp hu,l,jh _ (dn l).2.1⟩
end
def Sy{α:Type}{motive:List α->Prop}(l:List α)(nil:motive [])(append_singleton:∀(r:List α) (y:α),motive r->motive (r++[y])):motive l:=by
 have h:∀l:List α,motive l.reverse:=λl=>by
  induction l with
  |nil=>exact nil
  |cons a r ih=>rw[List.reverse_cons];exact append_singleton _ _ ih
 have:=h l.reverse
 rwa [List.reverse_reverse]at this
def pr(kd t:Int)(s:Int×Int)(x:Vt):Int×Int:=(s.1+1,if x.kind=kd/\x.task=t then s.1 else s.2)
def ca(l:List Vt)(kd t:Int):Int:=(l.foldl (pr kd t) (0, -1)).2
def SC(kd t:Int):∀(l:List Vt) (s:Int×Int),(l.foldl (pr kd t) s).1=s.1+l.length
 |[],s=>zS
 |x::r,s=>by
  rw[Qz,SC kd t r];simp only[pr,OC];omega
def ko(l:List Vt)(x:Vt)(kd t:Int):ca (l++[x]) kd t=if x.kind=kd/\x.task=t then(l.length:Int)else ca l kd t:=by
 unfold ca;rw[Qe];simp only[Qz,List.foldl_nil];rw[show(pr kd t (l.foldl (pr kd t) (0, -1)) x).2=if x.kind=kd/\x.task=t then(l.foldl (pr kd t) (0, -1)).1 else(l.foldl (pr kd t) (0, -1)).2 from rfl,SC];simp
def SP(l:List Vt)(kd t:Int):∀(new:List Vt),(∀y∈new,¬(y.kind=kd/\y.task=t))->ca (l++new) kd t=ca l kd t:=by
 intro new;induction new using Sy with
 |nil=>intro _;rw[PC]
 |append_singleton r y ih=>
  intro h;rw[<-Pv,ko,Oz (h y zS),ih λz a=>h z (by simp[a])]
def Sx(l:List Vt)(kd t:Int): -1<=ca l kd t/\ca l kd t<l.length:=by
 induction l using Sy with
 |nil=>exact⟨by show(-1:Int)<= -1;omega,by show(-1:Int)<0;omega⟩
 |append_singleton r y ih=>
  rw[ko,OS];simp only[OC,OE];split<;>omega
def apS(s:List K2×Bool)(x:Vt):List K2×Bool:=
 if x.kind=4 then(fu s.1 x.key,s.2&&decide (x.key∉s.1))else if x.kind=7 then(ib s.1 x.key,s.2)else s
def apF(l:List Vt):List K2×Bool:=l.foldl apS ([],true)
def Ta(x:Vt):(apS s x).1.length<=s.1.length+1:=by
 unfold apS;split
 ·unfold fu;split
  ·exact OW _
  ·simp
 split
 ·exact RI (PF _ _)
 ·exact OW _
def nt(x:Vt):apF (l++[x])=apS (apF l) x:=by unfold apF;rw[Qe];rfl
def Sz:∀(new:List Vt),(∀y∈new,y.kind≠4/\y.kind≠7)->apF (l++new)=apF l:=by
 intro new;induction new using Sy with
 |nil=>intro _;rw[PC]
 |append_singleton r y ih=>
  intro h;rw[<-Pv,nt,ih λz a=>h z (by simp[a])];obtain⟨b,c⟩:=h y zS;unfold apS;rw[Oz b,Oz c]
def SQ(x:Vt)(h:s.2=false):(apS s x).2=false:=by unfold apS;split;(simp[h]);split<;>exact h
def SV{l:List Vt}(h:(apF l).2=true)(k:Nat):(apF (l.take k)).2=true:=by
 have a:∀(r:List Vt) (s:List K2×Bool),s.2=false->(r.foldl apS s).2=false:=λr=>by
  induction r with
  |nil=>exact λs h=>h
  |cons x r ih=>exact λs h=>ih _ (SQ s x h)
 rw[<-Qr k l]at h;unfold apF at h ⊢;rw[Qe]at h
 cases hq:(List.foldl apS ([],true) (l.take k)).2 with
 |true=>rfl
 |false=>rw[a _ _ hq]at h;cases h
def Td{l:List Vt}(h:(apF l).2=true)(hk:k<l.length)(h4:l[k].kind=4):l[k].key∉(apF (l.take k)).1:=by
 have a:=SV h (k+1);rw[OG hk,nt]at a;unfold apS at a;rw[OB h4]at a;simp only[OY,decide_eq_true_eq]at a;exact a.2
def Tb:(apF l).1.length<=l.length:=by
 induction l using Sy with
 |nil=>exact OA _
 |append_singleton r y ih=>
  rw[nt,OS];exact OJ (Ta _ _) (Nat.succ_le_succ ih)
structure o5(c:Cg)(l:List Vt)(p:Vt):Prop where
 N9:0<=ca l 4 p.task
 Q3:ca l 7 p.task<=ca l 4 p.task
 D9:ca l 4 p.task<=ca l 5 p.task
 dec:∃y id,ap (fK c (l.take (ca l 5 p.task).toNat)).ls p.key=some y/\bd id=true/\p.key=av id/\y.E9=true/\fW y.D8 y.D2=0/\p.E0=od y.D8 y.D2 y.C0
structure WD(c:Cg)(ev:List Vt)(x:Wi):Prop where
 N9:x.at->0<=ca ev 4 x.task/\ca ev 7 x.task<=ca ev 4 x.task
 D9:5<=x.B6/\x.B6<=8->ca ev 4 x.task<=ca ev 5 x.task/\ap (fK c (ev.take (ca ev 5 x.task).toNat)).ls x.key=some x.D9
 E0:7<=x.B6/\x.B6<=8->x.D9.E9=true/\fW x.D9.D8 x.D9.D2=0/\x.E0=od x.D9.D8 x.D9.D2 x.D9.C0
structure ka(c:Cg)(e:En):Prop where
 w:∀(j:Nat) x,e.ws[j]?=some x->WD c e.g.ev x
 ok:∀(i:Nat) (h:i<e.g.ev.length),e.g.ev[i].kind=6->o5 c (e.g.ev.take i) e.g.ev[i]
 app:(apF e.g.ev).2=true/\∀k,k∈(apF e.g.ev).1↔k∈e.g.q.busy
def WD.grow{c:Cg}{ev new:List Vt}{x:Wi}(h:WD c ev x)(hn:∀y∈new,y.kind<4\/y.task≠x.task):WD c (ev++new) x:=by
 have a:∀b,4<=b->ca (ev++new) b x.task=ca ev b x.task:=λb e=>SP _ _ _ _ λy d q=>by
  rcases hn y d with r|r
  ·omega
  ·exact r q.2
 have f:=Sx ev 5 x.task;refine⟨λq=>?_,λq=>?_,h.E0⟩
 ·rw[a 4 zO,a 7 zO];exact h.N9 q
 ·rw[a 4 zO,a 5 zO,QN zO];exact h.D9 q
def ka.new(c:Cg)(ps:List (List Cl))(n:Nat):ka c (.new c ps n):=by
 refine⟨λj x a=>?_,λi h=>by simp[En.new,Gs.new]at h,rfl,λk=>by simp[En.new,Gs.new,Qm.zero,apF]⟩;simp only[En.new,Pz,PB]at a;obtain⟨k,_,rfl⟩:=a;exact⟨λq=>by have:=q.1;simp[Wi.new]at this,λq=>by simp[Wi.new]at q,λq=>by simp[Wi.new]at q⟩
section
variable {c:Cg} {ps:List (List Cl)} {e:En} {g':Gs} {t j:Nat}
def SK{ev new:List Vt}(h:∀(i:Nat) (h:i<ev.length),ev[i].kind=6->o5 c (ev.take i) ev[i])(hn:∀(i:Nat) (h:i<new.length),new[i].kind=6->o5 c (ev++new.take i) new[i]):
  ∀(i:Nat) (h:i<(ev++new).length),(ev++new)[i].kind=6->o5 c ((ev++new).take i) (ev++new)[i]:=λi e a=>by
 by_cases b:i<ev.length
 ·rw[PK b]at a ⊢;rw[QN zO];exact h i b a
 ·have d:ev.length<=i:=zO;have f:i-ev.length<new.length:=by rw[OS]at e;omega
  rw[Qi d]at a ⊢;rw[show(ev++new).take i=ev++new.take (i-ev.length)from by rw[List.take_append,OT d]];exact hn _ f a
def ka.I1(h:ka c e)(cs':List Ci)(new:List Vt)(hev:g'.ev=e.g.ev++new)(hn:∀y∈new,y.kind<4)(hb:g'.q.busy=e.g.q.busy)(u:Nat):ka c {e with g:=g',cs:=cs',used:=u}:=by
 refine⟨λi x b=>?_,?_,?_⟩
 ·show WD c g'.ev x;rw[hev];exact(h.w i x b).grow λy a=>.inl (hn y a)
 ·show ∀(i:Nat) (h:i<g'.ev.length),g'.ev[i].kind=6->o5 c (g'.ev.take i) g'.ev[i];rw[hev];exact SK h.ok λi d f=>by have:=hn _ (OR d);omega
 ·show(apF g'.ev).2=true/\∀k,k∈(apF g'.ev).1↔k∈g'.q.busy;rw[hev,hb,Sz _ _ λy a=>by have:=hn y a;omega];exact h.app
def Te(hL:lG c e):∃new,(bT c e.g x).1.ev=e.g.ev++new/\(∀y∈new,y.kind<4)/\(bT c e.g x).1.q.busy=e.g.q.busy:=by
 by_cases b:(opNow c x).1=1
 ·rw[tY b];split
  ·exact⟨[_],rfl,by intro y a;simp at a;rw[a];exact(by decide:(1:Int)<4),rfl⟩
  ·refine⟨[({x with B8:= -1,rep:=.of (aH x.call),at_:=x.at_+1}:Ci).event 1,({x with B8:= -1,rep:=.of (aH x.call),at_:=x.at_+1}:Ci).event 2],by simp[Gs.note],λy a=>?_,rfl⟩;simp at a
   rcases a with a|a
   ·rw[a];exact(by decide:(1:Int)<4)
   ·rw[a];exact(by decide:(2:Int)<4)
 by_cases d:(opNow c x).1=2\/(opNow c x).1=3
 ·rw[pN d];exact⟨[],by rw[PC];exact(dY _ _ _ _).2.2.2,zS,by rw[(dY _ _ _ _).2.2.1]⟩
 by_cases f:(opNow c x).1=4
 ·rw[tZ f];obtain⟨_,_,l⟩:=xP e.g c hL.lk x.call;exact⟨[_],by show(e.g.E6 c x.call).1.ev++_=_;rw[l],by intro y a;simp at a;rw[a];simp[Ci.event],(JU c e.g x.call).2.2.2.2⟩
 by_cases h:(opNow c x).1=5
 ·rw[ua h];exact⟨[],by rw[PC];exact(dA _ _ _).2.2.2,zS,by rw[(dA _ _ _).2.2.1]⟩
 by_cases i:(opNow c x).1=6
 ·rw[ub i];obtain⟨o,p,m,r,n⟩:=Dl hL.lk (av x.call.id);exact⟨[],by rw[PC];exact m,zS,by rw[n];exact(BF (j:=av x.call.id)).2⟩
 by_cases k:(opNow c x).1=7
 ·rw[uc k];exact⟨[_],rfl,by intro y a;simp at a;rw[a];simp[Ci.event],rfl⟩
 ·have:bT c e.g x=(e.g,{x with B8:= -1,at_:=x.at_+1}):=by
   unfold bT;unfold opNow at b d f h i k;simp only[b,d,f,h,i,k,if_false]
  rw[this];exact⟨[],by rw[PC],zS,rfl⟩
def ka.Q1(hL:lG c e)(h:ka c e){x:Wi}(hx:e.ws[j]?=some x)(ht:x'.task=x.task)(new:List Vt)(hev:g'.ev=e.g.ev++new)(hn:∀y∈new,y.task=x.task)(hw:WD c g'.ev x')(hok:∀(i:Nat) (h:i<new.length),new[i].kind=6->o5 c (e.g.ev++new.take i) new[i])
  (hap:(apF g'.ev).2=true/\∀k,k∈(apF g'.ev).1↔k∈g'.q.busy)(u:Nat):ka c {e with g:=g',ws:=e.ws.set j x',used:=u}:=by
 have a:=cz hx;refine⟨λi y d=>?_,?_,hap⟩
 ·rcases dp d a with⟨rfl,rfl⟩|⟨f,b⟩
  ·exact hw
  ·show WD c g'.ev y;rw[hev];refine(h.w i y b).grow λz l=>.inr λq=>f ?_;have m:=hL.I4 i y b;have n:=hL.I4 j x hx;have o:=hn z l;omega
 ·show ∀(i:Nat) (h:i<g'.ev.length),g'.ev[i].kind=6->o5 c (g'.ev.take i) g'.ev[i];rw[hev];exact SK h.ok hok
def ka.go(hc0:c.ok)(hA:Go.Fw.InvE c ps e)(hL:lG c e)(hQ:gb c ps e)(h:ka c e)(hr:e.ready c t=true):ka c (e.go c t):=by
 rcases i6 hr with⟨x,p,S⟩|⟨j,x,rfl,p,S⟩
 ·rw[Dn p];obtain⟨ab,Q,G,U⟩:=Te (x:=x) hL;exact h.I1 _ ab Q G U _
 ·have ac:=hL.Q1 j x p;have hd:=ac.B6;have ag:=Wi.G1 S;have m:=h.w j x p;rw[Do p];have R:x.B6=0\/x.B6=1\/x.B6=2\/x.B6=3\/x.B6=4\/x.B6=5\/x.B6=6\/x.B6=7\/x.B6=8\/x.B6=9\/x.B6=10\/x.B6=11\/x.B6=12\/x.B6=14:=zO;have l:∀(g':Gs) (x':Wi),x'.task=x.task->g'.ev=e.g.ev->g'.q.busy=e.g.q.busy->WD c e.g.ev x'->ka c {e with g:=g',ws:=e.ws.set j x',used:=e.used+1}:=λg' x' s N X a4=>
   h.Q1 hL p s [] (by rw[N,PC]) zS (by rw[N];exact a4) (λi B=>by simp at B) (by rw[N,X];exact h.app) _
  have D:∀(H:Int) (b:Bool) (f:Nat),WD c e.g.ev {x with B6:=f}->ka c {e with g:=(ic e.g x.y H b f).1,ws:=e.ws.set j (ic e.g x.y H b f).2,used:=e.used+1}:=λH b f s=>
   l _ _ rfl (dY _ _ _ _).2.2.2 (by rw[show(ic e.g x.y H b f).1.q=e.g.q from(dY _ _ _ _).2.2.1]) ⟨s.N9,s.D9,s.E0⟩
  have n:∀(H:Int) (f:Nat),WD c e.g.ev {x with B6:=f}->ka c {e with g:=e.g.drop H x.task,ws:=e.ws.set j {x.y with B6:=f},used:=e.used+1}:=λH f s=>
   l _ _ rfl (dA _ _ _).2.2.2 (by rw[(dA _ _ _).2.2.1]) ⟨s.N9,s.D9,s.E0⟩
  have d:∀f,(2<=f/\f<=11->x.at)->(5<=f/\f<=8->5<=x.B6/\x.B6<=8)->(7<=f/\f<=8->7<=x.B6/\x.B6<=8)->WD c e.g.ev {x with B6:=f}:=λf s N X=>
   ⟨λq=>m.N9 (s q),λq=>m.D9 (N q),λq=>m.E0 (X q)⟩
  have au:=Sx e.g.ev 4 x.task;have av:=Sx e.g.ev 7 x.task
  rcases R with a|a|a|a|a|a|a|a|a|a|a|a|a|a
  ·rw[qo a];exact D _ _ _ (d 1 zO zO zO)
  ·cases hq:e.g.q.line with
   |nil=>
    rw[mz a hq];have L:=d 12 zO zO zO;have aw:=d 1 zO zO zO;split
    ·exact l _ _ rfl rfl rfl ⟨L.N9,L.D9,L.E0⟩
    ·have hs:(e.g.sleep x.task).ev=e.g.ev/\(e.g.sleep x.task).q=e.g.q:=by unfold Gs.sleep;split<;>exact⟨rfl,rfl⟩
     exact l _ _ rfl hs.1 (by rw[hs.2]) ⟨λq=>by have:=q.1;simp[a]at this,λq=>by simp[a]at q,λq=>by simp[a]at q⟩
   |cons k r=>
    rw[oJ a hq];have O:=hQ.q.lb k (by rw[hq];simp);have A:(({x.y with key:=k,B6:=2}:Wi).event 4)=⟨4,x.task,0,.zero,.zero,k,az⟩:=rfl;rw[A];have v:∀o,ca (e.g.ev++[⟨4,x.task,0,.zero,.zero,k,az⟩]) o x.task=if(4:Int)=o/\x.task=x.task then(e.g.ev.length:Int)else ca e.g.ev o x.task:=λo=>ko _ _ _ _
    refine h.Q1 (g':={e.g with q:={e.g.q with line:=r,C5:=ib e.g.q.C5 k,busy:=fu e.g.q.busy k}}.note ⟨4,x.task,0,.zero,.zero,k,az⟩) (x':={x.y with key:=k,B6:=2}) hL p zF [_] zF zS ⟨λ_=>?_,λq=>?_,λq=>?_⟩ (λi B F=>?_) ?_ _
    ·show 0<=ca (e.g.ev++[_]) 4 x.task/\ca (e.g.ev++[_]) 7 x.task<=ca (e.g.ev++[_]) 4 x.task;rw[v 4,v 7];simp;omega
    ·have z:5<=2:=q.1;omega
    ·have z:7<=2:=q.1;omega
    ·exfalso;obtain rfl:i=0:=by simp at B;omega
     have z:(4:Int)=6:=F;omega
    ·show(apF (e.g.ev++[_])).2=true/\∀i,i∈(apF (e.g.ev++[_])).1↔i∈fu e.g.q.busy k;rw[nt];have hn:k∉(apF e.g.ev).1:=λq=>O ((h.app.2 k).1 q);have G:apS (apF e.g.ev) ⟨4,x.task,0,.zero,.zero,k,az⟩=(fu (apF e.g.ev).1 k,(apF e.g.ev).2&&decide (k∉(apF e.g.ev).1)):=rfl;rw[G];refine⟨by simp[h.app.1,hn],λi=>?_⟩;rw[eV,eV,h.app.2 i]
  ·rw[qp a];exact n _ _ (d 3 (λ_=>⟨zO,zO⟩) zO zO)
  ·rw[qr a];exact D _ _ _ (d 4 (λ_=>⟨zO,zO⟩) zO zO)
  ·rw[qt a];have u:x.at:=⟨zO,zO⟩;have F:=hQ.bk _ (hQ.wb j x p u);obtain⟨Q,G⟩:=m.N9 u;have A:(({x.y with D9:=(ap e.g.mp.ls x.key).getD .new,B6:=5}:Wi).event 5)=⟨5,x.task,0,.zero,.zero,x.key,az⟩:=rfl;rw[A];have v:∀o,ca (e.g.ev++[⟨5,x.task,0,.zero,.zero,x.key,az⟩]) o x.task=if(5:Int)=o/\x.task=x.task then(e.g.ev.length:Int)else ca e.g.ev o x.task:=λo=>ko _ _ _ _
   refine h.Q1 (g':=e.g.note ⟨5,x.task,0,.zero,.zero,x.key,az⟩) (x':={x.y with D9:=(ap e.g.mp.ls x.key).getD .new,B6:=5}) hL p zF [_] zF zS ⟨λ_=>?_,λ_=>?_,λq=>?_⟩ (λi B F=>?_) ?_ _
   ·show 0<=ca (e.g.ev++[_]) 4 x.task/\ca (e.g.ev++[_]) 7 x.task<=ca (e.g.ev++[_]) 4 x.task;rw[v 4,v 7];simp;omega
   ·show ca (e.g.ev++[_]) 4 x.task<=ca (e.g.ev++[_]) 5 x.task/\ap (fK c ((e.g.ev++[_]).take (ca (e.g.ev++[_]) 5 x.task).toNat)).ls x.key=some ((ap e.g.mp.ls x.key).getD .new);rw[v 4,v 5,Oz (λq=>absurd q.1 zP),OB ⟨rfl,rfl⟩];refine⟨zO,?_⟩;rw[PH,QN (OA _),PO,hA.L9.mp];unfold dB at F
    cases hg:ap e.g.mp.ls x.key with
    |none=>exact absurd hg F
    |some y=>rfl
   ·have z:7<=5:=q.1;omega
   ·exfalso;obtain rfl:i=0:=by simp at B;omega
    have z:(5:Int)=6:=F;omega
   ·show(apF (e.g.ev++[_])).2=true/\∀i,i∈(apF (e.g.ev++[_])).1↔i∈e.g.q.busy;rw[Sz _ _ zS];exact h.app
  ·rw[qu a];exact n _ _ (d 6 (λ_=>⟨zO,zO⟩) zO zO)
  ·rw[qw a];split
   ·rename_i P;exact l _ _ rfl rfl rfl ⟨λ_=>m.N9 ⟨zO,zO⟩,λ_=>m.D9 zO,λ_=>⟨P.1,P.2,rfl⟩⟩
   ·have L:=d 10 (λ_=>⟨zO,zO⟩) zO zO;exact l _ _ rfl rfl rfl ⟨L.N9,L.D9,L.E0⟩
  ·rw[qy a];exact D _ _ _ (d 8 (λ_=>⟨zO,zO⟩) zO zO)
  ·rw[qz a];have u:x.at:=⟨zO,zO⟩;obtain⟨Q,G⟩:=m.N9 u;obtain⟨U,h4⟩:=m.D9 zO;obtain⟨h5,h6,h7⟩:=m.E0 zO;obtain⟨cl,_,ae,aa⟩:=hQ.ls x.key (hQ.bk _ (hQ.wb j x p u));have A:(({x.y with B6:=9}:Wi).event 6)=⟨6,x.task,0,.zero,.zero,x.key,x.E0⟩:=rfl;rw[A];have v:∀o,ca (e.g.ev++[⟨6,x.task,0,.zero,.zero,x.key,x.E0⟩]) o x.task=if(6:Int)=o/\x.task=x.task then(e.g.ev.length:Int)else ca e.g.ev o x.task:=λo=>ko _ _ _ _
   refine h.Q1 (g':={e.g with mp:=(eo c e.g.mp x.key x.E0).1}.note ⟨6,x.task,0,.zero,.zero,x.key,x.E0⟩) (x':={x.y with B6:=9}) hL p zF [_] zF zS ⟨λ_=>?_,λq=>?_,λq=>?_⟩ (λi B F=>?_) ?_ _
   ·show 0<=ca (e.g.ev++[_]) 4 x.task/\ca (e.g.ev++[_]) 7 x.task<=ca (e.g.ev++[_]) 4 x.task;rw[v 4,v 7];simp;omega
   ·have z:9<=8:=q.2;omega
   ·have z:9<=8:=q.2;omega
   ·obtain rfl:i=0:=by simp at B;omega
    show o5 c (e.g.ev++[]) _;rw[PC];exact⟨Q,G,U,x.D9,cl.id,h4,ae,aa,h5,h6,h7⟩
   ·show(apF (e.g.ev++[_])).2=true/\∀i,i∈(apF (e.g.ev++[_])).1↔i∈e.g.q.busy;rw[Sz _ _ zS];exact h.app
  ·rw[qA a];exact n _ _ (d 10 (λ_=>⟨zO,zO⟩) zO zO)
  ·rw[oK a];exact D _ _ _ (d 11 (λ_=>⟨zO,zO⟩) zO zO)
  ·rw[oL a];have u:x.at:=⟨zO,zO⟩;have O:=hQ.wb j x p u;obtain⟨k1,k2,k3,k4,k5⟩:=xQ (hL.lk.same (g':=e.g.note (x.y.event 7)) rfl rfl rfl) x.key;have A:x.y.event 7=⟨7,x.task,0,.zero,.zero,x.key,az⟩:=rfl;obtain⟨d1,d2⟩:=JV O;have T:((e.g.note (x.y.event 7)).F6 x.key).ev=e.g.ev++[⟨7,x.task,0,.zero,.zero,x.key,az⟩]:=k3;have af:((e.g.note (x.y.event 7)).F6 x.key).q=(e.g.q.done x.key).1:=k5;refine h.Q1 (g':=(e.g.note (x.y.event 7)).F6 x.key) (x':={x.y with done:=x.done+1,B6:=14}) hL p zF [_] T zS ⟨λq=>?_,λq=>?_,λq=>?_⟩ (λi B F=>?_) ?_ _
   ·have z:14<=11:=q.2;omega
   ·have z:14<=8:=q.2;omega
   ·have z:14<=8:=q.2;omega
   ·exfalso;obtain rfl:i=0:=by simp at B;omega
    have z:(7:Int)=6:=F;omega
   ·rw[T,nt,af,d2];have G:apS (apF e.g.ev) ⟨7,x.task,0,.zero,.zero,x.key,az⟩=(ib (apF e.g.ev).1 x.key,(apF e.g.ev).2):=rfl;rw[G];refine⟨h.app.1,λi=>?_⟩;rw[ga,ga,h.app.2 i]
  ·rw[oM a];exact n _ _ (d 13 zO zO zO)
  ·rw[oN a];exact n _ _ (d 0 zO zO zO)
end
section
set_option maxRecDepth 100000
def SJ(hi:∀x∈l,x.ok)(kd tk:Int)(A:Option Addr)(k n:Nat)(w:World)(hr:an w w.heap.size 34 A n (vts l))(hl:n<=80000):
  C 35 #[.slice A n k,I kd,I tk] w (J (I (ca l kd tk)) w):=by
 have L:=jU hi;rw[<-iL]at hr;have O:n=l.length:=by have:=kA L hr;simpa using this
 have m:=Z3 hi L O;clear hi L O
 go_in
 go_wp2;go_loopw [7,12] (λa i wr=>∃(j:Nat),j<=n/\i=I j/\a=I (ca (l.take j) kd tk)/\Hid (M w wr)) (λ_ i _=>n-(intOf i).toNat)
 case atStart=>exact⟨0,OK _,rfl,rfl,Z1 (Oy _ _)⟩
 case round=>
  obtain⟨j,hj,rfl,rfl,N⟩:=hrel;by_cases aa:j<n
  ·have z:j<(l.map aK).length:=by have:=m.o.2.2;simp;omega
   have f:j<l.length:=by have:=m.o.2.2;omega
   obtain⟨b,o,rfl,_,d⟩:=mw m.o.2.1 (hr.below N.o) z;have B:(l.map aK)[j]=aK l[j]:=zS;rw[B]at d;have p:=oG (m.o.1 _ (OR f));have D:ca (l.take (j+1)) kd tk=if l[j].kind=kd/\l[j].task=tk then(j:Int)else ca (l.take j) kd tk:=by
    rw[OG f,ko,PG,Qp zO]
   generalize l[j]=x at*;have c:=Z3 p.size p.all (dw d);have g:=Z1 D;have HR:=Z1 hr;have P:=eu (w:=wr) (t:=79) p.c0;have Q:=eu (w:=wr) (t:=79) p.c1;have T:(j:Int)<(n:Int):=zO;have r:(aK x).cs=x.arr:=rfl;have F:(aK x).kind=x.kind:=rfl;have G:(aK x).task=x.task:=rfl;rw[r]at c P Q;rw[F]at P;rw[G]at Q;have H:=ae N.o (.cells x.arr 79);have s:=Z1 H;generalize x.arr=h at*;generalize x.kind=R at*;generalize x.task=S at*;generalize ca (l.take j) kd tk=U at*;clear d p B hr D z f r F G H;by_cases v:R=kd
   ·subst v;by_cases y:S=tk
    ·subst y;rw[OB ⟨rfl,rfl⟩]at g
     go_wp2_with (first|(refine aG ba rfl (.tmp 15) rfl (Y b (o+j*34)) zF h c.o.1 c.o.2.2 ?_)|(refine aS ba rfl rfl ?_)|(refine aT ba rfl (.tmp 9) (.tmp 16) rfl _ rfl zF h _ zF _ c.o.1 ba.D6 c.o.2.1 ?_))
     go_roundw
     case rel=>exact⟨j+1,zO,by go_num,by rw[g.o],s⟩
     case measure=>simp[intOf];omega
    ·rw[Oz λq=>y q.2]at g;have q2:(S==tk)=false:=by simpa using y
     clear y
     go_wp2_with (first|(refine aG ba rfl (.tmp 15) rfl (Y b (o+j*34)) zF h c.o.1 c.o.2.2 ?_)|(refine aS ba rfl rfl ?_)|(refine aT ba rfl (.tmp 9) (.tmp 16) rfl _ rfl zF h _ zF _ c.o.1 ba.D6 c.o.2.1 ?_))
     go_roundw
     case rel=>exact⟨j+1,zO,by go_num,by rw[g.o],s⟩
     case measure=>simp[intOf];omega
   ·rw[Oz λq=>v q.1]at g;have q1:(R==kd)=false:=by simpa using v
    clear v
    go_wp2_with (first|(refine aG ba rfl (.tmp 15) rfl (Y b (o+j*34)) zF h c.o.1 c.o.2.2 ?_)|(refine aS ba rfl rfl ?_)|(refine aT ba rfl (.tmp 9) (.tmp 16) rfl _ rfl zF h _ zF _ c.o.1 ba.D6 c.o.2.1 ?_))
    go_roundw
    case rel=>exact⟨j+1,zO,by go_num,by rw[g.o],s⟩
    case measure=>simp[intOf];omega
  ·obtain rfl:n=j:=zO;have u:ca (l.take n) kd tk=ca l kd tk:=by rw[m.o.2.2,PO]
   have X:=Z1 u;clear u;generalize ca (l.take n) kd tk=U at*;go_wp2;go_ret;exact⟨by rw[<-X.o];rfl,N.o⟩
def SR(hi:∀x∈l,x.ok)(ha:(apF l).2=true)(A:Option Addr)(k n:Nat)(w:World)(hr:an w w.heap.size 34 A n (vts l))(hl:n<=80000):
  C 40 #[.slice A n k] w (J (.bool true) w):=by
 have ho:=jU hi;rw[<-iL]at hr;have hn:n=l.length:=by have:=kA ho hr;simpa using this
 have s:=Z4 hi ho hn ha;have ah:=@run_makeMap prog;have N:bD (w.alloc (.map #[] 0)) w.heap.size []:=aw.made w;have ai:=Z1 N;clear hi ho hn N ha
 go_in
 go_wp2;clear ah;go_loopw [9] (λi wr=>∃(j:Nat),j<=n/\i=I j/\Hid (bD wr w.heap.size (apF (l.take j)).1/\M w wr)) (λi _=>n-(intOf i).toNat)
 case atStart=>exact⟨0,OK _,rfl,Z1 ⟨ai.o,ae (Oy _ _) _⟩⟩
 case round=>
  obtain⟨j,hj,rfl,F⟩:=hrel;by_cases av:j<n
  ·have O:j<(l.map aK).length:=by have:=s.o.2.2.1;simp;omega
   have d:j<l.length:=by have:=s.o.2.2.1;omega
   obtain⟨b,o,rfl,_,f⟩:=mw s.o.2.1 (hr.below F.o.2) O;have P:(l.map aK)[j]=aK l[j]:=zS;rw[P]at f;have p:=s.o.1 _ (OR d);have r:=oG p;have Q:(apF (l.take (j+1))).1=if l[j].kind=4 then fu (apF (l.take j)).1 l[j].key else if l[j].kind=7 then ib (apF (l.take j)).1 l[j].key else(apF (l.take j)).1:=by
    rw[OG d,nt];unfold apS;split
    ·rfl
    split<;>rfl
   have R:=Td s.o.2.2.2 d;have S:(apF (l.take j)).1.length<=80000:=OJ (Tb _) (by rw[PG];omega);generalize l[j]=x at*;have c:=Z3 r.size r.all (dw f);have HR:=Z1 hr;have aj:=Blk.A8 wr 79 x.arr rfl;have T:=aw.up F.o.1 (zh wr (.cells x.arr 79));have U:=ae F.o.2 (.cells x.arr 79);have ck:=eu (w:=wr) (t:=79) r.c0;have ch:=eu (w:=wr) (t:=79) r.Q7;have cl:=eu (w:=wr) (t:=79) r.Q8;have aq:(j:Int)<(n:Int):=zO;have u:(aK x).cs=x.arr:=rfl;have X:(aK x).kind=x.kind:=rfl;have aa:(aK x).hi=x.key.hi:=rfl;have ab:(aK x).lo=x.key.lo:=rfl;rw[u]at c ck ch cl;rw[X]at ck;rw[aa]at ch;rw[ab]at cl;have v:=p.key;generalize (apF (l.take j)).1=ks at*;generalize x.arr=G at*;generalize x.kind=H at*;generalize x.key=al at*;obtain⟨k0,k1⟩:=al;simp only at ch cl;have a:=Z6 Q T U v S R;clear f r P hr Q O d u X aa ab U T aj p v R S;go_upto_region 5 with(first|(refine aG ba rfl (.tmp 11) rfl (Y b (o+j*34)) zF G c.o.1 c.o.2.2 ?_)|(refine aS ba rfl rfl ?_)|(refine aT ba rfl (.tmp 5) (.tmp 12) rfl _ rfl zF G _ zF _ c.o.1 ba.D6 c.o.2.1 ?_))
   have ax:w.heap.size<(wr.alloc (.cells G 79)).heap.size:=a.o.2.1.lt;generalize wr.alloc (.cells G 79)=W at*;by_cases y:H=4
   ·subst y;have ap:=bD.look a.o.2.1 a.o.2.2.2.1;rw[Oz (a.o.2.2.2.2.2 rfl)]at ap;have g:=Z1 a.o.1;rw[OB rfl]at g
    go_wp2_with (refine cZ rfl _ _ _ 161 3 rfl jO underlying161 ⟨k0,k1⟩ a.o.2.2.2.1 (I 1) rfl rfl rfl a.o.2.1 (by rw[nk];have:=a.o.2.2.2.2.1;omega) ?_;intro W6 h m z;have B:=Z2 h m;clear h m z)
    go_roundw
    case rel=>
     refine⟨j+1,zO,by go_num,Z1 ⟨?_,B.o.2.below a.o.2.2.1.size (λq e=>by have h3:q=w.heap.size:=e;omega) |> a.o.2.2.1.trans⟩⟩;have D:=B.o.1;rw[rD]at D;rw[g.o];exact D
    case measure=>simp[intOf];omega
   ·have q4:(H==4)=false:=by simpa using y
    by_cases L:H=7
    ·subst L;have g:=Z1 a.o.1;rw[Oz zP,OB rfl]at g;clear y
     go_wp2_with (refine mf rfl _ _ 161 3 rfl jO underlying161 ⟨k0,k1⟩ a.o.2.2.2.1 rfl rfl a.o.2.1 ?_;intro W6 h m z;have B:=Z2 h m;clear h m z)
     go_roundw
     case rel=>
      refine⟨j+1,zO,by go_num,Z1 ⟨?_,B.o.2.below a.o.2.2.1.size (λq e=>by have h3:q=w.heap.size:=e;omega) |> a.o.2.2.1.trans⟩⟩;have D:=B.o.1;rw[wY]at D;rw[g.o];exact D
     case measure=>simp[intOf];omega
    ·have q7:(H==7)=false:=by simpa using L
     have g:=Z1 a.o.1;rw[Oz y,Oz L]at g;clear y L;go_wp2;go_roundw
     case rel=>exact⟨j+1,zO,by go_num,Z1 ⟨by rw[g.o];exact a.o.2.1,a.o.2.2.1⟩⟩
     case measure=>simp[intOf];omega
  ·obtain rfl:j=n:=zO;go_wp2;go_ret;exact⟨rfl,F.o.2⟩
end
def DH(r:Nat->Bool)(pick:Int)(n:Nat):Int:=match fM r (pickN pick n) n n 0 with
 |some t=>(t:Int)
 |none=> -1
def cntN(o:Nat->Bool):Nat->Nat
 |0=>0
 |n+1=>cntN o n+if o n=true then 0 else 1
def BJ(o:Nat->Bool):∀n,cntN o n<=n
 |0=>OA _
 |n+1=>by have:=BJ o n;unfold cntN;split<;>omega
def ifC(p:Nat):Value:=.iface 117 (Z p 0)
def ifW(p:Nat):Value:=.iface 119 (Z p 0)
def BK(w:World):(method 176 117 (.pointer (some a)) "Over").run prog w=.ok (257,.pointer (some a)) w:=zR
def KD(w:World):(method 176 117 (.pointer (some a)) "Ready").run prog w=.ok (258,.pointer (some a)) w:=zR
def ML(w:World):(method 176 117 (.pointer (some a)) "Step").run prog w=.ok (259,.pointer (some a)) w:=zR
def MM(w:World):(method 176 119 (.pointer (some a)) "Over").run prog w=.ok (337,.pointer (some a)) w:=zR
def KE(w:World):(method 176 119 (.pointer (some a)) "Ready").run prog w=.ok (338,.pointer (some a)) w:=zR
def MN(w:World):(method 176 119 (.pointer (some a)) "Step").run prog w=.ok (339,.pointer (some a)) w:=zR
def NH(hc:c.ok)(T:Nat->Tg)(wp p:Nat)(g:Gs)(x:Ci)(hg:GAt w c T wp g)(h:cY w c T wp p x)(hx:x.ok c):C 100 #[ifC p] w (J (.bool (x.ready g)) w):=by
 have j:=Z1 (oT w c T wp p x h hx);have k:=Z1 (λU (d:M w U)=>qU U c hc T wp p g x (hg.up d) (h.up d) hx);have l:Hid (x.over=true->x.ready g=false):=Z1 λe=>by unfold Ci.ready;rw[e];rfl
 have n:=BK;have q:=KD;generalize x.over=m at*;generalize x.ready g=r at*;clear hg h hx;unfold ifC
 go_in
 go_wp2_with fail;refine zm j.o λs a=>?_
 cases m with
 |true=>
  go_wp2;go_ret;exact⟨cN (l.o zS).symm,a⟩
 |false=>
  have f:=Z1 a;clear a;go_wp2_with fail;refine zm (k.o _ f.o) λt b=>?_;have i:=Z1 (af f.o b);clear b;go_wp2;go_ret;exact⟨cN zS,i.o⟩
def NI(hc:c.ok)(T:Nat->Tg)(wp p:Nat)(g:Gs)(x:Wi)(hg:GAt w c T wp g)(h:aO w c T wp p x)(hx:x.ok c):C 100 #[ifW p] w (J (.bool (x.ready c g)) w):=by
 have j:=Z1 (tf w c T wp p x h);have k:=Z1 (λU (d:M w U)=>ch U c hc T wp p g x (hg.up d) (h.up d) hx);have l:Hid (x.over=true->x.ready c g=false):=Z1 λe=>by unfold Wi.ready;rw[e];rfl
 have n:=MM;have q:=KE;generalize x.over=m at*;generalize x.ready c g=r at*;clear hg h hx;unfold ifW
 go_in
 go_wp2_with fail;refine zm j.o λs a=>?_
 cases m with
 |true=>
  go_wp2;go_ret;exact⟨cN (l.o zS).symm,a⟩
 |false=>
  have f:=Z1 a;clear a;go_wp2_with fail;refine zm (k.o _ f.o) λt b=>?_;have i:=Z1 (af f.o b);clear b;go_wp2;go_ret;exact⟨cN zS,i.o⟩
def AQ{pick:Int}{n:Nat}(hn:0<n):ed pick n=(pickN pick n:Int):=by
 unfold ed pickN;rw[Oz zO];have:=RY pick (show(n:Int)≠0 by omega);omega
def vJ(vs:List Value)(pick:Int)(A:Option Addr)(k n:Nat)(w:World)(hr:an w w.heap.size 1 A n vs)(hn0:0<n)(hn:n<=1000)(hp:aq pick)
  (hcan:∀j (hj:j<vs.length) U,M w U->C 100 #[vs[j]] U (J (.bool (r j)) U)):
  C 51 #[.slice A n k,I pick] w (J (I (DH r pick n)) w):=by
 have y:n=vs.length:=by have:=hr.len;simpa using this
 have P:=Z1 hcan;have Q:=Z1 y;have z:=Mx (p:=pick) hn0;have h:=AQ (pick:=pick) hn0;obtain⟨a,u⟩:∃a,a=pickN pick n:=⟨_,rfl⟩;rw[<-u]at z h;obtain⟨b,c⟩:∃b,b=DH r pick n:=⟨_,rfl⟩;have f:Hid (b=match fM r a n (n-0) 0 with|some t=>(t:Int)|none=> -1):=Z1 (by rw[c,u];rfl);rw[<-c];have B:=Z1 h;clear y hcan u c h
 go_in
 go_wp2_with fail;refine(pS pick n w hp ⟨zO,zO⟩).mono ?_;rintro e1 w1 ⟨rfl,rfl⟩;rw[B.o];go_wp2_with fail;go_loopw [14] (λi wr=>∃(q:Nat),q<=n/\i=I q/\Hid (b=match fM r a n (n-q) q with|some t=>(t:Int)|none=> -1)/\M w wr) (λi _=>n-(intOf i).toNat)
 case atStart=>exact⟨0,zO,rfl,f,Oy _ _⟩
 case round=>
  clear f;obtain⟨q,hq,rfl,f,l⟩:=hrel;by_cases S:q<n
  ·obtain⟨j,hj⟩:∃j,j=(a+q)%n:=⟨_,rfl⟩;have D:j<n:=by rw[hj];exact Rj _ zO
   have F:((a:Int)+(q:Int))%(n:Int)=(j:Int):=by rw[hj,Int.natCast_emod,Int.natCast_add]
   have m:j<vs.length:=by have:=Q.o;omega
   obtain⟨ad,v,rfl,_,x,hc⟩:=(hr.below l).at_ D;have G:v=vs[j]:=by simp[m]at x;exact x.symm
   subst G;have d:fM r a n (n-q) q=if r j=true then some j else fM r a n (n-(q+1)) (q+1):=by
    rw[show n-q=(n-(q+1))+1 from by omega,fM,hj]
   have H:=Z1 (P.o j m);generalize vs[j]=v at*;have T:((n:Int)==0)=false:=zT;have X:(a:Int)<(n:Int):=zO;have aa:(0:Int)<=(a:Int)+(q:Int):=zO;have R:(j:Int)<(n:Int):=zO;have L:=Z1 d;have N:=Z1 F;clear d hj x;go_wp2_with fail;refine zm (H.o _ l) λw2 O=>?_;have s:=af l O
   cases hrt:r j with
   |true=>
    have g:Hid ((j:Int)=b):=by show _=_;rw[f.o,L.o,hrt];rfl
    clear hrt;go_wp2;go_ret;exact⟨aC (by first|exact g.o|(rw[N.o];exact g.o)),s⟩
   |false=>
    have g:Hid (b=match fM r a n (n-(q+1)) (q+1)with|some t=>(t:Int)|none=> -1):=by show _=_;rw[f.o,L.o,hrt];rfl
    clear hrt;go_wp2;go_roundw
    case rel=>exact⟨q+1,zO,by go_num,g,s⟩
    case measure=>simp[intOf];omega
  ·have g:Hid (b= -1):=by
    show _=_;rw[f.o,show n-q=0 by omega];rfl
   go_wp2;go_ret;exact⟨aC g.o.symm,l⟩
def GE(o:Nat->Bool)(ps:List Nat)(A:Option Addr)(k n:Nat)(w:World)(hr:an w w.heap.size 1 A n (ps.map ifC))(hn:n<=1000)
  (hov:∀j (hj:j<ps.length) U,M w U->C 257 #[Z (ps[j]) 0] U (J (.bool (o j)) U)):
  C 101 #[.slice A n k] w (J (I (cntN o n:Int)) w):=by
 have g:n=ps.length:=by have:=hr.len;simpa using this
 have x:=Z1 hov;have y:=Z1 g;have G:=BK;clear g hov
 go_in
 go_wp2;go_loopw [3,8] (λs i wr=>∃(q:Nat),q<=n/\i=I q/\s=I (cntN o q:Int)/\M w wr) (λ_ i _=>n-(intOf i).toNat)
 case atStart=>exact⟨0,zO,rfl,rfl,Oy _ _⟩
 case round=>
  obtain⟨q,H,rfl,rfl,a⟩:=hrel;by_cases h:q<n
  ·have b:q<ps.length:=by have:=y.o;omega
   obtain⟨z,v,rfl,_,d,l⟩:=(hr.below a).at_ h;have m:v=ifC ps[q]:=by simp[b]at d;exact d.symm
   subst m;have p:=Z1 (x.o q b);have r:cntN o (q+1)=cntN o q+if o q=true then 0 else 1:=rfl
   have D:=BJ o q;generalize ps[q]=B at*;generalize cntN o q=S at*;have F:wr.cell? (z.add q)=some (.iface 117 (Z B 0)):=l;have t:=Z1 r;clear r d l;go_wp2_with fail;refine zm (p.o _ a) λL u=>?_;have c:=af a u
   cases hot:o q with
   |true=>
    have f:Hid (S=cntN o (q+1)):=Z1 (by rw[t.o,hot];rfl);clear hot;go_wp2;go_roundw
    case rel=>exact⟨q+1,zO,by go_num,by rw[<-f.o],c⟩
    case measure=>simp[intOf];omega
   |false=>
    have f:Hid (((S:Int)+1)=((cntN o (q+1):Nat):Int)):=Z1 (by rw[t.o,hot];rfl);clear hot;go_wp2;go_roundw
    case rel=>exact⟨q+1,zO,by go_num,by rw[<-f.o],c⟩
    case measure=>simp[intOf];omega
  ·obtain rfl:q=n:=zO;go_wp2;go_ret;exact⟨rfl,a⟩
def KF:∃z,cE prog 40 73 z 11 96:=by
 have h:(prog.info? 73).map (λi=>(i.zero.isSome,i.size,i.bytes))=some (true,11,96):=zR;have a:=dU.zero
 cases hi:prog.info? 73 with
 |none=>simp[hi]at h
 |some i=>
  cases hzz:i.zero with
  |none=>simp[hi,hzz]at h
  |some z=>
   simp[hi,hzz]at h a;exact⟨z,underlying40,by simp[hi,hzz,h],a⟩
def MO(l:List Cl):∀u∈cls l,u.oneCell'=true:=λu a=>by
 obtain⟨x,_,b⟩:=QU.1 a;have:=mF x;rw[Re]at this;exact this u (Array.mem_toList_iff.1 b)
def GF(hc:c.ok)(T:Nat->Tg)(wp:Nat)(g:Gs)(hg:GAt w c T wp g)(t:Nat)(ht:t<32)(prog:List Cl)(A:Option Addr)(k n:Nat)(hr:an w w.heap.size 11 A n (cls prog))(hn:n<=1000):
  Calls Tryz.prog 49 #[Z wp 0,I t,.slice A n k] w λe w'=>∃p,e=.returned (Z p 0)/\cY w' c (ext T w.heap.size .free) wp p (.new prog t)/\w.heap.size<=p/\M w w':=by
 have H:=Cg.I0 hc;have y:=Z1 (oS w c hc T wp g hg);have s:=AY hr;obtain⟨z,r⟩:=KF;obtain⟨B,f,h,i,j⟩:=info_parts r.info;have a:=Z5 r f h i j;have L:((c.st:Int)+2==0)=false:=zT;have N:decide ((32:Int)<=(t:Int))=false:=zT;have O:decide ((t:Int)<0)=false:=zS;have D:Hid (w.ownsRow w.heap.size 73 11 (.slice none 0 0) 0 []):=Z1 (Pn w _ _ _);have F:=Z1 s;clear hg r f h i j s
 go_in
 go_wp2_with fail;refine y.o.mono ?_;rintro P Q ⟨rfl,rfl⟩
 go_wp2_with (at_builtin;go_must (refine bP w rfl (.const (.slice none 0 0)) (.tmp 19) 40 rfl w.heap.size 73 B z 11 96 underlying40 a.o.2.1 a.o.2.2.1 a.o.2.2.2.1 a.o.2.2.2.2 a.o.1.cells zP (.slice none 0 0) 0 [] rfl D.o w.heap.size A n k (cls prog) rfl hr (MO prog) zU zO (OA _) ?_);intro R w' l u _;obtain⟨v,x,rfl,_,_⟩:=ak l)
 have d:=(Oy w.heap.size w).grown u (OA _) λq G=>by cases G
 go_ret;have m:w'.ownsRow w.heap.size 73 11 (.slice v n x) n (cls prog):=by simpa using l
 refine⟨w'.heap.size,rfl,⟨.slice v n x,.slice none 0 0,Blk.A8 w' _ _ rfl,cC T _ d.size,?_,λb e=>cC T _ (m.lt b e).1,.inl ⟨rfl,rfl⟩,λb e=>by cases e⟩,d.size,ae d _⟩;show World.ownsRow _ 0 _ 11 _ prog.length (cls prog);rw[<-F.o];exact aP (m.alloc _) (OK _)
def GG(hc:c.ok)(T:Nat->Tg)(wp:Nat)(g:Gs)(hg:GAt w c T wp g)(t:Nat)(ht:t<32):
  C 50 #[Z wp 0,I t] w λe w'=>∃p,e=.returned (Z p 0)/\aO w' c (ext T w.heap.size .free) wp p (.new t)/\w.heap.size<=p/\M w w':=by
 have b:=Cg.I0 hc;have a:=Z1 (oS w c hc T wp g hg);have d:((c.st:Int)+2==0)=false:=zT;have f:decide ((32:Int)<=(t:Int))=false:=zT;have h:decide ((t:Int)<0)=false:=zS;clear hg
 go_in
 go_wp2_with fail;refine a.o.mono ?_;rintro i j ⟨rfl,rfl⟩;go_wp2;go_ret;exact⟨w.heap.size,rfl,⟨.pointer none,Blk.A8 w _ _ rfl,cC T _ (OA _),.inl ⟨rfl,by show(0:Nat)≠5;decide,by show(0:Nat)≠6;decide⟩⟩,OA _,ae (Oy _ w) _⟩
def jp(wp:Nat)(vt vw:Value)(nc used:Nat):Array Value:=#[Z wp 0,vt,vw,I (nc:Int),I (used:Int)]
structure ew(w:World)(c:Cg)(T:Nat->Tg)(B wp ep:Nat)(e:En)(pcs pws:List Nat)(A:Option Addr)(k:Nat)(vw:Value)(used:Nat):Prop where
 B0:Blk w ep 116 (jp wp (.slice A e.count k) vw e.cs.length used)
 te:T ep=.free
 out:∀b,b<B->T b=.eng
 size:B<=w.heap.size
 g:GAt w c T wp e.g
 row:w.ownsRow 0 123 1 (.slice A e.count k) e.count (pcs.map ifC++pws.map ifW)
 tr:∀b,(Value.slice A e.count k).ownBlock=some b->T b=.free
 lc:pcs.length=e.cs.length
 lw:pws.length=e.ws.length
 D7:(pcs++pws).Nodup
 cs:∀(i:Nat) (x:Ci) p,e.cs[i]?=some x->pcs[i]?=some p->cY w c T wp p x
 ws:∀(j:Nat) (x:Wi) p,e.ws[j]?=some x->pws[j]?=some p->aO w c T wp p x
def ew.o:=@ew.out
def kY(w:World)(c:Cg)(B ep:Nat)(e:En):Prop:=∃T wp pcs pws A k vw,ew w c T B wp ep e pcs pws A k vw e.used
section
variable {w w':World} {c:Cg} {T T':Nat→Tg} {B wp ep:Nat} {e:En} {pcs pws:List Nat} {A:Option Addr} {k:Nat} {vw:Value} {used t j p:Nat} {g':Gs}
def cI.K5{vp vo:Value}(h:cI w c T wp p x vp vo)(hK:ag L w w')(h1:¬L p)(h2:∀b,vp.ownBlock=some b->¬L b)(h3:∀b,vo.ownBlock=some b->¬L b)(hT:∀b,b<w.heap.size->T b=.free->T' b=.free):cI w' c T' wp p x vp vo:=
 ⟨hK.B0 h.B0 h1,hT _ h.B0.lt h.tp,hK.C8 h.prog h2,λb e=>hT _ (h.prog.lt b e).2 (h.I5 b e),h.ops.imp id λa=>hK.C8 a h3,λb e=>by
  rcases h.ops with a|a
  ·rw[a.1]at e;cases e
  ·exact hT _ (a.lt b e).2 (h.G4 b e)⟩
def eM.K5{x:Wi}{vs:Value}(h:eM w c T wp p x vs)(hK:ag L w w')(h1:¬L p)(hL:∀b,T b=.fz->¬L b)(hT:∀b,b<w.heap.size->T b=.free\/T b=.fz->T' b=T b):eM w' c T' wp p x vs:=
 ⟨hK.B0 h.B0 h1,(hT _ h.B0.lt (.inl h.tp)).trans h.tp,h.D9.imp id λ⟨a,e,d⟩=>⟨a,e,((d.more (G:=λb=>T b=.fz/\b<w.heap.size) λb f e=>⟨e,f⟩).B7 hK λb e=>hL b e.1).more λb _ e=>(hT b e.2 (.inr e.1)).trans e.1⟩⟩
def cY.B0(h:cY w c T wp p x):∃xs,Blk w p 201 xs:=by
 obtain⟨a,b,h⟩:=h;exact⟨_,h.B0⟩
def aO.B0{x:Wi}(h:aO w c T wp p x):∃xs,Blk w p 203 xs:=by
 obtain⟨a,h⟩:=h;exact⟨_,h.B0⟩
def cY.D1{x:Ci}{q:Nat}{t:TypeId}{xs:Array Value}(h:cY w c T wp p x)(hq:Blk w q t xs)(hqt:t=201\/t=203)(hne:p≠q)(hK:ag (λb=>eN (T b)\/b=q) w w')(hT:aW T T' w.heap.size):cY w' c T' wp p x:=by
 obtain⟨l,m,h⟩:=h;have d:∀b,T b=.free->b≠q->¬(eN (T b)\/b=q):=λb n g a=>by
  rcases a with a|a
  ·rw[n]at a;exact a
  ·exact g a
 have i:t≠73/\t≠250:=by rcases hqt with e|e<;>rw[e]<;>decide
 refine⟨l,m,h.K5 hK (d _ h.tp hne) (λb e=>d b (h.I5 b e) λg=>aB h.prog hq i.1.symm (g▸e)) (λb e=>d b (h.G4 b e) λg=>?_) λb o e=>(hT.keepT o (by rw[e];intro k f;cases f)).trans e⟩
 rcases h.ops with j|j
 ·rw[j.1]at e;cases e
 ·exact aB j hq i.2.symm (g▸e)
def aO.D1{x:Wi}(h:aO w c T wp p x)(hq:T q=.free)(hne:p≠q)(hK:ag (λb=>eN (T b)\/b=q) w w')(hT:aW T T' w.heap.size):aO w' c T' wp p x:=by
 obtain⟨g,h⟩:=h;refine⟨g,h.K5 hK (λa=>?_) (λb d a=>?_) λb i e=>hT.keepT i (by rcases e with e|e<;>rw[e]<;>intro k f<;>cases f)⟩
 ·rcases a with a|a
  ·rw[h.tp]at a;exact a
  ·exact hne a
 ·rcases a with a|a
  ·rw[d]at a;exact a
  ·rw[a,hq]at d;cases d
def ew.up(h:ew w c T B wp ep e pcs pws A k vw used)(hb:M w w'):ew w' c T B wp ep e pcs pws A k vw used:=
 ⟨h.B0.later hb,h.te,h.o,OJ h.size hb.size,h.g.up hb,aN h.row hb,h.tr,h.lc,h.lw,h.D7,λi x p a b=>(h.cs i x p a b).up hb,λj x p a b=>(h.ws j x p a b).up hb⟩
def KG{l m:List Nat}{i j a b:Nat}(h:(l++m).Nodup)(h1:l[i]?=some a)(h2:l[j]?=some b)(hne:i≠j):a≠b:=λe=>by
 rw[Qa]at h;subst e;have c:=cz h1;exact hne ((List.getElem?_inj c h.1).1 (h1.trans h2.symm))
def KH{l m:List Nat}{i j a b:Nat}(h:(l++m).Nodup)(h1:m[i]?=some a)(h2:m[j]?=some b)(hne:i≠j):a≠b:=λe=>by
 rw[Qa]at h;subst e;have c:=cz h1;exact hne ((List.getElem?_inj c h.2.1).1 (h1.trans h2.symm))
def yr{l m:List Nat}{i j a b:Nat}(h:(l++m).Nodup)(h1:l[i]?=some a)(h2:m[j]?=some b):a≠b:=by
 rw[Qa]at h;exact h.2.2 a (Qx h1) b (Qx h2)
def ew.core{tt:TypeId}{xs:Array Value}(h:ew w c T B wp ep e pcs pws A k vw used)(hq:Blk w q tt xs)(htt:tt=201\/tt=203)(hqf:T q=.free)(hK:ag (λb=>eN (T b)\/b=q) w w')(hT:aW T T' w.heap.size):
  Blk w' ep 116 (jp wp (.slice A e.count k) vw e.cs.length used)/\T' ep=.free/\(∀b,b<B->T' b=.eng)/\B<=w'.heap.size/\w'.ownsRow 0 123 1 (.slice A e.count k) e.count (pcs.map ifC++pws.map ifW)/\(∀b,(Value.slice A e.count k).ownBlock=some b->T' b=.free)/\Below B w w':=by
 have g:∀b,T b=.free->b≠q->¬(eN (T b)\/b=q):=λb l d a=>by
  rcases a with a|a
  ·rw[l]at a;exact a
  ·exact d a
 have j:tt≠116/\tt≠123:=by rcases htt with e|e<;>rw[e]<;>decide
 have m:B<=q:=Pg λe=>by
  have:=h.o q zO;rw[hqf]at this
  cases this
 refine⟨hK.B0 h.B0 (g _ h.te (fq h.B0 hq j.1.symm)),(hT.keepT h.B0.lt (by rw[h.te];intro k f;cases f)).trans h.te,λb i=>(hT.keepT (OV i h.size) (by rw[h.o b i];intro k f;cases f)).trans (h.o b i),OJ h.size hK.size,hK.C8 h.row λb e=>g b (h.tr b e) λd=>aB h.row hq j.2.symm (d▸e),λb e=>(hT.keepT (h.row.lt b e).2 (by rw[h.tr b e];intro k f;cases f)).trans (h.tr b e),(hK.C3 λb e=>?_).L1 h.size⟩
 rcases e with e|e
 ·refine Pg λd=>?_;rw[h.o b zO]at e;exact e
 ·omega
def ew.K3{x':Ci}(h:ew w c T B wp ep e pcs pws A k vw used)(hx:e.cs[t]?=some x)(hp:pcs[t]?=some p)(hN:bp w w' c T wp g' p x'):
  ∃T',ew w' c T' B wp ep {e with g:=g',cs:=e.cs.set t x'} pcs pws A k vw used/\Below B w w':=by
 obtain⟨T',l,s,u,m⟩:=hN;have d:=h.cs t x p hx hp;obtain⟨R,o⟩:=d.B0;obtain⟨P,Q,f⟩:=d;obtain⟨v,z,D,F,G,H,L⟩:=h.core o (.inl rfl) f.tp m l;have b:({e with g:=g',cs:=e.cs.set t x'}:En).count=e.count:=by unfold En.count;simp
 have r:=cz hx;refine⟨T',⟨?_,z,D,F,s,?_,?_,by simp[h.lc],h.lw,h.D7,λi y q n a=>?_,λj y q n a=>?_⟩,L⟩
 ·rw[b];simp only[PI];exact v
 ·rw[b];exact G
 ·rw[b];exact H
 ·rcases dp n r with⟨rfl,rfl⟩|⟨N,O⟩
  ·rw[hp]at a;injection a with a;exact a▸u
  ·exact(h.cs i y q O a).D1 o (.inl rfl) (KG h.D7 a hp N) m l
 ·exact(h.ws j y q n a).D1 f.tp (yr h.D7 hp a).symm m l
def ew.M5{x:Wi}(h:ew w c T B wp ep e pcs pws A k vw used)(hx:e.ws[j]?=some x)(hp:pws[j]?=some p)(hN:aV w w' c T wp g' p x'):
  ∃T',ew w' c T' B wp ep {e with g:=g',ws:=e.ws.set j x'} pcs pws A k vw used/\Below B w w':=by
 obtain⟨T',l,s,t,m⟩:=hN;have d:=h.ws j x p hx hp;obtain⟨P,o⟩:=d.B0;obtain⟨O,f⟩:=d;obtain⟨u,v,z,D,F,G,H⟩:=h.core o (.inr rfl) f.tp m l;have b:({e with g:=g',ws:=e.ws.set j x'}:En).count=e.count:=by unfold En.count;simp
 have r:=cz hx;refine⟨T',⟨?_,v,z,D,s,?_,?_,h.lc,by simp[h.lw],h.D7,λi y q n a=>?_,λi y q n a=>?_⟩,H⟩
 ·rw[b];exact u
 ·rw[b];exact F
 ·rw[b];exact G
 ·exact(h.cs i y q n a).D1 o (.inr rfl) (yr h.D7 a hp) m l
 ·rcases dp n r with⟨rfl,rfl⟩|⟨L,N⟩
  ·rw[hp]at a;injection a with a;exact a▸t
  ·exact(h.ws i y q N a).D1 f.tp (KH h.D7 a hp L) m l
def ew.own(h:ew w c T B wp ep e pcs pws A k vw used)(hO:aI ep w w'){used':Nat}(hb:Blk w' ep 116 (jp wp (.slice A e.count k) vw e.cs.length used')):ew w' c T B wp ep e pcs pws A k vw used'/\Below B w w':=by
 have hK:=hO.B7;have t:B<=ep:=Pg λq=>by
  have:=h.o ep zO;rw[h.te]at this
  cases this
 refine⟨⟨hb,h.te,h.o,OJ h.size hK.size,h.g.only h.te hO,hK.C8 h.row λb e f=>aB h.row h.B0 zP (f▸e),h.tr,h.lc,h.lw,h.D7,λi x p d l=>?_,λj x p d l=>?_⟩,(hK.C3 λb e=>zO).L1 h.size⟩
 ·obtain⟨n,r,a⟩:=h.cs i x p d l;refine⟨n,r,a.K5 hK (fq a.B0 h.B0 zP) (λb e f=>aB a.prog h.B0 zP (f▸e)) (λb e f=>?_) λb _ e=>e⟩
  rcases a.ops with m|m
  ·rw[m.1]at e;cases e
  ·exact aB m h.B0 zP (f▸e)
 ·obtain⟨s,a⟩:=h.ws j x p d l;exact⟨s,a.K5 hK (fq a.B0 h.B0 zP) (λb e f=>by rw[f,h.te]at e;cases e) λb _ _=>rfl⟩
end
def DI{c:Cg}{ps:List (List Cl)}{e:En}{j:Nat}(hp:ge c ps)(hi:dI c ps e)(hu:e.used<=30000){x:Wi}(hx:e.ws[j]?=some x)(hr:x.ready c e.g=true)(w:World)(T:Nat->Tg)(wp p:Nat)(hg:GAt w c T wp e.g)(h:aO w c T wp p x):
  C 339 #[Z p 0] w λr w'=>r=.returned (.tuple #[])/\aV w w' c T wp (aM c e.g x).1 p (aM c e.g x).2:=by
 have a:=hi.wok hp hu hx;have f:=hi.L.Q1 j x hx;have hd:=f.B6;have N:=Wi.G1 hr;have o:=hi.L.lk;have l:=hi.E5 hp hu;have S:=hi.evs hu;have b:∀n:Nat,n<c.st+2->(e.g.lock n).line.length<=900:=λn y=>OJ (o.E5 y) zP;have d:c.st+1<c.st+2:=zO;have i:homeN c x.key<c.st+2:=by have:=cJ hp.cfg x.key;omega
 have B:x.home c=((homeN c x.key:Nat):Int):=cy hp.cfg _;have G:=f.M4 o hr;have s:∀n:Nat,n<c.st+2->cS c e.g x n≠none->e.g.held n x.task≠0:=λn y O=>f.has o hr y (by rw[f.cl n y];exact O);have v:=hi.Q.wb j x hx;have u:(x.B6=1\/x.B6=2\/x.B6=11\/x.B6=12\/x.B6=14)->cS c e.g x (c.st+1)≠none:=λq=>by
  unfold cS;by_cases H:x.B6=1
  ·rw[OB H,OB ⟨rfl,λq=>G q.2⟩];simp
  ·rw[Oz H,OB zO,OB rfl];simp
 have z:x.B6=0\/x.B6=1\/x.B6=2\/x.B6=3\/x.B6=4\/x.B6=5\/x.B6=6\/x.B6=7\/x.B6=8\/x.B6=9\/x.B6=10\/x.B6=11\/x.B6=12\/x.B6=14:=zO
 rcases z with k|k|k|k|k|k|k|k|k|k|k|k|k|k
 ·exact Ku w c hp.cfg T wp p e.g x hg h a hr k (b _ d)
 ·cases hq:e.g.q.line with
  |nil=>
   by_cases D:e.g.q.over=true
   ·exact Gy w c hp.cfg T wp p e.g x hg h a hr k l hq D
   ·have F:∀m:Nat,m<c.st+2->clG e.g x.task m=if m=c.st+1 then some true else none:=λm P=>by
     rw[f.cl m P];unfold cS;rw[OB k];by_cases A:m=c.st+1
     ·rw[OB A,OB ⟨A,λq=>G q.2⟩]
     ·rw[Oz A,Oz λq=>A q.1]
    have U:=hi.L.I4 j x hx;have X:=cz hx;have R:=(o.sleep (t:=x.task) (by unfold En.count;omega) (f.has o hr d (by rw[F _ d];simp)) F G).1;exact Gz w c hp.cfg T wp p e.g x hg h a hr k l hq (by simpa using D) R
  |cons kk r=>exact Gx w c hp.cfg T wp p e.g x hg h a hr k l kk r hq (hi.Q.q.ld kk (by rw[hq];simp)) zO
 ·exact Kv w c hp.cfg T wp p e.g x hg h a hr k (s _ d (u zO)) (b _ d)
 ·exact Kw w c hp.cfg T wp p e.g x hg h a hr k (b _ i)
 ·exact KC w c hp.cfg T wp p e.g x hg h a hr k (hi.Q.bk _ (v ⟨zO,zO⟩)) zO
 ·exact Kx w c hp.cfg T wp p e.g x hg h a hr k (s _ i (by unfold cS;rw[Oz zO,Oz zO,OB zO,OB B.symm];simp)) (b _ i)
 ·exact Ky w c hp.cfg T wp p e.g x hg h a hr k
 ·exact Kz w c hp.cfg T wp p e.g x hg h a hr k (b _ i)
 ·exact KA w c hp.cfg T wp p e.g x hg h a hr k (hi.Q.bk _ (v ⟨zO,zO⟩)) zO
 ·exact KB w c hp.cfg T wp p e.g x hg h a hr k (s _ i (by unfold cS;rw[Oz zO,Oz zO,Oz zO,OB zO,OB B.symm];simp)) (b _ i)
 ·exact GA w c hp.cfg T wp p e.g x hg h a hr k (b _ d)
 ·exact GB w c hp.cfg T wp p e.g x hg h a hr k l (v ⟨zO,zO⟩) zO
 ·exact GC w c hp.cfg T wp p e.g x hg h a hr k (s _ d (u zO)) (b _ d)
 ·exact GD w c hp.cfg T wp p e.g x hg h a hr k (s _ d (u zO)) (b _ d)
def gQ(c:Cg)(e:En)(pick:Int):Int:=match e.next c pick with
 |some t=>(t:Int)
 |none=> -1
def ja(c:Cg)(e:En)(pick:Int):En:=match e.next c pick with
 |some t=>e.go c t
 |none=>e
def vK:DH (e.ready c) pick e.count=gQ c e pick:=rfl
def ew.can{w:World}{c:Cg}{ep:Nat}{e:En}{ps:List (List Cl)}(hp:ge c ps)(hi:dI c ps e)(hu:e.used<=30000)(h:ew w c T B wp ep e pcs pws A k vw used)(j:Nat)(hj:j<(pcs.map ifC++pws.map ifW).length)(U:World)(hU:M w U):
  C 100 #[(pcs.map ifC++pws.map ifW)[j]] U λr w'=>r=.returned (.bool (e.ready c j))/\M U w':=by
 have b:=h.up hU;by_cases d:j<pcs.length
 ·have i:j<e.cs.length:=by rw[<-h.lc];exact d
  have a:=OL i;have f:(pcs.map ifC++pws.map ifW)[j]=ifC pcs[j]:=by
   rw[PK (by simpa using d),List.getElem_map]
  rw[f,Mv a];exact NH U c hp.cfg T wp _ e.g _ b.g (b.cs j _ _ a (OL d)) (hi.S4 hp a)
 ·have l:j-pcs.length<pws.length:=by simp at hj;omega
  have m:j-pcs.length<e.ws.length:=by rw[<-h.lw];exact l
  have a:=OL m;have f:(pcs.map ifC++pws.map ifW)[j]=ifW pws[j-pcs.length]:=by
   rw[Qi (by simpa using d),List.getElem_map];simp
  have n:j=e.cs.length+(j-pcs.length):=by have:=h.lc;omega
  have o:=Mw (c:=c) a;rw[<-n]at o;rw[f,o];exact NI U c hp.cfg T wp _ e.g _ b.g (b.ws _ _ _ a (OL l)) (hi.wok hp hu a)
def BL{w:World}{c:Cg}{ep:Nat}{e:En}{u2:Nat}(h:ew w c T B wp ep e pcs pws A k vw used):ew w c T B wp ep {e with used:=u2} pcs pws A k vw used:=⟨h.B0,h.te,h.o,h.size,h.g,h.row,h.tr,h.lc,h.lw,h.D7,h.cs,h.ws⟩
def BM{w:World}{n j:Nat}{t:TypeId}{xs:List Value}(h:w.ownsRow B t 1 (.slice A n k) n xs)(hj:j<n):∃ad,A=some ad/\∀U,M w U->∀v,xs[j]?=some v->U.cell? (ad.add j)=some v:=by
 obtain⟨ad,v,c,_,_,_⟩:=(an.C4 h).at_ hj;refine⟨ad,c,λU e v f=>?_⟩;obtain⟨g,i,b,_,a,d⟩:=(an.C4 (aN h e)).at_ hj;rw[c]at b;injection b with b;subst b;rw[f]at a;injection a with a;rw[a];exact d
def yu{α:Type}{l:List α}{i:Nat}(h:i<l.length):∃a,l[i]?=some a:=⟨_,OL h⟩
def yw(wp:Nat)(vt vw:Value)(nc used n:Nat):(jp wp vt vw nc used).setIfInBounds 4 (I (n:Int))=jp wp vt vw nc n:=rfl
def GH(B ep:Nat)(e:En)(ps:List (List Cl))(hp:ge c ps)(hi:dI c ps e)(hu:e.used<=30000)(hn0:0<e.count)(h:kY w c B ep e)(pick:Int)(hpk:aq pick):
  C 11 #[Z ep 0,I pick] w λr w'=>r=.returned (I (gQ c e pick))/\kY w' c B ep (ja c e pick)/\Below B w w':=by
 obtain⟨T,R,s,u,A,k,vw,h⟩:=h;have au:=hi.L.lk.n32;have v:=Z1 (λU (m:M w U)=>vJ (e.ready c) _ pick A k e.count U (an.C4 (h.up m).row) hn0 zO hpk (ew.can hp hi hu (h.up m)));rw[vK]at v;have S:w.cell? (Y ep 1)=some (.slice A e.count k):=h.B0.cell 1;have H:=Z1 h;have i:gQ c e pick=match e.next c pick with|some t=>(t:Int)|none=> -1:=rfl
 have l:ja c e pick=match e.next c pick with|some t=>e.go c t|none=>e:=rfl
 have hw:IntKind.i64.wrap ((e.used:Int)+1)=((e.used+1:Nat):Int):=by rw[OX];omega
 cases hnx:e.next c pick with
 |none=>
  rw[hnx]at i l;simp only at i l;rw[i]at v ⊢;rw[l];clear h i l hnx hi hp;generalize e.count=n at*
  go_in
  go_wp2_with fail;refine zm (v.o _ (Oy _ _)) λQ a=>?_;have q:=Z1 a;clear a S;go_wp2;go_ret;exact⟨rfl,⟨T,R,s,u,A,k,vw,H.o.up q.o⟩,q.o.mono H.o.size⟩
 |some t=>
  obtain⟨hr,y⟩:=vn hnx;rw[hnx]at i l;simp only at i l;rw[i]at v ⊢;rw[l];clear i l hnx
  rcases i6 hr with⟨x,d,P⟩|⟨j,x,rfl,d,P⟩
  ·obtain⟨O,b⟩:=yu (show t<s.length by have:=h.lc;have:=cz d;omega);have X:(s.map ifC++u.map ifW)[t]?=some (ifC O):=by
    rw[Pk (by simpa using cz b),Pz,b];rfl
   obtain⟨ad,rfl,z⟩:=BM h.row y;have ab:=Z1 (λU m=>z U m _ X);have ac:=Z1 (λU (m:M w U)=>DD U c hp.cfg T R O e.g x (h.up m).g ((h.up m).cs t x O d b) (hi.S4 hp d) P (DG hp.cfg _) (hi.U5 hp hu d P));have D:=Dn (c:=c) d;have hm:=ML;have al:=y;rw[D];have HX:=Z1 d;have ae:=Z1 b;clear h d b X hr hi hp D z y;generalize af:e.count=n at*
   go_in
   go_wp2_with fail;refine zm (v.o _ (Oy _ _)) λQ a=>?_;have q:=Z1 a;have S:Q.cell? (Y ep 1)=some (.slice (some ad) n k):=by
    have:=(H.o.B0.later a).cell 1;rw[<-af];exact this
   have c2:=ab.o Q a;unfold ifC at c2;have ar:decide ((t:Int)<0)=false:=by simp;try omega
   clear a;go_wp2_with fail;refine zm (ac.o _ q.o) λw2 F=>?_;obtain⟨T2,f,G⟩:=(H.o.up q.o).K3 HX.o ae.o F;have p:=Z2 f G;have c4:w2.cell? (Y ep 4)=some (I (e.used:Int)):=f.B0.cell 4;have f4:=f.B0.frozen 4;clear S c2 F f G;go_wp2;go_ret;have N:=p.o.1.B0.B4 4 (I ((e.used+1:Nat):Int));rw[yw]at N;obtain⟨ah,ai⟩:=p.o.1.own (aI.B4 _ _ _ _) N;refine⟨rfl,⟨T2,R,s,u,some ad,k,vw,?_⟩,((q.o.mono H.o.size).trans p.o.2).trans ai⟩;exact BL ah
  ·obtain⟨O,b⟩:=yu (show j<u.length by have:=h.lw;have:=cz d;omega);have X:(s.map ifC++u.map ifW)[e.cs.length+j]?=some (ifW O):=by
    rw[Ph (by simp[h.lc]),Pz,Pe,h.lc,show e.cs.length+j-e.cs.length=j from by omega,b];rfl
   obtain⟨ad,rfl,z⟩:=BM h.row y;have ab:=Z1 (λU m=>z U m _ X);have ac:=Z1 (λU (m:M w U)=>DI hp hi hu d P U T R O (h.up m).g ((h.up m).ws j x O d b));have D:=Do (c:=c) d;have hm:=MN;have al:=y;rw[D];have HX:=Z1 d;have ae:=Z1 b;clear h d b X hr hi hp D z y;generalize af:e.count=n at*
   go_in
   go_wp2_with fail;refine zm (v.o _ (Oy _ _)) λQ a=>?_;have q:=Z1 a;have S:Q.cell? (Y ep 1)=some (.slice (some ad) n k):=by
    have:=(H.o.B0.later a).cell 1;rw[<-af];exact this
   have c2:=ab.o Q a;unfold ifW at c2;have ar:decide ((e.cs.length+j:Int)<0)=false:=by simp;try omega
   clear a;go_wp2_with fail;refine zm (ac.o _ q.o) λw2 F=>?_;obtain⟨T2,f,G⟩:=(H.o.up q.o).M5 HX.o ae.o F;have p:=Z2 f G;have c4:w2.cell? (Y ep 4)=some (I (e.used:Int)):=f.B0.cell 4;have f4:=f.B0.frozen 4;clear S c2 F f G;go_wp2;go_ret;have N:=p.o.1.B0.B4 4 (I ((e.used+1:Nat):Int));rw[yw]at N;obtain⟨ah,ai⟩:=p.o.1.own (aI.B4 _ _ _ _) N;refine⟨rfl,⟨T2,R,s,u,some ad,k,vw,?_⟩,((q.o.mono H.o.size).trans p.o.2).trans ai⟩;exact BL ah
section
variable {c:Cg} {ps:List (List Cl)} {e:En}
def KK(t:Nat):(e.go c t).count=e.count/\(e.go c t).cs.length=e.cs.length/\(e.go c t).ws.length=e.ws.length/\(e.go c t).used<=e.used+1:=by
 unfold En.go;split
 ·split
  ·simp[En.count]
  ·exact⟨rfl,rfl,rfl,OW _⟩
 ·split
  ·simp[En.count]
  ·exact⟨rfl,rfl,rfl,OW _⟩
def qV(p:Int):(ja c e p).count=e.count/\(ja c e p).cs.length=e.cs.length/\(ja c e p).ws.length=e.ws.length/\(ja c e p).used<=e.used+1:=by
 unfold ja;split
 ·exact KK _
 ·exact⟨rfl,rfl,rfl,OW _⟩
def dI.step(hp:ge c ps)(h:dI c ps e)(hu:e.used<=30000)(p:Int):dI c ps (ja c e p):=by
 unfold ja;split
 ·rename_i t a;exact h.go hp hu (vn a).1
 ·exact h
def rU(p:Int)(r:List Int):En.run c e (p::r)=if e.next c p=none then e else En.run c (ja c e p) r:=by
 show(match En.step c e p with|some e'=>En.run c e' r|none=>e)=_;unfold En.step ja
 cases e.next c p with
 |none=>rfl
 |some t=>rw[Oz zS];rfl
def dI.run(hp:ge c ps):∀(l:List Int) {e:En},dI c ps e->e.used+l.length<=30000->dI c ps (En.run c e l)/\(En.run c e l).used<=e.used+l.length/\(En.run c e l).count=e.count/\(En.run c e l).cs.length=e.cs.length/\(En.run c e l).ws.length=e.ws.length
 |[],e,h,_=>⟨h,OA _,rfl,rfl,rfl⟩
 |p::r,e,h,hu=>by
  rw[rU];simp only[OC]at hu;split
  ·exact⟨h,zS,rfl,rfl,rfl⟩
  ·obtain⟨c1,c2,c3,c4⟩:=qV (c:=c) (e:=e) p;obtain⟨a,g,b,d,f⟩:=dI.run hp r (h.step hp zO p) zO;exact⟨a,by simp only[OC];omega,b.trans c1,d.trans c2,f.trans c3⟩
def yy(p:Int):gQ c e p<0↔e.next c p=none:=by
 unfold gQ
 cases e.next c p with
 |none=>simp
 |some t=>simp
end
structure Lp(w wr:World)(c:Cg)(B ep:Nat)(ps:List (List Cl))(e e':En)(l:List Int)(j:Nat):Prop where
 at_:kY wr c B ep e'
 inv:dI c ps e'
 used:e'.used<=e.used+j
 count:e'.count=e.count
 rest:En.run c e l=En.run c e' (l.drop j)
 below:Below B w wr
def KL(w:World)(c:Cg)(B ep:Nat)(e:En)(ps:List (List Cl))(hp:ge c ps)(hi:dI c ps e)(hn0:0<e.count)(h:kY w c B ep e)(l:List Int)(hl:∀p∈l,aq p)(A:Option Addr)(k n:Nat)(hr:an w B 1 A n (i64s l))(hu:e.used+n<=30000):
  C 27 #[Z ep 0,.slice A n k] w λr w'=>(∃q:Int,r=.returned (I q))/\kY w' c B ep (En.run c e l)/\Below B w w':=by
 have y:n=l.length:=by have:=hr.len;simpa[i64s]using this
 have O:=Z1 y;have S:Hid (Lp w w c B ep ps e e l 0):=Z1 ⟨h,hi,OA _,rfl,rfl,Oy _ _⟩;have H:=Z2 hp hl;clear h hi hp hl y
 go_in
 go_wp2;go_loopw [5,10] (λs i wr=>∃j:Nat,j<=n/\i=I j/\s=I j/\Hid (∃d,Lp w wr c B ep ps e d l j)) (λ_ i _=>n-(intOf i).toNat)
 case atStart=>exact⟨0,OK _,rfl,rfl,Z1 ⟨e,S.o⟩⟩
 case round=>
  obtain⟨j,hj,rfl,rfl,L⟩:=hrel;obtain⟨d,b⟩:=L.o;by_cases P:j<n
  ·obtain⟨ad,v,rfl,_,N,R⟩:=(hr.below b.below).at_ P;have t:j<l.length:=by have:=O.o;omega
   have Q:v=I l[j]:=by simp[i64s,t]at N;exact N.symm
   subst Q;have z:=Pu t;have D:=H.o.2 _ (OR t);have u:d.used<=30000:=by have:=b.used;omega
   have T:=Z1 (GH wr c B ep d ps H.o.1 b.inv u (by rw[b.count];exact hn0) b.at_ l[j] D);have a:=Z3 b z u;generalize l[j]=g at*;have aa:(j:Int)<(n:Int):=zO;clear b z N D u L;go_wp2_with fail;refine T.o.mono ?_;rintro r2 w2 ⟨rfl,F,G⟩;have f:=Z2 F G;clear F G;by_cases m:d.next c g=none
   ·have U:=(yy g).2 m;have x:=Z1 m;clear m;go_wp2;go_ret;refine⟨⟨_,rfl⟩,?_,a.o.1.below.trans f.o.2⟩;rw[a.o.1.rest,a.o.2.1,rU,OB x.o];have:=f.o.1;unfold ja at this;rw[x.o]at this;exact this
   ·have ab:¬gQ c d g<0:=λq=>m ((yy g).1 q);have x:=Z1 m;have ac:IntKind.i64.wrap ((j:Int)+1)=(j:Int)+1:=by rw[OX];omega
    clear m;go_wp2;go_roundw
    case rel=>
     obtain⟨X,c2,c3,c4⟩:=qV (c:=c) (e:=d) g;refine⟨j+1,zO,by go_num,by go_num,Z1 ⟨_,f.o.1,a.o.1.inv.step H.o.1 a.o.2.2 g,?_,X.trans a.o.1.count,?_,a.o.1.below.trans f.o.2⟩⟩
     ·have:=a.o.1.used;omega
     ·rw[a.o.1.rest,a.o.2.1,rU,Oz x.o]
    case measure=>simp[intOf];omega
  ·obtain rfl:j=n:=zO;have a:=Z1 b;clear b L;go_wp2;go_ret;refine⟨⟨_,rfl⟩,?_,a.o.below⟩;rw[a.o.rest,List.drop_of_length_le (by have:=O.o;omega)];exact a.o.at_
def openN(e:En):Nat:=cntN (λj=>(e.cs[j]?.map Ci.over).getD true) e.cs.length
def an.S3{w:World}{B n k:Nat}{A:Option Addr}{xs:List Value}(h:an w B 1 A n xs)(hk:k<=n):an w B 1 A k (xs.take k):=by
 refine⟨by rw[PG,h.1];omega,λf=>?_⟩;obtain⟨b,e,c,d⟩:=h.2 zO;refine⟨b,e,c,λj u a=>d j u ?_⟩;rw[QX]at a;split at a
 ·exact a
 ·cases a
section
variable (w:World) (c:Cg) (B ep:Nat) (e:En) (ps:List (List Cl))
def GJ(hp:ge c ps)(hi:dI c ps e)(h:ew w c T B wp ep e pcs pws A k vw used):
  C 52 #[Z ep 0] w λr w'=>r=.returned (I (openN e:Int))/\M w w':=by
 have D:=hi.L.lk.n32;have g:e.cs.length<=e.count:=by unfold En.count;omega
 have x:Hid (∀U,M w U->C 101 #[.slice A e.cs.length k] U λr w'=>r=.returned (I (openN e:Int))/\M U w'):=Z1 λU i=>by
  have y:an U U.heap.size 1 A e.cs.length (pcs.map ifC):=by
   have l:=an.S3 (an.C4 (h.up i).row) g;rw[QN (by simp[h.lc]),OT (by simp[h.lc])]at l;exact l
  refine GE _ pcs A k e.cs.length U y zO λj p V z=>?_;have q:j<e.cs.length:=by rw[<-h.lc];exact p
  have b:=OL q;rw[b];exact oT V c T wp _ _ (((h.up i).up z).cs j _ _ b (OL p)) (hi.S4 hp b)
 have s:=Z1 h.B0;obtain⟨_,_,d,H,F⟩:=ak h.row
 cases d
 generalize t:e.count=n at*;generalize u:e.cs.length=m at*;have f:=(zi w);have G:m<=k:=zO;clear h hi hp t u
 go_in
 go_upto_region 3 with fail
 refine zH (S:=λU=>M w U) f ?_;refine zq 3 ?_ (λW hW=>?_) ?_;rotate_left
 ·have N:W.cell? (Y ep 1)=some (.slice A n k):=(s.o.later hW).cell 1;exact zf
 refine zL ?_;refine zq 7 ?_ (λW hW=>?_) ?_;rotate_left
 ·have O:W.cell? (Y ep 3)=some (I (m:Int)):=(s.o.later hW).cell 3;exact zf
 refine zL ?_;refine zo 9 λK hK=>?_;go_simp;refine zm (x.o _ f) λP v=>?_;have a:=af f v;refine zJ hK a ?_;go_wp2;go_ret;exact⟨rfl,a⟩
def GK(hp:ge c ps)(hi:dI c ps e)(hu:e.used<=30000)(hn0:0<e.count)(h:ew w c T B wp ep e pcs pws A k vw used):
  C 55 #[Z ep 0] w λr w'=>r=.returned (.bool (decide (gQ c e 0<0)))/\M w w':=by
 have f:=hi.L.lk.n32;have a:=Z1 (vJ (e.ready c) _ 0 A k e.count w (an.C4 h.row) hn0 zO aD (ew.can hp hi hu h));rw[vK]at a;have g:w.cell? (Y ep 1)=some (.slice A e.count k):=h.B0.cell 1;generalize e.count=n at*;generalize gQ c e 0=q at*;clear h hi hp
 go_in
 go_wp2_with fail;refine zm a.o λi b=>?_;have d:=Z1 b;clear b;go_wp2;go_ret;exact⟨rfl,d.o⟩
def j8:cU prog 38 5:=⟨zR,zR,zR⟩
def pT(ve vq:Value)(e:En)(r:Bool):Array Value:=#[ve,I (e.used:Int),I (openN e:Int),vq,.bool r]
def yz(hp:ge c ps)(hi:dI c ps e)(hu:e.used<=30000)(hn0:0<e.count)(h:kY w c B ep e):
  C 12 #[Z ep 0] w λr w'=>∃ve vq,r=.returned (.agg (pT ve vq e (decide (gQ c e 0<0))))/\w'.ownsRow w.heap.size 79 34 ve e.g.ev.length (vts e.g.ev)/\w'.ownsRow w.heap.size 58 2 vq e.g.q.line.length (cG e.g.q.line)/\M w w':=by
 obtain⟨T,L,a2,a3,A,k,vw,h⟩:=h;have a4:=hi.evs hu;have j:=hi.E5 hp hu;have R:=zh w (.cells #[.slice none 0 0,I 0,I 0,.slice none 0 0,.bool false] 38);have X:=Blk.A8 w 38 #[.slice none 0 0,I 0,I 0,.slice none 0 0,.bool false] rfl;have HE:=Z1 (λU (l:M w U)=>AJ U c T L e.g (h.up l).g zO λx hx=>(hi.E.L9.O3 x hx).ok);have HO:=Z1 (λU (l:M w U)=>GJ U c B ep e ps hp hi (h.up l));have HQ:=Z1 (λU (l:M w U)=>gP U c T L e.g (h.up l).g);have HW:Hid (∀U,M w U->C 54 #[Z L 10] U λr w'=>∃v,r=.returned v/\aL 2 U w' 58 v e.g.q.line.length (cG e.g.q.line)):=Z1 λU l=>by
  obtain⟨cs,sp,lb,ab⟩:=(h.up l).g;exact vZ L 10 _ cs _ e.g.q U ab.wq ⟨j.q.1,j.q.2.1,j.q.2.2⟩
 have HR:=Z1 (λU (l:M w U)=>GK U c B ep e ps hp hi hu hn0 (h.up l));have HB:=Z1 h.B0;generalize decide (gQ c e 0<0)=rs at*;have ad:Hid (∀ve vq,pT ve vq e rs=#[ve,I (e.used:Int),I (openN e:Int),vq,.bool rs]):=Z1 λ_ _=>rfl;generalize openN e=on at*;generalize ae:vts e.g.ev=vv at*;generalize ag:e.g.ev.length=nl at*;generalize ah:cG e.g.q.line=kk at*;generalize ai:e.g.q.line.length=kl at*;clear h hi hp j ae ag ah ai
 go_in
 go_upto_region 3 with fail
 have aj:=Z1 X;generalize w.alloc (.cells #[.slice none 0 0,I 0,I 0,.slice none 0 0,.bool false] 38)=V at*;have N:M w V.drew/\M V V.drew:=⟨R.drew,(zi V)⟩;clear X;refine bW (S:=λU=>M w U/\M V U) 20 zR zR N ?_;simp only[OM,OO,ON,OQ];try simp only[zD,zE,Nat.reduceAdd,zG]
 refine zL ?_;refine zq 3 ?_ (λW hW=>?_) ?_;rotate_left
 ·have q0:W.cell? (Y ep 0)=some (Z L 0):=(HB.o.later hW.1).cell 0;exact zf
 refine zL ?_;refine zq 8 ?_ (λW hW=>?_) ?_;rotate_left
 ·have q4:W.cell? (Y ep 4)=some (I (e.used:Int)):=(HB.o.later hW.1).cell 4;exact zf
 refine zL ?_;refine zq 14 ?_ (λW hW=>?_) ?_;rotate_left
 ·have q0:W.cell? (Y ep 0)=some (Z L 0):=(HB.o.later hW.1).cell 0;exact zf
 refine zL ?_;refine zo 4 λK hK=>?_;go_simp
 (refine(HE.o _ N.1).mono ?_)
 rintro e2 w2 ⟨ve,rfl,m⟩;obtain⟨A2,k2,rfl,_,_,_⟩:=m.form;have n:=And.intro (af N.1 m.below) (af N.2 m.below);have u:=aP m.own N.1.size;refine zJ hK n ?_;refine zo 10 λK hK=>?_;go_simp;refine zm (HO.o _ n.1) λw3 y=>?_;have d:=And.intro (af n.1 y) (af n.2 y);have z:=aN u y;refine zJ hK d ?_;refine zo 15 λK hK=>?_;go_simp
 (refine(HQ.o _ d.1).mono ?_)
 rintro e4 w4 ⟨rfl,rfl⟩;refine zJ hK d ?_;refine zo 16 λK hK=>?_;go_simp
 (refine(HW.o _ d.1).mono ?_)
 rintro e5 w5 ⟨vq,rfl,i⟩;obtain⟨A5,k5,rfl,_,_,_⟩:=i.form;have p:=And.intro (af d.1 i.below) (af d.2 i.below);have D:=aN z i.below;have F:=aP i.own d.1.size;refine zJ hK p ?_;refine zo 18 λK hK=>?_;go_simp;refine zm (HR.o _ p.1) λw6 s=>?_;have G:=And.intro (af p.1 s) (af p.2 s);have H:=aN D s;have t:=aN F s;refine zJ hK G ?_;rw[bI];have O:=Z3 G H t;have P:=aj.o.later G.2;clear N n d p G u z D H F t m i y s R;refine zj j8 P ?_;intro w9 ak Q;go_wp2;refine OH (au j8 rfl ak rfl _ rfl) rfl ⟨.slice A2 nl k2,.slice A5 kl k5,congrArg (λa=>Ending.returned (Value.agg a)) (ad.o _ _).symm,?_,?_,Q.below O.o.1.1 (OA _)⟩
 ·exact Q.B7.C8 O.o.2.1 λb e f=>aB O.o.2.1 P zP (f▸e)
 ·exact Q.B7.C8 O.o.2.2 λb e f=>aB O.o.2.2 P zP (f▸e)
end
def KM(p:Nat):Value:=Z p 0
def mG{w:World}{B B':Nat}{e e':TypeId}{s s' n n':Nat}{v v':Value}{xs xs':List Value}(h:w.ownsRow B e s v n xs)(h':w.ownsRow B' e' s' v' n' xs')(hne:e≠e')(b:Nat)(h1:v.ownBlock=some b):v'.ownBlock≠some b:=by
 rcases h'.2 with⟨rfl,_⟩|⟨g,d,f,rfl,_,c,_⟩
 ·simp[Value.ownBlock]
 ·intro a;simp[Value.ownBlock]at a;subst a;exact aB h c hne h1
structure ey(w:World)(c:Cg)(T:Nat->Tg)(N wp ep:Nat)(g:Gs)(m:Nat)(xs:List Ci)(ys:List Wi)(pcs pws qs:List Nat)(A:Option Addr)(k:Nat)(A2:Option Addr)(k2:Nat):Prop where
 B0:Blk w ep 116 (jp wp (.slice A (xs.length+ys.length) k) (.slice A2 qs.length k2) m 0)
 ne:N<=ep
 fr:∀b,N<=b->T b=.free
 size:N<=w.heap.size
 g:GAt w c T wp g
 row:w.ownsRow N 123 1 (.slice A (xs.length+ys.length) k) (xs.length+ys.length) (pcs.map ifC++pws.map ifW)
 I7:w.ownsRow N 119 1 (.slice A2 qs.length k2) qs.length (qs.map KM)
 lc:pcs.length=xs.length
 lw:pws.length=ys.length
 D7:(pcs++pws).Nodup
 cs:∀(i:Nat) (x:Ci) p,xs[i]?=some x->pcs[i]?=some p->cY w c T wp p x
 ws:∀(j:Nat) (x:Wi) p,ys[j]?=some x->pws[j]?=some p->aO w c T wp p x
section
variable {w w' w1:World} {c:Cg} {T:Nat→Tg} {N wp ep m:Nat} {g:Gs} {xs:List Ci} {ys:List Wi} {pcs pws qs:List Nat} {A A2:Option Addr} {k k2:Nat}
def yA(hf:∀b,N<=b->T b=.free){n:Nat}(h:N<=n):ext T n .free=T:=by
 funext b;by_cases a:b<n
 ·exact br T _ a
 ·rw[cC T _ zO,hf b zO]
def GAt.low(h:GAt w c T wp g)(hf:∀b,N<=b->T b=.free)(hK:ag (λb=>N<=b) w w'):GAt w' c T wp g:=by
 obtain⟨d,i,j,h⟩:=h;have a:=hK.B0 h.B0 (λe=>by have:=h.tw;rw[hf _ e]at this;cases this);exact⟨d,i,j,h.P5 a (bF.refl _ _ _) h.tw (h.G3.D1 hK (λb e f=>by rw[hf _ f]at e;rcases e with e|e;exact e;cases e) λ_ _=>rfl) (h.E4.D1 hK (λb n e f=>by rw[hf _ f]at e;cases e) λ_ _ _=>rfl) h.nl (h.ln.D1 a (λ_ _ _=>rfl) hK (λb e f=>by rw[hf _ f]at e;rcases e with e|e<;>cases e) λ_ _ _=>rfl) (h.wq.D1 a (λ_ _ _=>rfl) hK (λb e f=>by rw[hf _ f]at e;cases e) λ_ _ _=>rfl) (h.ev.D1 rfl hK (λb e f=>by rw[hf _ f]at e;cases e) λ_ _ _=>rfl)⟩
def ey.up(h:ey w c T N wp ep g m xs ys pcs pws qs A k A2 k2)(hb:M w w'):ey w' c T N wp ep g m xs ys pcs pws qs A k A2 k2:=
 ⟨h.B0.later hb,h.ne,h.fr,OJ h.size hb.size,h.g.up hb,aN h.row hb,aN h.I7 hb,h.lc,h.lw,h.D7,λi x p a b=>(h.cs i x p a b).up hb,λj x p a b=>(h.ws j x p a b).up hb⟩
def ey.B7(h:ey w c T N wp ep g m xs ys pcs pws qs A k A2 k2)(hK:ag L w w')(hL:∀b,L b->b=ep\/(Value.slice A (xs.length+ys.length) k).ownBlock=some b\/(Value.slice A2 qs.length k2).ownBlock=some b):
  GAt w' c T wp g/\(∀(p:Nat) (x:Ci),cY w c T wp p x->cY w' c T wp p x)/\(∀(p:Nat) (x:Wi),aO w c T wp p x->aO w' c T wp p x)/\Below N w w'/\N<=w'.heap.size:=by
 have f:∀b,L b->N<=b:=λb e=>by
  rcases hL b e with rfl|e|e
  ·exact h.ne
  ·exact(h.row.lt b e).1
  ·exact(h.I7.lt b e).1
 have u:∀(t:TypeId) (q:Nat) (y:Array Value),Blk w q t y->t≠116->t≠123->t≠119->¬L q:=λt q y d i j l e=>by
  rcases hL q e with rfl|e|e
  ·exact fq d h.B0 i rfl
  ·exact aB h.row d j.symm e
  ·exact aB h.I7 d l.symm e
 have z:∀(t:TypeId) (B s n:Nat) (v:Value) (D:List Value) (b:Nat),w.ownsRow B t s v n D->v.ownBlock=some b->t≠116->t≠123->t≠119->¬L b:=λt B s n v D b d o i j l e=>by
  rcases hL b e with rfl|e|e
  ·exact aB d h.B0 i o
  ·exact mG d h.row j b o e
  ·exact mG d h.I7 l b o e
 refine⟨h.g.low h.fr (hK.C3 f),λp x a=>?_,λp x a=>?_,(hK.C3 f).L1 h.size,OJ h.size hK.size⟩
 ·obtain⟨G,H,a⟩:=a;refine⟨G,H,a.K5 hK (u _ _ _ a.B0 zP zP zP) (λb e=>z _ _ _ _ _ _ b a.prog e zP zP zP) (λb e=>?_) λ_ _ e=>e⟩
  rcases a.ops with r|r
  ·rw[r.1]at e;cases e
  ·exact z _ _ _ _ _ _ b r e zP zP zP
 ·obtain⟨O,a⟩:=a;refine⟨O,a.K5 hK (u _ _ _ a.B0 zP zP zP) (λb F P=>?_) λ_ _ _=>rfl⟩;rw[h.fr b (f b P)]at F
  cases F
def yB{α β:Type}{xs:List α}{ps:List β}{x y:α}{p q:β}{i:Nat}(hl:ps.length=xs.length)(h1:(xs++[x])[i]?=some y)(h2:(ps++[p])[i]?=some q):(xs[i]?=some y/\ps[i]?=some q)\/(y=x/\q=p):=by
 rcases Nat.lt_trichotomy i xs.length with a|a|a
 ·rw[Pk a]at h1;rw[Pk (by rw[hl];exact a)]at h2;exact .inl ⟨h1,h2⟩
 ·subst a;rw[Ph (OA _),QY]at h1;rw[<-hl,Ph (OA _),QY]at h2;injection h1 with h1;injection h2 with h2;exact .inr ⟨h1.symm,h2.symm⟩
 ·rw[Ps zT]at h1
  cases h1
def ti{l:List Nat}(h:l.Nodup)(hp:p∉l):(l++[p]).Nodup:=
 Qa.2 ⟨h,zS,λa d b c e=>by simp at c;subst c;subst e;exact hp d⟩
def ey.U6(h:ey w c T N wp ep g m xs [] pcs [] qs A k A2 k2)(hc:cY w c T wp p x)(hp:p∉pcs)(hg:w.grownBy w1 (Value.slice A xs.length k).ownBlock)(hr:w1.ownsRow N 123 1 (.slice A' (xs.length+1) k') (xs.length+1) (pcs.map ifC++[ifC p])):
  ey (w1.setCell (Y ep 1) (.slice A' (xs.length+1) k')) c T N wp ep g m (xs++[x]) [] (pcs++[p]) [] qs A' k' A2 k2/\Below N w (w1.setCell (Y ep 1) (.slice A' (xs.length+1) k')):=by
 have hK:ag (λb=>b=ep\/(Value.slice A xs.length k).ownBlock=some b) w (w1.setCell (Y ep 1) (.slice A' (xs.length+1) k')):=(dl (ag.refl (λb=>b=ep\/(Value.slice A xs.length k).ownBlock=some b) w) hg (λ_ h=>h) λ_ e=>.inr e).setCell (p:=Y ep 1) (.inl (.inl rfl)) _;obtain⟨t,l,u,v,z⟩:=h.B7 hK λb e=>by rcases e with e|e;exact .inl e;exact .inr (.inl e)
 have r:=aB h.row h.B0 zP;have n:=h.B0.grown hg (λe=>r e.symm);have o:=aB hr n zP;have s:=h.D7;rw[PC]at s;refine⟨⟨?_,h.ne,h.fr,z,t,?_,?_,by simp[h.lc],rfl,?_,λi y q a d=>?_,λj y q a d=>u _ _ (h.ws j y q a d)⟩,v⟩
 ·have:=n.B4 1 (.slice A' (xs.length+1) k');simpa[jp]using this
 ·have:=bA (p:=Y ep 1) hr o (.slice A' (xs.length+1) k')
  simpa using this
 ·exact hK.C8 h.I7 λb e f=>by
   rcases f with rfl|f
   ·exact aB h.I7 h.B0 zP e
   ·exact mG h.I7 h.row zP b e f
 ·rw[PC];exact ti s hp
 ·rcases yB h.lc a d with⟨a,d⟩|⟨rfl,rfl⟩
  ·exact l _ _ (h.cs i y q a d)
  ·exact l _ _ hc
def ey.U7(h:ey w c T N wp ep g m xs ys pcs pws qs A k A2 k2)(hg:w.grownBy w1 (Value.slice A2 qs.length k2).ownBlock)(hr:w1.ownsRow N 119 1 (.slice A' (qs.length+1) k') (qs.length+1) (qs.map KM++[KM p])):
  ey (w1.setCell (Y ep 2) (.slice A' (qs.length+1) k')) c T N wp ep g m xs ys pcs pws (qs++[p]) A k A' k'/\(∀(p:Nat) (x:Wi),aO w c T wp p x->aO (w1.setCell (Y ep 2) (.slice A' (qs.length+1) k')) c T wp p x)/\Below N w (w1.setCell (Y ep 2) (.slice A' (qs.length+1) k')):=by
 have hK:ag (λb=>b=ep\/(Value.slice A2 qs.length k2).ownBlock=some b) w (w1.setCell (Y ep 2) (.slice A' (qs.length+1) k')):=(dl (ag.refl (λb=>b=ep\/(Value.slice A2 qs.length k2).ownBlock=some b) w) hg (λ_ h=>h) λ_ e=>.inr e).setCell (p:=Y ep 2) (.inl (.inl rfl)) _;obtain⟨t,o,r,u,v⟩:=h.B7 hK λb e=>by rcases e with e|e;exact .inl e;exact .inr (.inr e)
 have s:=aB h.I7 h.B0 zP;have a:=h.B0.grown hg (λe=>s e.symm);have d:=aB hr a zP;refine⟨⟨?_,h.ne,h.fr,v,t,?_,?_,h.lc,h.lw,h.D7,λi y q l n=>o _ _ (h.cs i y q l n),λj y q l n=>r _ _ (h.ws j y q l n)⟩,r,u⟩
 ·have:=a.B4 2 (.slice A' (qs.length+1) k');simpa[jp]using this
 ·exact hK.C8 h.row λb e f=>by
   rcases f with rfl|f
   ·exact aB h.row h.B0 zP e
   ·exact mG h.row h.I7 zP b e f
 ·have:=bA (p:=Y ep 2) hr d (.slice A' (qs.length+1) k')
  simpa using this
def ey.U8(h:ey w c T N wp ep g m xs ys pcs pws qs A k A2 k2){y:Wi}(hc:aO w c T wp p y)(hp:p∉pcs++pws)(hg:w.grownBy w1 (Value.slice A (xs.length+ys.length) k).ownBlock)(hr:w1.ownsRow N 123 1 (.slice A' (xs.length+ys.length+1) k') (xs.length+ys.length+1) ((pcs.map ifC++pws.map ifW)++[ifW p])):
  ey (w1.setCell (Y ep 1) (.slice A' (xs.length+ys.length+1) k')) c T N wp ep g m xs (ys++[y]) pcs (pws++[p]) qs A' k' A2 k2/\Below N w (w1.setCell (Y ep 1) (.slice A' (xs.length+ys.length+1) k')):=by
 have hK:ag (λb=>b=ep\/(Value.slice A (xs.length+ys.length) k).ownBlock=some b) w (w1.setCell (Y ep 1) (.slice A' (xs.length+ys.length+1) k')):=(dl (ag.refl (λb=>b=ep\/(Value.slice A (xs.length+ys.length) k).ownBlock=some b) w) hg (λ_ h=>h) λ_ e=>.inr e).setCell (p:=Y ep 1) (.inl (.inl rfl)) _;obtain⟨t,o,r,u,v⟩:=h.B7 hK λb e=>by rcases e with e|e;exact .inl e;exact .inr (.inl e)
 have s:=aB h.row h.B0 zP;have l:=h.B0.grown hg (λe=>s e.symm);have n:=aB hr l zP;refine⟨⟨?_,h.ne,h.fr,v,t,?_,?_,h.lc,by simp[h.lw],?_,λi y q a d=>o _ _ (h.cs i y q a d),λj y q a d=>?_⟩,u⟩
 ·have:=l.B4 1 (.slice A' (xs.length+ys.length+1) k');simpa[jp,PQ]using this
 ·have:=bA (p:=Y ep 1) hr n (.slice A' (xs.length+ys.length+1) k');simpa[PQ]using this
 ·exact hK.C8 h.I7 λb e f=>by
   rcases f with rfl|f
   ·exact aB h.I7 h.B0 zP e
   ·exact mG h.I7 h.row zP b e f
 ·rw[<-Pv];exact ti h.D7 hp
 ·rcases yB h.lw a d with⟨a,d⟩|⟨rfl,rfl⟩
  ·exact r _ _ (h.ws j y q a d)
  ·exact r _ _ hc
def ey.done{xs:List Ci}{ys:List Wi}{B:Nat}(h:ey w c T N wp ep g m xs ys pcs pws qs A k A2 k2)(hm:m=xs.length)(hB:B<=N)(hT:∀b,b<B->T b=.eng):kY w c B ep ⟨g,xs,ys,0⟩:=
 ⟨T,wp,pcs,pws,A,k,.slice A2 qs.length k2,by rw[hm]at h;exact h.B0,h.fr _ h.ne,hT,OJ hB h.size,h.g,aP h.row (OK _),λb e=>h.fr _ (h.row.lt b e).1,h.lc,h.lw,h.D7,h.cs,h.ws⟩
def ey.new(hf:∀b,N<=b->T b=.free)(hN:N<=w.heap.size)(hg:GAt w c T wp g)(hn:N<=ep)(hb:Blk w ep 116 (jp wp (.slice none 0 0) (.slice none 0 0) m 0)):ey w c T N wp ep g m [] [] [] [] [] none 0 none 0:=
 ⟨hb,hn,hf,hN,hg,Pn _ _ _ _,Pn _ _ _ _,rfl,rfl,Sh,λi x p e=>by simp at e,λi x p e=>by simp at e⟩
def ey.fresh{xs:List Ci}{ys:List Wi}(h:ey w c T N wp ep g m xs ys pcs pws qs A k A2 k2){p:Nat}(hp:w.heap.size<=p):p∉pcs++pws:=λa=>by
 rcases Po.1 a with a|a
 ·obtain⟨i,b⟩:=List.mem_iff_getElem?.1 a;have d:=cz b;obtain⟨f,e⟩:=(h.cs i _ p (OL (by rw[<-h.lc];exact d)) b).B0;have:=e.lt;omega
 ·obtain⟨i,b⟩:=List.mem_iff_getElem?.1 a;have d:=cz b;obtain⟨f,e⟩:=(h.ws i _ p (OL (by rw[<-h.lw];exact d)) b).B0;have:=e.lt;omega
end
def vL:cE prog 113 123 .nilIface 1 16:=⟨underlying113,zR,rfl⟩
def KN:cE prog 114 119 (.pointer none) 1 8:=⟨underlying114,zR,rfl⟩
def DJ(st sa lo hi:Int)(ps:List (List Cl))(A:Option Addr)(n k:Nat)(wk:Int)(hP:dv w A n ps)(hn:n<=1000000)(hwk:aq wk)(h0:cj st sa lo hi ps wk≠0):
  C 10 #[.agg #[I st,I sa,I lo,I hi],.slice A n k,I wk] w λr w'=>r=.returned (.tuple #[.pointer none,I (cj st sa lo hi ps wk)])/\M w w':=by
 have a:=zh w (.cells #[I st,I sa,I lo,I hi] 23);have f:=Z1 (λW (hW:M w W)=>oU st sa lo hi ps A n k wk W (hP.up hW) hn hwk);generalize cj st sa lo hi ps wk=e at*;have g:(e==0)=false:=by simpa using h0
 have c:=Z1 a;clear hP h0 a
 go_in
 go_wp2_with fail;refine zm (f.o _ c.o) λh b=>?_;have d:=Z1 (af c.o b);clear b;go_wp2;exact OH (results_tmp2 rfl _ _ _) rfl ⟨rfl,d.o⟩
def csN(ps:List (List Cl)):List Ci:=ps.mapIdx λi p=>.new p i
def wsN(m j:Nat):List Wi:=(List.range j).map λi=>.new (m+i)
def KO{ps:List (List Cl)}{j:Nat}(h:j<ps.length):(csN ps).take (j+1)=(csN ps).take j++[.new ps[j] j]:=by
 have a:j<(csN ps).length:=by simpa[csN]using h
 rw[OG a];simp[csN]
def KP:wsN m (j+1)=wsN m j++[.new (m+j)]:=by simp[wsN,List.range_succ]
def NK(w wr:World)(c:Cg)(T:Nat->Tg)(N wp ep:Nat)(ps:List (List Cl))(j:Nat):Prop:=∃pcs A k,ey wr c T N wp ep (.new c) ps.length ((csN ps).take j) [] pcs [] [] A k none 0/\M w wr
def NL(w wr:World)(c:Cg)(T:Nat->Tg)(N wp ep:Nat)(ps:List (List Cl))(j:Nat):Prop:=∃pcs pws A k A2 k2,ey wr c T N wp ep (.new c) ps.length (csN ps) (wsN ps.length j) pcs pws pws A k A2 k2/\M w wr
def KQ(hc:c.ok)(ps:List (List Cl))(A:Option Addr)(n k m:Nat)(hP:dv w A n ps)(hn:ps.length+m<=32)(hall:∀p∈ps,p.length<=1000)(h0:cj c.st c.sa c.lo c.hi ps m=0):
  Calls prog 10 #[.agg #[.int .i64 c.st,.int .i64 c.sa,.int .i64 c.lo,.int .i64 c.hi],.slice A n k,.int .i64 m] w λr w'=>∃ep,r=.returned (.tuple #[.pointer (some ⟨ep,0,none⟩),.int .i64 0])/\kY w' c w.heap.size ep (.new c ps m)/\Below w.heap.size w w':=by
 have ba:=ae (Oy w.heap.size w) (.cells #[.int .i64 c.st,.int .i64 c.sa,.int .i64 c.lo,.int .i64 c.hi] 23);have bb:=hP.len;have HC:=Z1 (λW (hW:Below w.heap.size w W)=>oU c.st c.sa c.lo c.hi ps A n k m W (hP.up hW) (by omega) (by unfold aq;omega));rw[h0]at HC;have HG:Hid (∀W,Below w.heap.size w W->Calls prog 48 #[.agg #[.int .i64 c.st,.int .i64 c.sa,.int .i64 c.lo,.int .i64 c.hi]] W λe w'=>∃T N h,e=.returned (.tuple #[.pointer (some ⟨h,0,none⟩),.int .i64 0])/\GAt w' c T h (.new c)/\(∀b,b<w.heap.size->T b=.eng)/\(∀b,N<=b->T b=.free)/\N=w'.heap.size/\Below W.heap.size W w'):=Z1 λW hW=>(Kh W c hc λ_=>.eng).mono λe w' ⟨T',h,e1,e2,e3,e4,e5⟩=>⟨ext T' w'.heap.size .free,w'.heap.size,h,e1,e2.free,λb hb=>(br T' _ (by have:=hW.size;have:=e5.size;omega)).trans (e3 b (by have:=hW.size;omega)),λb hb=>cC T' _ hb,rfl,e5⟩;have HB:=Z1 ba;have u:=Z5 hP hn hall hc bb;have cz:(n:Int)<=32/\(m:Int)<=32:=by omega
 have cf:n<=32:=by omega
 clear ba hP h0 hn hall hc bb
 go_in
 go_wp2_with fail;refine zm (HC.o _ HB.o) λw1 G=>?_;have au:=Z1 (af HB.o G);have R:=(Blk.A8 w 23 #[.int .i64 c.st,.int .i64 c.sa,.int .i64 c.lo,.int .i64 c.hi] rfl).later G;have q0:=R.cell 0;have q1:=R.cell 1;have q2:=R.cell 2;have q3:=R.cell 3;clear G;go_wp2_with fail;refine(HG.o _ au.o).mono ?_;rintro e2 w2 ⟨T,N,h,rfl,bc,bd,av,aw,G⟩;clear q0 q1 q2 q3 R;have ax:=Z1 (af au.o G);have a:=ey.new (m:=ps.length) av (w:=w2.alloc (.cells (jp h (.slice none 0 0) (.slice none 0 0) ps.length 0) 116)) (ep:=w2.heap.size) (by rw[aw];simp) (bc.up (ae (Oy _ w2) _)) (by omega) (Blk.A8 w2 _ _ rfl);have HD:=Z5 a bd av (ae ax.o (.cells (jp h (.slice none 0 0) (.slice none 0 0) ps.length 0) 116)) (show w.heap.size<=N by rw[aw];exact ax.o.size);try rw[<-u.o.2.2.2.2]at HD
 generalize b1:w2.heap.size=ep at*;clear a bd av G bc;go_wp2_with fail;have H0:Hid (NK w (w2.alloc (.cells (jp h (.slice none 0 0) (.slice none 0 0) n 0) 116)) c T N h ep ps 0):=Z1 ⟨[],none,0,by rw[OO,<-u.o.2.2.2.2];exact HD.o.1,HD.o.2.2.2.1⟩;have HT:=Z3 HD.o.2.1 HD.o.2.2.1 HD.o.2.2.2.2;clear HB au ax HC HG HD aw b1;go_loopw [35] (λi wr=>∃j:Nat,j<=n/\i=.int .i64 j/\Hid (NK w wr c T N h ep ps j)) (λi _=>n-(intOf i).toNat)
 case atStart=>exact⟨0,OK _,rfl,H0⟩
 case round=>
  obtain⟨j,hj,rfl,X⟩:=hrel;obtain⟨aa,A1,k1,a,s⟩:=X.o;by_cases b2:j<n
  ·have ay:j<ps.length:=by have:=u.o.2.2.2.2;omega
   obtain⟨ad,A3,k3,rfl,_,cc,_,_,be⟩:=(u.o.1.up s).at_ ay;have c0:(j:Int)<(n:Int):=by omega
   have bf:=u.o.2.2.1 _ (OR ay);have az:=KO ay;have H:((csN ps).take j).length=j:=by simp[csN];omega
   have HS:=Z3 az H s;have HN:=Z1 (λW (hW:Below wr.heap.size wr W)=>GF W c u.o.2.2.2.1 T h (.new c) (a.g.up hW) j (by omega) ps[j] A3 k3 ps[j].length (be.up hW) bf);have l:=Z1 a;generalize ps[j]=pj at*;clear az a s X bf be;have hS:Blk wr.drew ep 116 (jp h (.slice A1 j k1) (.slice none 0 0) n 0):=by
    have:=l.o.B0.drew;rw[H,<-u.o.2.2.2.2]at this;exact this
   go_upto_region 9 with fail
   refine bW 12 (S:=λU=>Blk U ep 116 (jp h (.slice A1 j k1) (.slice none 0 0) n 0)) (by kernel_rfl) (by kernel_rfl) hS ?_;simp only[OM,OO,ON,OQ];try simp only[zD,zE,Nat.reduceAdd,zG]
   refine zp 0 ?_;refine zp 1 ?_;refine zp 2 ?_;refine zp 3 ?_;refine zq 4 ?_ (λW hW=>?_) ?_;rotate_left
   ·have q1:W.cell? ⟨ep,1,none⟩=some (.slice A1 j k1):=hW.cell 1;exact zf
   refine zp 5 ?_;refine zp 6 ?_;refine zp 7 ?_;refine zo 8 λK hK=>?_;go_simp
   (refine(HN.o _ ((Oy wr.heap.size wr).drew)).mono ?_)
   rintro e4 w4 ⟨p,rfl,t,a1,x⟩;have L:=hS.later x;refine hK _ _ L ?_;clear hK;refine zn ?_;refine zo 9 λK hK=>?_;go_simp;refine hK _ _ L ?_;clear hK;refine zn ?_;refine zo 10 λK hK=>?_;go_simp;refine hK _ _ (L.alloc _) ?_;clear hK;refine zn ?_;refine zo 11 λK hK=>?_;have d:=(l.o.up (Oy wr.heap.size wr).drew).up x;have P:w4.ownsRow N 123 1 (.slice A1 j k1) j (aa.map ifC):=by
    have:=d.row;rw[Qs,PC,H]at this;exact this
   refine tC vL (by decide) (.tmp 44) (.tmp 50) rfl (by rfl) P d.size rfl (by rfl) rfl (by simp[Value.oneCell']) (by omega) (by unfold maxLen;omega) ?_;intro v5 w5 y z;obtain⟨A5,k5,rfl,_,_⟩:=ak y;have v:=L.grown z λe=>aB P L (by decide) e.symm;refine hK _ _ v ?_;clear hK;refine zn ?_;refine zd ?_;rw[bI];have B:cY w4 c T h p (.new pj j):=by
    rw[yA HT.o.2.1 (by simpa using l.o.size)]at t;exact t
   have f:=d.U6 (w1:=w5) B (λhm=>(l.o.up (Oy wr.heap.size wr).drew).fresh a1 (RU _ hm)) (by rw[H];exact z) (A':=A5) (k':=k5) (by rw[H];exact y);rw[H,<-HS.o.1]at f;have q5:=v.cell 1;have f5:=v.frozen 1;have HA:=Z1 f;clear f B t P d y z L v hS;go_wp2;go_roundw
   case rel=>
    refine⟨j+1,by omega,by go_num,Z1 ⟨_,A5,k5,HA.o.1,?_⟩⟩;exact(af (HS.o.2.2.drew) x).trans (HA.o.2.mono HT.o.2.2)
   case measure=>simp[intOf];omega
  ·obtain rfl:n=j:=by omega
   obtain⟨aa,A1,k1,a,s⟩:=X.o;have bg:(csN ps).take n=csN ps:=OT (by simp[csN];have:=u.o.2.2.2.2;omega);rw[bg]at a;have H1:Hid (NL w wr c T N h ep ps 0):=Z1 ⟨aa,[],A1,k1,none,0,a,s⟩;clear a s X bg;go_wp2_with fail;go_loopw [56] (λi wr=>∃q:Nat,q<=m/\i=.int .i64 q/\Hid (NL w wr c T N h ep ps q)) (λi _=>m-(intOf i).toNat)
   case atStart=>exact⟨0,OK _,rfl,H1⟩
   case round=>
    obtain⟨q,hq,rfl,X⟩:=hrel;obtain⟨aa,bh,A1,k1,A2,k2,a,s⟩:=X.o;have ai:=u.o.2.2.2.2;have t:(csN ps).length=n:=by simp[csN,ai]
    have O:(wsN ps.length q).length=q:=by simp[wsN]
    have D:bh.length=q:=by rw[a.lw,O]
    by_cases b2:q<m
    ·have c1:(q:Int)<(m:Int):=by omega
     have b6:n+q<32:=by have:=u.o.2.1;omega
     have cs:IntKind.i64.wrap ((n:Int)+(q:Int))=(n:Int)+(q:Int):=by rw[OX];omega
     have HN:Hid (Calls prog 50 #[.pointer (some ⟨h,0,none⟩),.int .i64 ((n:Int)+(q:Int))] wr λe w'=>∃p,e=.returned (.pointer (some ⟨p,0,none⟩))/\aO w' c (ext T wr.heap.size .free) h p (.new (n+q))/\wr.heap.size<=p/\Below wr.heap.size wr w'):=Z1 (by
      have:=GG wr c u.o.2.2.2.1 T h (.new c) a.g (n+q) b6;rw[Int.natCast_add]at this;exact this)
     have l:=Z2 a s;clear a s X ai;go_wp2_with fail;refine HN.o.mono ?_;rintro e4 w4 ⟨p,rfl,aj,a1,x⟩;have B:aO w4 c T h p (.new (n+q)):=by
      rw[yA HT.o.2.1 l.o.1.size]at aj;exact aj
     have d:=l.o.1.up x;have a2:=d.I7;have F:=d.B0;have a3:=d.size;rw[D]at a2 F;rw[t,O]at F;have a4:=Z3 d B a1;have b7:=Z1 (af l.o.2 x);have bi:=Z1 F;have q4:w4.cell? ⟨ep,2,none⟩=some (.slice A2 q k2):=F.cell 2;have bj:=Z1 a2;clear aj B d x F a2;go_upto_region 16 with(at_builtin;go_must (refine bZ KN (by decide) rfl (.tmp 69) (.tmp 71) rfl rfl bj.o a3 rfl rfl rfl (by simp[Value.oneCell']) (by omega) (by unfold maxLen;omega) ?_);intro v5 w5 y z;obtain⟨A5,k5,rfl,_,_⟩:=ak y;have v:=bi.o.grown z λe=>aB bj.o bi.o (by decide) e.symm;have q5:=v.cell 2;have f5:=v.frozen 2)
     have f:=a4.o.1.U7 (w1:=w5) (p:=p) (A':=A5) (k':=k5) (by rw[D];exact z) (by rw[D];exact y);rw[D]at f;clear y z v q5 f5 q4;generalize w5.setCell ⟨ep,2,none⟩ (.slice A5 (q+1) k5)=w6 at*;have a5:=f.1.row;have Q:=f.1.B0;have bt:=f.1.size;rw[t,O]at a5 Q;have q6:w6.cell? ⟨ep,1,none⟩=some (.slice A1 (n+q) k1):=Q.cell 1;have bk:=Z1 Q;have bl:=Z1 a5;have HA:=Z1 f;have HF:=Z3 t O D;clear f a5 Q t O D a3
     go_wp2_with (at_builtin;go_must (refine bZ vL (by decide) rfl (.tmp 79) (.tmp 82) rfl rfl bl.o bt rfl rfl rfl (by simp[Value.oneCell']) (by omega) (by unfold maxLen;omega) ?_);intro v7 w7 a6 a7;obtain⟨A7,k7,rfl,_,_⟩:=ak a6;have a8:=bk.o.grown a7 λe=>aB bl.o bk.o (by decide) e.symm;have q7:=a8.cell 1;have f7:=a8.frozen 1)
     have al:=HA.o.1.U8 (w1:=w7) (HA.o.2.1 _ _ a4.o.2.1) (λhm=>l.o.1.fresh a4.o.2.2 hm) (A':=A7) (k':=k7) (by rw[HF.o.1,HF.o.2.1];exact a7) (by rw[HF.o.1,HF.o.2.1];exact a6);rw[HF.o.1,HF.o.2.1]at al;have HZ:=Z1 al;clear al a6 a7 a8 q7 f7 q6;go_roundw
     case rel=>
      refine⟨q+1,by omega,by go_num,Z1 ⟨aa,bh++[p],A7,k7,A5,k5,?_,(b7.o.trans (HA.o.2.2.mono HT.o.2.2)).trans (HZ.o.2.mono HT.o.2.2)⟩⟩;rw[KP,<-u.o.2.2.2.2];have h9:=HZ.o.1;try rw[<-u.o.2.2.2.2]at h9
      exact h9
     case measure=>simp[intOf];omega
    ·obtain rfl:q=m:=by omega
     have l:=Z3 a s t;clear a s X ai t O D;go_wp2;refine OH (results_tmp2 rfl _ _ _) rfl ⟨ep,rfl,?_,l.o.2.1⟩;exact l.o.1.done (by rw[l.o.2.2];exact u.o.2.2.2.2.symm) HT.o.2.2 HT.o.1
def kG:Array Value:=#[.slice none 0 0,I 0,I 0,.slice none 0 0,.bool false]
def yC(st sa lo hi:Int)(ps:List (List Cl))(A Ap:Option Addr)(n k np kp:Nat)(wk:Int)(hP:dv w A n ps)(hn:n<=1000000)(hwk:aq wk)(h0:cj st sa lo hi ps wk≠0):
  C 20 #[.agg #[I st,I sa,I lo,I hi],.slice A n k,I wk,.slice Ap np kp] w λr w'=>r=.returned (.tuple #[.agg kG,I (cj st sa lo hi ps wk)])/\M w w':=by
 have b:=ae (zh w (.cells #[I st,I sa,I lo,I hi] 23)) (.cells kG 38);have l:=Z1 (λW (hW:M w W)=>DJ W st sa lo hi ps A n k wk (hP.up hW) hn hwk h0);generalize cj st sa lo hi ps wk=e at*;have p:(e==0)=false:=by simpa using h0
 have d:=Z1 b;have c:=Blk.A8 (w.alloc (.cells #[I st,I sa,I lo,I hi] 23)) 38 kG (g:=w.heap.size+1) zS;have m:=Z1 c;clear hP h0 b c
 go_in
 go_wp2_with fail;refine zm (l.o _ d.o) λq a=>?_;have f:=Z1 (af d.o a);have h:=Z1 (m.o.later a);clear a
 go_wp2_with (refine zj j8 (cs:=kG) (h1:=by simp[Value.oneCell',kG]) h.o ?_;intro s i j)
 exact OH (cx j8 rfl i rfl _ rfl) rfl ⟨rfl,j.below f.o zO⟩
def tj(hp:ge c ps)(A Ap:Option Addr)(n k np kp m:Nat)(hP:dv w A n ps)(hn:ps.length+m<=32)(hn0:0<ps.length+m)(h0:cj c.st c.sa c.lo c.hi ps m=0)
  (l:List Int)(hl:∀p∈l,aq p)(hr:an w w.heap.size 1 Ap np (i64s l))(hu:np<=30000):
  C 20 #[.agg #[I c.st,I c.sa,I c.lo,I c.hi],.slice A n k,I m,.slice Ap np kp] w λr w'=>∃ve vq,r=.returned (.tuple #[.agg (pT ve vq (En.run c (.new c ps m) l) (decide (gQ c (En.run c (.new c ps m) l) 0<0))),I 0])/\
   w'.ownsRow w.heap.size 79 34 ve (En.run c (.new c ps m) l).g.ev.length (vts (En.run c (.new c ps m) l).g.ev)/\w'.ownsRow w.heap.size 58 2 vq (En.run c (.new c ps m) l).g.q.line.length (cG (En.run c (.new c ps m) l).g.q.line)/\M w w':=by
 have T:=hP.len;have z:np=l.length:=by have:=hr.len;simpa[i64s]using this
 have P:(En.new c ps m).count=ps.length+m:=by simp[En.new,En.count]
 have hi:=dI.new hp m hn;have d:=hi.run hp l (by rw[<-z];simpa[En.new]using hu);have D:=ae (zh w (.cells #[I c.st,I c.sa,I c.lo,I c.hi] 23)) (.cells kG 38);have HC:=Z1 (λW (hW:M w W)=>KQ W c hp.cfg ps A n k m (hP.up hW) hn (λp h=>(hp.each p h).1) h0);have HR:=Z1 (λW s B (hB:w.heap.size<=B) (hW:M w W) (Q:kY W c B s (.new c ps m))=>KL W c B s (.new c ps m) ps hp hi zO Q l hl Ap kp np (by have:=(hr.below hW);exact⟨this.1,λh=>by obtain⟨ad,e,h1,R⟩:=this.2 h;exact⟨ad,e,zO,R⟩⟩) (by simpa[En.new]using hu));have HO:=Z1 (λW s B (Q:kY W c B s (En.run c (.new c ps m) l))=>yz W c B s _ ps hp d.1 (by have:=d.2.1;simp[En.new]at this ⊢;omega) (by rw[d.2.2.1];omega) Q);have U:=Z1 D;have F:=Blk.A8 (w.alloc (.cells #[I c.st,I c.sa,I c.lo,I c.hi] 23)) 38 kG (g:=w.heap.size+1) zS;have HK:=Z1 F;generalize En.run c (.new c ps m) l=e at*;clear hP h0 D F hp hn hn0 hl hr hu T z P hi d
 go_in
 go_wp2_with fail;refine(HC.o _ U.o).mono ?_;rintro e1 w1 ⟨s,rfl,G,t⟩;have j:=Z3 (af U.o t) G (HK.o.later t);clear t G;go_wp2_with fail;refine(HR.o _ _ _ zT j.o.1 j.o.2.1).mono ?_;rintro e2 w2 ⟨⟨q,rfl⟩,H,u⟩;have i:=Z3 (j.o.1.trans (u.mono zT)) H (show Blk w2 (w.heap.size+1) 38 kG from(u.block (w.heap.size+1) zS).trans j.o.2.2);clear u H;go_upto_region 5 with fail
 go_wp2_with fail;refine(HO.o _ _ _ i.o.2.1).mono ?_;rintro e3 w3 ⟨ve,vq,rfl,L,N,v⟩;have a:=Z4 (af i.o.1 v) (aP L i.o.1.size) (aP N i.o.1.size) (i.o.2.2.later v);clear L N v;generalize O:pT ve vq e (decide (gQ c e 0<0))=S at*;have x:S.size=5/\S.all (·.oneCell')=true:=by
  rw[<-O];have h1:=ak a.o.2.1;have R:=ak a.o.2.2.1;obtain⟨_,_,rfl,_⟩:=h1;obtain⟨_,_,rfl,_⟩:=R;exact⟨rfl,by simp[pT,Value.oneCell']⟩
 go_wp2_with (refine zj j8 (cs:=S) (hn:=x.1) (h1:=x.2) a.o.2.2.2 ?_;intro w9 X y)
 refine OH (cx j8 rfl X x.1 _ rfl) rfl ⟨ve,vq,by rw[O];rfl,?_,?_,y.below a.o.1 zO⟩
 ·exact y.B7.C8 a.o.2.1 λb e f=>aB a.o.2.1 a.o.2.2.2 zP (f▸e)
 ·exact y.B7.C8 a.o.2.2.1 λb e f=>aB a.o.2.2.1 a.o.2.2.2 zP (f▸e)
def ee(x:Cl):Nat:=if(x.k=1\/x.k=6)/\aH x=0 then 1 else 0
def stirsN(ps:List (List Cl)):Nat:=(ps.flatten.map ee).sum
def stepsN(c:Cg)(ps:List (List Cl)):Nat:=(ps.flatten.map λx=>(aF c x).length).sum
def mostN(c:Cg)(ps:List (List Cl))(m:Nat):Nat:=stepsN c ps+16*stirsN ps+6*m
def finL(c:Cg)(ps:List (List Cl))(m:Nat)(raw:List Int):List Int:=(cD (ps.length+m) raw (mostN c ps m+1)).1
def j9(c:Cg)(ps:List (List Cl))(m:Nat)(raw:List Int):En:=.run c (.new c ps m) (finL c ps m raw)
def kb(l:List Vt)(k:K2):Option Adv:=(l.reverse.find? λx=>x.kind=6/\x.key=k).map (·.E0)
def awC:Cg:=⟨2,4,4,2⟩
def awI:ByteArray:=⟨#[97]⟩
def awP:List (List Cl):=[[⟨6,awI,0,0,0,1,10,100,100,5,3⟩,⟨1,awI,1,250,0,0,0,0,0,0,0⟩]]
end Go.Fw
