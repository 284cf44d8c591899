/- Lemmas of this claim. Conditions: as each says. -/
import Derived.Test.YtpfmpaolgmoajaaGreatS05
import Derived.Test.YtpfmpaolgmoajaaGreatS07
set_option linter.unusedVariables false
set_option linter.unusedSimpArgs false
set_option maxHeartbeats 4000000
set_option maxRecDepth 20000
set_option linter.defProp false
open Go.Proofs.Tryz
namespace Go.Fw
open Go.Proofs Go.RowKit
variable {t:Int}(s:ByteArray)(w:World)(n:Nat)(l:List Adv)(k:K2)
structure Cg where
 st:Nat
 sa:Nat
 lo:Nat
 hi:Nat
 deriving DecidableEq
def Cg.ok(c:Cg):Prop:=cA c.st c.sa c.lo c.hi=true
def Cg.cells(c:Cg):List Value:=[I c.st,I c.sa,I c.lo,I c.hi]
def Cg.val(c:Cg):Value:=.agg #[I c.st,I c.sa,I c.lo,I c.hi]
structure Ld where
 D2:List Smp
 C0:List Adv
 D8:Pl
 E9:Bool
 deriving DecidableEq
def Ld.new:Ld:=⟨[],[],.zero,false⟩
structure Mp where
 ls:List (K2×Ld)
 B9:List (Option (List (K2×Ld)))
 over:Bool
 deriving DecidableEq
def Mp.new:Mp:=⟨[],[],false⟩
def aH(x:Cl):Int:=
 if x.k=1 then(if bd x.id=true then bG x.tick x.value else 2)
 else if x.k=2 then bG x.tick 0
 else if x.k=5 then idE x.id
 else if x.k=6 then(if bd x.id=true then(if x.D8.right=true then 0 else 7)else 2)
 else if x.k=7 then idE x.id
 else if x.k=3\/x.k=4\/x.k=8 then 0 else 14
def sA{α:Type}(c:Cg)(l:List (K2×α))(k:K2):Nat:=(l.filter λe=>gg e.1 c.st==gg k c.st).length
def dR(c:Cg)(m:Mp)(k:K2):Option Ld:=
 match ap m.ls k with
 |some x=>some x
 |none=>if c.lo<=sA c m.ls k then none else some .new
def liveN{α:Type}(l:List (Option α)):Nat:=(l.filter Option.isSome).length
def findE{α:Type}(l:List (Option α))(n:Int):Int:=if n<1\/(l.length:Int)<n then 5 else if(l.getD (n.toNat-1) none).isNone=true then 8 else 0
def eP(t:Int)(x:Ld):Ld:={x with D2:=x.D2.filter λs=>decide (t<=s.tick)}
def mg(c:Cg)(x:Ld)(t v:Int):Ld:={x with D2:=fV c.sa x.D2 ⟨t,v⟩}
def mh(x:Ld)(p:Pl):Ld:={x with D8:=p,E9:=true}
def iF(l:List Adv):Adv:=l.getLast?.getD az
def jH(h:Nat)(l:List Adv)(a:Adv):List Adv:=if h<l.length+1 then(l++[a]).drop 1 else l++[a]
def jI(c:Cg)(x:Ld)(a:Adv):Ld:={x with C0:=jH c.hi x.C0 a}
def doM(c:Cg)(m:Mp)(x:Cl):Mp×Rp:=
 if aH x≠0 then(m,.of (aH x))
 else if x.k=1 then
  match dR c m (av x.id)with
  |none=>(m,.of 6)
  |some y=>({m with ls:=aR m.ls (av x.id) (mg c y x.tick x.value)},.zero)
 else if x.k=2 then({m with ls:=m.ls.map λe=>(e.1,eP x.tick e.2)},.zero)
 else if x.k=3 then
  if 64<=liveN m.B9 then(m,.of 6)else({m with B9:=m.B9++[some m.ls]},⟨0,m.B9.length+1,m.B9.length+1,.zero,az⟩)
 else if x.k=4 then
  if findE m.B9 x.handle=0 then({m with B9:=m.B9.set (x.handle.toNat-1) none},.zero)else(m,.of (findE m.B9 x.handle))
 else if x.k=5 then
  if findE m.B9 x.handle=0 then
   match ap ((m.B9.getD (x.handle.toNat-1) none).getD []) (av x.id)with
   |none=>(m,.of 5)
   |some y=>(m,⟨0,x.handle,0,atF y.D2 x.tick x.value,az⟩)
  else(m,.of (findE m.B9 x.handle))
 else if x.k=6 then
  match dR c m (av x.id)with
  |none=>(m,.of 6)
  |some y=>({m with ls:=aR m.ls (av x.id) (mh y x.D8)},.zero)
 else if x.k=7 then
  match ap m.ls (av x.id)with
  |none=>(m,.of 5)
  |some y=>(m,⟨0,0,0,.zero,iF y.C0⟩)
 else if m.over=true then(m,.of 9)else({m with over:=true},.zero)
def eo(c:Cg)(m:Mp)(k:K2)(a:Adv):Mp×Bool:=
 match ap m.ls k with
 |none=>(m,false)
 |some y=>({m with ls:=aR m.ls k (jI c y a)},true)
def cd(c:Cg)(m:Mp)(e:Vt):Mp×Bool:=
 if e.kind=2 then((doM c m e.call).1,decide ((doM c m e.call).2=e.rep))
 else if e.kind=6 then eo c m e.key e.E0
 else(m,true)
def fK(c:Cg)(l:List Vt):Mp:=l.foldl (λm e=>(cd c m e).1) .new
structure Ld.C6(c:Cg)(x:Ld):Prop where
 sorted:ea x.D2
 E5:x.D2.length<=c.sa
 right:∀s∈x.D2,(0<=s.tick/\s.tick<=9223372036854775807)/\(0<=s.value/\s.value<=9223372036854775807)
 C0:x.C0.length<=c.hi
 advs:∀a∈x.C0,a.ok
 L0:x.D8.ok
 D8:x.E9=true->x.D8.right=true
structure Qm where
 line:List K2
 C5:List K2
 busy:List K2
 over:Bool
 deriving DecidableEq
def Qm.zero:Qm:=⟨[],[],[],false⟩
def fu(l:List K2)(k:K2):List K2:=if k∈l then l else l++[k]
def ib(l:List K2)(k:K2):List K2:=l.filter λe=>!decide (e=k)
def Qm.add(q:Qm)(k:K2):Qm×Bool:=
 if q.over=true\/k∈q.C5 then(q,false)
 else if k∈q.busy then({q with C5:=fu q.C5 k},false)
 else({q with C5:=fu q.C5 k,line:=q.line++[k]},true)
def Qm.get(q:Qm):Qm×Option K2:=
 match q.line with
 |[]=>(q,none)
 |k::r=>({q with line:=r,C5:=ib q.C5 k,busy:=fu q.busy k},some k)
def Qm.done(q:Qm)(k:K2):Qm×Bool:=
 if k∈q.busy then
  if k∈q.C5 then({q with busy:=ib q.busy k,line:=q.line++[k]},true)else({q with busy:=ib q.busy k},false)
 else(q,false)
def bK(kd lk:Int):List (Int×Int):=[(kd,lk),(4,0),(5,lk)]
def dr(c:Cg)(kd:Int):List (Int×Int):=(List.range c.st).map λ(i:Nat)=>(kd,(i:Int))
def lineN(c:Cg):Int:=(c.st:Int)+1
def i7(c:Cg)(id:ByteArray):Int:=gg (av id) c.st
def cg(c:Cg)(x:Cl):List (Int×Int):=
 if x.k=1\/x.k=6 then bK 3 (i7 c x.id)++[(3,lineN c),(6,0),(5,lineN c)]
 else if x.k=2 then dr c 3++[(4,0)]++dr c 5
 else if x.k=3 then dr c 2++bK 3 c.st++dr c 5
 else if x.k=4 then bK 3 c.st
 else if x.k=5 then bK 2 c.st
 else if x.k=7 then bK 2 (i7 c x.id)
 else bK 3 (lineN c)
def aF(c:Cg)(x:Cl):List (Int×Int):=(1,0)::((if aH x=0 then cg c x else[])++[(7,0)])
structure Gs where
 mp:Mp
 E4:List Rf
 ln:Rf
 B3:List Int
 q:Qm
 ev:List Vt
def Rf.zero:Rf:=⟨[],[],[]⟩
def Gs.new(c:Cg):Gs:=⟨.new,List.replicate (c.st+1) .zero,.zero,[],.zero,[]⟩
def Gs.lock(g:Gs)(n:Int):Rf:=if n.toNat<g.E4.length then g.E4.getD n.toNat .zero else g.ln
def Gs.E1(g:Gs)(n:Int)(l:Rf):Gs:=if n.toNat<g.E4.length then{g with E4:=g.E4.set n.toNat l} else{g with ln:=l}
def Gs.ask(g:Gs)(n t:Int)(b:Bool):Gs×Bool:=(g.E1 n (ip (g.lock n) t b).1,(ip (g.lock n) t b).2.1)
def Gs.drop(g:Gs)(n t:Int):Gs:=g.E1 n (iH (g.lock n) t).1
def Gs.held(g:Gs)(n t:Int):Int:=bS (g.lock n) t
def Gs.F0(g:Gs):Gs:=
 match g.B3 with
 |[]=>g
 |t::r=>{g with ln:=(ip g.ln t true).1,B3:=r}
def Gs.E2(g:Gs):Gs:={g with ln:=g.B3.foldl (λl t=>(ip l t true).1) g.ln,B3:=[]}
def Gs.sleep(g:Gs)(t:Int):Gs:=if bS g.ln t=2 then{g with ln:=(iH g.ln t).1,B3:=g.B3++[t]} else g
def Gs.add(g:Gs)(k:K2):Gs:=if(g.q.add k).2=true then{g with q:=(g.q.add k).1}.F0 else{g with q:=(g.q.add k).1}
def Gs.F6(g:Gs)(k:K2):Gs:=if(g.q.done k).2=true then{g with q:=(g.q.done k).1}.F0 else{g with q:=(g.q.done k).1}
def Gs.note(g:Gs)(e:Vt):Gs:={g with ev:=g.ev++[e]}
def Gs.E6(c:Cg)(g:Gs)(x:Cl):Gs×Rp:=
 let a:={g with mp:=(doM c g.mp x).1}
 (if x.k=8/\(doM c g.mp x).2.err=0 then{a with q:={a.q with over:=true}}.E2 else a,(doM c g.mp x).2)
structure Ci where
 prog:List Cl
 task:Int
 nth:Nat
 at_:Nat
 B8:Int
 rep:Rp
def Ci.call(x:Ci):Cl:=x.prog.getD x.nth .zero
def Ci.over(x:Ci):Bool:=decide (x.prog.length<=x.nth)
def Ci.ready(g:Gs)(x:Ci):Bool:=!x.over&&(decide (x.B8<0)||decide (g.held x.B8 x.task≠0))
def Ci.event(x:Ci)(kind:Int):Vt:=⟨kind,x.task,x.nth,if kind=3 then .zero else x.call,if kind=1 then .zero else x.rep,⟨0,0⟩,az⟩
def jP(c:Cg)(ops:List (Int×Int)):Nat->Nat->Nat
 |0,a=>a
 |f+1,a=>if(ops.getD (a+1) (0,0)).2=lineN c then jP c ops f (a+3)else a
def bT(c:Cg)(g:Gs)(x:Ci):Gs×Ci:=
 let a:=aF c x.call
 let o:=a.getD x.at_ (0,0)
 let y:={x with B8:= -1}
 if o.1=1 then
  let y:={y with rep:=.of (aH x.call),at_:=x.at_+1}
  (if aH x.call=0 then g.note (y.event 1)else(g.note (y.event 1)).note (y.event 2),y)
 else if o.1=2\/o.1=3 then
  let r:=g.ask o.2 x.task (decide (o.1=3))
  (r.1,{y with B8:=if r.2=true then -1 else o.2,at_:=x.at_+1})
 else if o.1=4 then
  let r:=g.E6 c x.call
  let y:={y with rep:=r.2,at_:=x.at_+1}
  (r.1.note (y.event 2),y)
 else if o.1=5 then
  (g.drop o.2 x.task,{y with at_:=(if o.2<c.st/\x.rep.err≠0 then jP c a a.length x.at_ else x.at_)+1})
 else if o.1=6 then(g.add (av x.call.id),{y with at_:=x.at_+1})
 else if o.1=7 then(g.note (y.event 3),{y with nth:=x.nth+1,at_:=0})
 else(g,{y with at_:=x.at_+1})
structure Wi where
 task:Int
 B6:Nat
 B8:Int
 B3:Bool
 key:K2
 D9:Ld
 E0:Adv
 done:Nat
def Wi.over(x:Wi):Bool:=decide (x.B6=13)
def Wi.ready(c:Cg)(g:Gs)(x:Wi):Bool:=
 !x.over&&(if x.B3=true then decide (g.held (lineN c) x.task≠0)else decide (x.B8<0)||decide (g.held x.B8 x.task≠0))
def Wi.event(x:Wi)(kind:Int):Vt:=⟨kind,x.task,0,.zero,.zero,x.key,if kind=6 then x.E0 else az⟩
def Wi.home(c:Cg)(x:Wi):Int:=gg x.key c.st
def ic(g:Gs)(x:Wi)(lock:Int)(b:Bool)(next:Nat):Gs×Wi:=
 ((g.ask lock x.task b).1,{x with B8:=if(g.ask lock x.task b).2=true then x.B8 else lock,B6:=next})
def aM(c:Cg)(g:Gs)(x:Wi):Gs×Wi:=
 let y:={x with B8:= -1,B3:=false}
 if x.B6=0 then ic g y (lineN c) true 1
 else if x.B6=1 then
  match g.q.get with
  |(q,some k)=>let y:={y with key:=k,B6:=2};({g with q:=q}.note (y.event 4),y)
  |(_,none)=>if g.q.over=true then(g,{y with B6:=12})else(g.sleep x.task,{y with B3:=true,B6:=1})
 else if x.B6=2 then(g.drop (lineN c) x.task,{y with B6:=3})
 else if x.B6=3 then ic g y (x.home c) false 4
 else if x.B6=4 then let y:={y with D9:=(ap g.mp.ls x.key).getD .new,B6:=5};(g.note (y.event 5),y)
 else if x.B6=5 then(g.drop (x.home c) x.task,{y with B6:=6})
 else if x.B6=6 then
  if x.D9.E9=true/\fW x.D9.D8 x.D9.D2=0 then(g,{y with E0:=od x.D9.D8 x.D9.D2 x.D9.C0,B6:=7})else(g,{y with B6:=10})
 else if x.B6=7 then ic g y (x.home c) true 8
 else if x.B6=8 then let y:={y with B6:=9};({g with mp:=(eo c g.mp x.key x.E0).1}.note (y.event 6),y)
 else if x.B6=9 then(g.drop (x.home c) x.task,{y with B6:=10})
 else if x.B6=10 then ic g y (lineN c) true 11
 else if x.B6=11 then((g.note (y.event 7)).F6 x.key,{y with done:=x.done+1,B6:=14})
 else if x.B6=12 then(g.drop (lineN c) x.task,{y with B6:=13})
 else(g.drop (lineN c) x.task,{y with B6:=0})
structure En where
 g:Gs
 cs:List Ci
 ws:List Wi
 used:Nat
def Ci.new(p:List Cl)(t:Nat):Ci:=⟨p,t,0,0, -1,.zero⟩
def Wi.new(t:Nat):Wi:=⟨t,0, -1,false,⟨0,0⟩,.new,az,0⟩
def En.new(c:Cg)(ps:List (List Cl))(n:Nat):En:=⟨.new c,ps.mapIdx λi p=>.new p i,(List.range n).map λi=>.new (ps.length+i),0⟩
def En.count(e:En):Nat:=e.cs.length+e.ws.length
def En.ready(c:Cg)(e:En)(t:Nat):Bool:=
 if t<e.cs.length then(match e.cs[t]? with|some x=>x.ready e.g|none=>false)else(match e.ws[t-e.cs.length]? with|some x=>x.ready c e.g|none=>false)
def En.go(c:Cg)(e:En)(t:Nat):En:=
 if t<e.cs.length then
  match e.cs[t]? with
  |some x=>{e with g:=(bT c e.g x).1,cs:=e.cs.set t (bT c e.g x).2,used:=e.used+1}
  |none=>e
 else match e.ws[t-e.cs.length]? with
  |some x=>{e with g:=(aM c e.g x).1,ws:=e.ws.set (t-e.cs.length) (aM c e.g x).2,used:=e.used+1}
  |none=>e
def pickN(pick:Int)(n:Nat):Nat:=(pick%(n:Int)).toNat
def fM(r:Nat->Bool)(at_ n:Nat):Nat->Nat->Option Nat
 |0,_=>none
 |f+1,i=>if r ((at_+i)%n)=true then some ((at_+i)%n)else fM r at_ n f (i+1)
def En.next(c:Cg)(e:En)(pick:Int):Option Nat:=fM (e.ready c) (pickN pick e.count) e.count e.count 0
def En.step(c:Cg)(e:En)(pick:Int):Option En:=(e.next c pick).map (e.go c)
def En.run(c:Cg):En->List Int->En
 |e,[]=>e
 |e,p::r=>match e.step c p with|some e'=>En.run c e' r|none=>e
def xg(A B:Obj):(w.alloc A).alloc B=Sort.grow (w.drewN 0) #[A,B]:=by
 obtain⟨h,a,b,c,d⟩:=w;unfold World.alloc Sort.grow World.drewN;simp only[Qt];congr 1
def uL(x y:K2)(w:World):
  C 124 #[x.val,y.val] w λe w'=>e=.returned (I (bM x y))/\∃q os',w'=Sort.grow (w.drewN q) os':=by
 obtain⟨a,c⟩:=x;obtain⟨b,d⟩:=y;have l:Hid (∃q' os',((w.alloc (.cells #[E a,E c] 58)).alloc (.cells #[E b,E d] 58))=Sort.grow (w.drewN q') os'):=Z1 ⟨0,_,xg w _ _⟩;unfold K2.val K2.arr;simp only;have r:Hid (bM ⟨a,c⟩ ⟨b,d⟩=if a=b/\c=d then 0 else if a<b\/(a=b/\c<d)then -1 else 1):=Z1 (by unfold bM;simp);obtain⟨q,s,A⟩:∃q:Bool,(a==b&&c==d)=q/\∀w,(binOp .eql 58 (.agg #[E a,E c]) (.agg #[E b,E d])).run prog w=.ok (.bool q) w:=⟨_,rfl,qj _ _ _ _⟩;have t:=Z1 s;clear s
 cases q with
 |true=>
  have j:Hid (bM ⟨a,c⟩ ⟨b,d⟩=0):=Z1 (by rw[r.o,OB (by have:=t.o;simpa using this)])
  go_in
  go_wp2;go_ret;exact⟨aC j.o.symm,l.o⟩
 |false=>
  have u:¬(a=b/\c=d):=by have:=t.o;simpa using this
  have z:Hid (bM ⟨a,c⟩ ⟨b,d⟩=if a<b\/(a=b/\c<d)then -1 else 1):=Z1 (by rw[r.o,Oz u]);clear r u;have n:(a<b/\bM ⟨a,c⟩ ⟨b,d⟩= -1)\/(¬a<b/\a=b/\c<d/\bM ⟨a,c⟩ ⟨b,d⟩= -1)\/(¬a<b/\a=b/\¬c<d/\bM ⟨a,c⟩ ⟨b,d⟩=1)\/(¬a<b/\¬a=b/\bM ⟨a,c⟩ ⟨b,d⟩=1):=by
   rw[z.o];by_cases f:a<b
   ·exact .inl ⟨f,OB (.inl f)⟩
   ·by_cases g:a=b
    ·by_cases k:c<d
     ·exact .inr (.inl ⟨f,g,k,OB (.inr ⟨g,k⟩)⟩)
     ·exact .inr (.inr (.inl ⟨f,g,k,Oz (by rintro(h|⟨_,h⟩)<;>contradiction)⟩))
    ·exact .inr (.inr (.inr ⟨f,g,Oz (by rintro(h|⟨h,_⟩)<;>contradiction)⟩))
  rcases n with⟨f,i⟩|⟨f,g,k,i⟩|⟨f,g,k,i⟩|⟨f,g,i⟩
  ·have m:decide (a<b)=true:=by simpa using f
   have j:=Z1 i;clear f i
   go_in
   go_wp2;go_ret;exact⟨aC j.o.symm,l.o⟩
  ·have m:decide (a<b)=false:=by simpa using f
   have p:(a==b)=true:=by simpa using g
   have v:decide (c<d)=true:=by simpa using k
   have j:=Z1 i;clear f g k i
   go_in
   go_wp2;go_ret;exact⟨aC j.o.symm,l.o⟩
  ·have m:decide (a<b)=false:=by simpa using f
   have p:(a==b)=true:=by simpa using g
   have v:decide (c<d)=false:=by simpa using k
   have j:=Z1 i;clear f g k i
   go_in
   go_wp2;go_ret;exact⟨aC j.o.symm,l.o⟩
  ·have m:decide (a<b)=false:=by simpa using f
   have p:(a==b)=false:=by simpa using g
   have j:=Z1 i;clear f g i
   go_in
   go_wp2;go_ret;exact⟨aC j.o.symm,l.o⟩
def LR(hs:s.size<=maxLen)(h:bd s=false):
  C 18 #[.string s] w (J (.tuple #[.agg #[E 0,E 0],I 2]) w):=by
 have c:=λW=>dN s hs W;rw[jz h]at c;have j:=Z1 c;clear c h
 go_in
 go_wp2_with (go_at_call 62;refine(j.o _).mono ?_;rintro e l ⟨rfl,b⟩;have a:=Blk.later (Blk.A8 w 58 #[E 0,E 0] rfl) b;have m:=a.frozen 0;have n:=a.frozen 1;have p:=(ao a).1;have q:=(ao a).2;have d:=(a.B4 0 (E 0)).B4 1 (E 0);have f:=d.cell 1;have g:=(a.B4 0 (E 0)).cell 0;simp at g f;have i:=Z1 b;clear a d b)
 have k:=af (zh w _) i.o;exact OH (v:=.tuple #[.agg #[E 0,E 0],I 2]) (by simp[results,results18,go_sem,g,f]) rfl ⟨rfl,(k.setCell zS _).setCell zS _⟩
def Bw(l:List Nat)(c:Int)(n u:Nat)(hl:∀c∈l,c<64)(hn:l.length=n)(h10:n<10)(hc:0<=c/\c<=39)(hu:u=6*(9-n)):
  bits BinOp.or IntKind.u64 (halfN l:Int) (IntKind.u64.wrap (c*2^u))=(halfN (l++[c.toNat]):Int):=by
 obtain⟨k,rfl⟩:=Rh hc.1;have b:k<=39:=zO;have a:(2:Nat)^u=64^(9-n):=by rw[hu,Nat.pow_mul]
 have d:(64:Nat)^(9-n)<=64^9:=Rb zP zO;have f:=Nat.mul_le_mul b d;have e:(k:Int)*2^u=((k*64^(9-n):Nat):Int):=by rw[<-a];push_cast;rfl
 rw[e,Em ⟨zO,zO⟩,On _ _ (Nat.lt_trans (rq l hl zO) zP) zO,PH,<-hn,Is l k zO zO]
def Jl{s:ByteArray}{k:Nat}(h:k<s.size):(bq s).take (k+1)=(bq s).take k++[(bJ (s[k].toNat:Int)).toNat]:=by
 have a:k<(bq s).length:=by rw[eU];exact h
 rw[OG a];congr 2;simp[bq];rfl
def oA(h:bd s=true):
  C 18 #[.string s] w (J (.tuple #[.agg #[.int .u64 (av s).hi,.int .u64 (av s).lo],.int .i64 0]) w):=by
 obtain⟨s1,s2,s3⟩:=dn h;have X:=λW=>dN s zU W;rw[lT h]at X;have HC:=Z1 X;have H3:=Z1 s3;have N:=Z1 (eU s);clear X h s3
 go_in
 go_wp2_with (go_at_call 62;refine(HC.o _).mono ?_;rintro e b ⟨rfl,t⟩;have n:Hid (Blk b w.heap.size 58 #[.int .u64 0,.int .u64 0]/\M w b):=Z1 ⟨Blk.later (Blk.A8 w 58 #[.int .u64 0,.int .u64 0] rfl) t,af (zh w _) t⟩;clear t)
 have O:=n.o.2.size;have a6:=n.o.1.lt;go_loopw [] (λwr=>∃(a:Nat),a<=s.size/\wr.heap[b.heap.size+1]?=some (.stringIter s a)/\Hid (M w wr/\Blk wr w.heap.size 58 #[.int .u64 0,.int .u64 0]/\Blk wr b.heap.size 58 #[.int .u64 (halfN ((bq s).take a |>.take 10):Int),.int .u64 (halfN ((bq s).take a |>.drop 10):Int)])) (λwr=>s.size-wr.iterPos (b.heap.size+1))
 case atStart=>
  refine⟨0,zO,by have:=World.iter_heap (b.alloc (.cells #[.int .u64 0,.int .u64 0] 58)) s 0;simpa using this,Z1 ⟨ae (ae n.o.2 _) _,(n.o.1.alloc _).alloc _,?_⟩⟩;have x:∀l:List Nat,l=[]->(halfN l:Int)=0:=λl h=>by subst h;rfl
  rw[x _ zS,x _ zS];exact(Blk.A8 b 58 #[.int .u64 0,.int .u64 0] rfl).alloc _
 case round=>
  obtain⟨a,hp,j,g⟩:=hrel;have p:=jy j;have HP:=Z1 p;clear p;by_cases hlt:a<s.size
  ·have ak:=H3.o a hlt;have ha:(s[a]'hlt).toNat<128:=by
    rcases Nat.lt_or_ge (s[a]'hlt).toNat 128 with h|h
    ·exact h
    ·exact absurd (pm zO) ak
   have al:∀m,(Instr.next (Z (b.heap.size+1) 0) true m).run prog wr=_:=λm=>Lib.run_next_ascii_at wr (b.heap.size+1) s a m j hlt ha;have A:=Lib.iterAt_heap wr (b.heap.size+1) s a (a+1) j;have P:=Lib.below_iterAt g.o.1 (k:=b.heap.size+1) zO s (a+1);have Q:Blk (wr.iterAt (b.heap.size+1) s (a+1)) w.heap.size _ _:=(Lib.iterAt_other wr (b.heap.size+1) w.heap.size s (a+1) zO).trans g.o.2.1;have R:Blk (wr.iterAt (b.heap.size+1) s (a+1)) b.heap.size _ _:=(Lib.iterAt_other wr (b.heap.size+1) b.heap.size s (a+1) zO).trans g.o.2.2;have d:=Z4 A P Q R;have ci:=ik ((s[a]'hlt).toNat:Int);have S:=Z1 (λW=>nV ((s[a]'hlt).toNat:Int) W zO zO);have B:=Jl hlt;generalize bJ ((s[a]'hlt).toNat:Int)=r at*;have q:=Z1 B;have T:((bq s).take a).length=a:=by rw[PG,N.o];omega
   have f:=Z1 T;clear B T;clear A P Q R j;by_cases U:a<10
   ·have hm:a%10=a:=QE U;have an:(a:Int)%10=a:=zO;have aa:(a:Int)<10:=zO;obtain⟨u,D⟩:∃u:Nat,u=6*(9-a):=⟨_,rfl⟩;have ap:6*(9-(a:Int))=(u:Int):=zO;have ab:u<=54:=zO;have x:((bq s).take a).take 10=(bq s).take a:=OT (by rw[f.o];omega);have F:((bq s).take (a+1)).take 10=(bq s).take a++[r.toNat]:=by rw[q.o];exact OT (by simp[f.o];omega)
    have G:((bq s).take (a+1)).drop 10=((bq s).take a).drop 10:=by
     rw[Pt (by rw[q.o];simp[f.o];omega),Pt (by rw[f.o];omega)]
    have aq:=Bw ((bq s).take a) r a u (λc hc=>jr s c (Qb hc)) f.o U ci D;have H:=Z2 F G;rw[x]at d;clear D x F G;go_wp2;generalize wr.iterAt (b.heap.size+1) s (a+1)=W at*;have c0:=(ao d.o.2.2.2).1;have c1:=(ao d.o.2.2.2).2;have f0:=d.o.2.2.2.frozen 0;have f1:=d.o.2.2.2.frozen 1;generalize L:(halfN ((bq s).take a++[r.toNat]):Int)=y at*;have HY:=Z1 L;clear L;refine zb 8 ?_;iterate 3 still_step
    still_call ((S.o _).mono λ_ _ h=>⟨h.1,h.2.symm⟩);repeat still_step
    refine wpStill_nil ?_;go_wp2;have i:(W.setCell (Y b.heap.size 0) (.int .u64 y)).heap[b.heap.size+1]?=some (.stringIter s (a+1)):=(Pd W (Y b.heap.size 0) _ _ zS).trans d.o.1;go_roundw
    case rel=>
     refine⟨a+1,zO,i,Z1 ⟨fd (d.o.2.1.setCell (by simpa using O) _) 1,(d.o.2.2.1.D1 zT _).drew,?_⟩⟩;rw[H.o.1,H.o.2,HY.o];have hb:=d.o.2.2.2.B4 0 (.int .u64 y);refine Blk.drew ?_
     simpa using hb
    case measure=>rw[jy (w:=(W.setCell (Y b.heap.size 0) (.int .u64 y)).drew) i,HP.o];omega
   ·have an:(a:Int)%10=a-10:=zO;have aa:¬(a:Int)<10:=zO;obtain⟨u,D⟩:∃u:Nat,u=6*(9-(a-10)):=⟨_,rfl⟩;have ap:6*(9-((a:Int)-10))=(u:Int):=zO;have ab:u<=54:=zO;have F:((bq s).take (a+1)).take 10=((bq s).take a).take 10:=by
     rw[q.o,QN (by rw[f.o];omega)]
    have G:((bq s).take (a+1)).drop 10=((bq s).take a).drop 10++[r.toNat]:=by
     rw[q.o,List.drop_append_of_le_length (by rw[f.o];omega)]
    have aq:=Bw (((bq s).take a).drop 10) r (a-10) u (λc hc=>jr s c (Qb (PN hc))) (by rw[PW,f.o]) zO ci D;have H:=Z2 F G;clear D F G;go_wp2;generalize wr.iterAt (b.heap.size+1) s (a+1)=W at*;have c0:=(ao d.o.2.2.2).1;have c1:=(ao d.o.2.2.2).2;have f0:=d.o.2.2.2.frozen 0;have f1:=d.o.2.2.2.frozen 1;generalize L:(halfN (((bq s).take a).drop 10++[r.toNat]):Int)=y at*;have HY:=Z1 L;clear L;refine zb 8 ?_;iterate 3 still_step
    still_call ((S.o _).mono λ_ _ h=>⟨h.1,h.2.symm⟩);repeat still_step
    refine wpStill_nil ?_;go_wp2;have i:(W.setCell (Y b.heap.size 1) (.int .u64 y)).heap[b.heap.size+1]?=some (.stringIter s (a+1)):=(Pd W (Y b.heap.size 1) _ _ zS).trans d.o.1;go_roundw
    case rel=>
     refine⟨a+1,zO,i,Z1 ⟨fd (d.o.2.1.setCell (by simpa using O) _) 1,(d.o.2.2.1.D1 zT _).drew,?_⟩⟩;rw[H.o.1,H.o.2,HY.o];have hb:=d.o.2.2.2.B4 1 (.int .u64 y);refine Blk.drew ?_
     simpa using hb
    case measure=>rw[jy (w:=(W.setCell (Y b.heap.size 1) (.int .u64 y)).drew) i,HP.o];omega
  ·obtain rfl:a=s.size:=zO;have al:∀m,(Instr.next (Z (b.heap.size+1) 0) true m).run prog wr=_:=λm=>Lib.run_next_end_at wr (b.heap.size+1) s s.size m j hlt;have hf:=OT (by rw[N.o];omega);rw[hf]at g;have az:Hid (av s=⟨(halfN ((bq s).take 10):Int),(halfN ((bq s).drop 10):Int)⟩):=Z1 rfl;generalize (halfN ((bq s).take 10):Int)=y at*;generalize (halfN ((bq s).drop 10):Int)=z at*;have c0:=(ao g.o.2.2).1;have c1:=(ao g.o.2.2).2;have f0:=g.o.2.1.frozen 0;have f1:=g.o.2.1.frozen 1;have g0:=(ao g.o.2.1).1;have g1:=(ao g.o.2.1).2;have z1:=g.o.2.1.B4 0 (.int .u64 y);have z2:=z1.B4 1 (.int .u64 z);have z3:=z1.cell 0;have z4:=z2.cell 1;simp at z3 z4;clear z1 z2 hf j;go_wp2;rw[az.o];exact OH (v:=.tuple #[.agg #[.int .u64 y,.int .u64 z],.int .i64 0]) (by simp[results,results18,go_sem,z3,z4]) rfl ⟨rfl,(g.o.1.setCell zS _).setCell zS _⟩
def Ll(m u j:Nat)(hm:m<18446744073709551616)(hu:u=6*(9-j)):bits BinOp.and IntKind.u64 ((m:Int)/2^u) 63=((m/64^(9-j)%64:Nat):Int):=by
 have a:(2:Nat)^u=64^(9-j):=by rw[hu,Nat.pow_mul]
 have b:(m:Int)/2^u=((m/64^(9-j):Nat):Int):=by rw[<-a];push_cast;rfl
 rw[b,NT _ (Nat.lt_of_le_of_lt (Nat.div_le_self _ _) hm)]
def Mn(i:Nat)(w:World)(hk:k.ok)(hi:i<20):
  C 82 #[k.val,I i] w (J (E (atN k i)) w):=by
 obtain⟨x,z⟩:=k;obtain⟨⟨p,t⟩,q,v⟩:=hk;simp only at p t q v;obtain⟨m,rfl⟩:=Rh p;obtain⟨a,rfl⟩:=Rh q;have j:m<18446744073709551616:=zO;have b:a<18446744073709551616:=zO;have h:Hid (atN ⟨(m:Int),(a:Int)⟩ i=(if i<10 then m else a)/64^(9-i%10)%64):=Z1 (by unfold atN;simp);unfold K2.val K2.arr;simp only;by_cases c:i<10
 ·obtain⟨u,d⟩:∃u:Nat,u=6*(9-i):=⟨_,rfl⟩;have r:6*(9-(i:Int))=(u:Int):=zO;have l:u<=54:=zO;have s:(i:Int)%10=i:=zO;have n:¬10<=(i:Int):=zO;have f:=Ll m u i j d;have g:Hid (atN ⟨(m:Int),(a:Int)⟩ i=m/64^(9-i)%64):=Z1 (by rw[h.o,OB c,QE c]);rw[<-g.o]at f;clear h g d j b;generalize atN ⟨(m:Int),(a:Int)⟩ i=y at*
  go_in
  go_wp2;go_ret;exact⟨rfl,ae (Oy _ _) _⟩
 ·obtain⟨u,d⟩:∃u:Nat,u=6*(9-(i-10)):=⟨_,rfl⟩;have r:6*(9-((i:Int)-10))=(u:Int):=zO;have l:u<=54:=zO;have s:(i:Int)%10=i-10:=zO;have n:10<=(i:Int):=zO;have f:=Ll a u (i-10) b d;have g:Hid (atN ⟨(m:Int),(a:Int)⟩ i=a/64^(9-(i-10))%64):=Z1 (by rw[h.o,Oz c,show i%10=i-10 by omega]);rw[<-g.o]at f;clear h g d j b;generalize atN ⟨(m:Int),(a:Int)⟩ i=y at*
  go_in
  go_wp2;go_ret;exact⟨rfl,ae (Oy _ _) _⟩
def Nx:cE prog 181 5 (.int .u8 0) 1 1:=⟨underlying181,zR,rfl⟩
def De(h:bd s=true):
  C 36 #[(av s).val] w (J (.tuple #[.string s,.bool true]) w):=by
 obtain⟨s1,R,S⟩:=dn h;have HP:=Z1 (λW=>oA s W h);have T:=Z1 (λi W hi=>Mn (av s) i W (jh s R) hi);have O:=Z1 (rr s R);have U:=Z1 (eU s);have H3:=Z1 S;have t:∀x y w,(binOp .neq 58 (.agg #[E x,E y]) (.agg #[E x,E y])).run prog w=.ok (.bool false) w:=by
  intro x y w;have hp:prog.stoodInHeld 58=false:=zR;rw[run_neq_struct,run_equalIn_agg w 9999 58 _ _ (by simp only[Program.fieldsOf,underlying58]) hp];simp only[Program.fieldsOf,underlying58];simp[Op.eqFields,go_sem,underlying56]
 have X:=Z1 t;clear h S t;generalize aa:av s=k at*;obtain⟨g,j⟩:=k;have b0:=Blk.A8 w 58 #[E g,E j] rfl;have F:Hid (Blk _ w.heap.size _ _/\M w _):=Z1 ⟨b0,zh w (.cells #[E g,E j] 58)⟩;clear b0 aa;unfold K2.val K2.arr at*;simp only at*
 go_in
 go_wp2;go_loopw [4,9] (λv i wr=>∃(k:Nat),k<=20/\i=I k/\∃(A:Option Addr) (c n:Nat),v=.slice A n c/\n=min k s.size/\Hid (Blk wr w.heap.size 58 #[E g,E j]/\aL 1 w wr 5 v n (bys (s.data.toList.take k)))) (λ_ i _=>20-(intOf i).toNat)
 case atStart=>exact⟨0,zO,rfl,none,0,0,rfl,zO,Z1 ⟨F.o.1,aL.L8 1 F.o.2 _⟩⟩
 case round=>
  obtain⟨k,hk,rfl,A,c,n,rfl,B,b⟩:=hrel;have HN:=Z1 B;have g0:=(ao b.o.1).1;have g1:=(ao b.o.1).2;by_cases G:k<20
  ·have l:=O.o k G;have D:=Z1 (λW=>T.o k W G);by_cases m:k<s.size
   ·have p:(bq s).getD k 0=(bJ (s[k].toNat:Int)).toNat:=by
     simp[bq,List.getD,m];rfl
    rw[p]at l;have h3:=H3.o k m;have a8:=ik (s[k].toNat:Int);have ad:=Z1 (λW=>CB s[k] W h3);have q:(atN ⟨g,j⟩ k:Int)=bJ (s[k].toNat:Int):=by rw[l];omega
    have u:s.data.toList.take (k+1)=s.data.toList.take k++[s.data.toList[k]'(by simpa using m)]:=OG (by simpa using m);have hg:s.data.toList[k]'(by simpa using m)=s[k]:=rfl;rw[hg]at u;generalize bJ (s[k].toNat:Int)=cc at*;rw[q]at D;obtain rfl:n=k:=zO;have Q:=Z1 u;have c1:0<cc:=zO;have c2:¬39<cc:=zO;generalize ai:s[n]=sk at*;clear p l q u hg h3 B ai
    go_wp2_with (first|(go_at_call 82;refine(D.o _).mono ?_;rintro e w1 ⟨rfl,a⟩;have H:=b.o.2.later a;have d:=b.o.1.later a;have f:=Z2 H d;clear H d)|(go_at_call 83;refine(ad.o _).mono ?_;rintro e w2 ⟨rfl,rfl⟩)|(at_builtin;go_must (refine bZ Nx zP rfl (.tmp 31) (.tmp 34) rfl rfl f.o.1.own f.o.1.le rfl rfl rfl zV zO zU ?_);intro v' w' L N))
    obtain⟨A2,al,rfl,_,_⟩:=ak L;have am:=f.o.1.app N L;have an:=aB f.o.1.own f.o.2 zP;have ap:=f.o.2.grown N (λe=>an e.symm);go_roundw
    case rel=>exact⟨n+1,zO,by go_num,A2,al,n+1,rfl,zO,Z1 ⟨ap,by rw[Q.o];simpa[bys]using am⟩⟩
    case measure=>simp[intOf];omega
   ·have p:(bq s).getD k 0=0:=by simp[List.getD];rw[Ps (by rw[U.o];omega)];rfl
    have q:(atN ⟨g,j⟩ k:Int)=0:=by rw[l,p];rfl
    rw[q]at D;have Q:Hid (s.data.toList.take (k+1)=s.data.toList.take k):=Z1 (by rw[OT zT,OT zT]);clear p l q B
    go_wp2_with (go_at_call 82;refine(D.o _).mono ?_;rintro e w1 ⟨rfl,a⟩;have r:=Z1 a;clear a)
    go_roundw
    case rel=>exact⟨k+1,zO,by go_num,A,c,n,rfl,by have:=HN.o;omega,Z1 ⟨b.o.1.later r.o,by rw[Q.o];exact b.o.2.later r.o⟩⟩
    case measure=>simp[intOf];omega
  ·obtain rfl:k=20:=zO;have hf:s.data.toList.take 20=s.data.toList:=OT zT;obtain rfl:n=s.size:=zO;rw[hf]at b;obtain⟨A9,c9,hv,_,_,hr⟩:=b.o.2.form;injection hv with au _ aw;subst au aw;have z:∀W,M wr W->(convert 181 9 (.slice A s.size c)).run prog W=.ok (.string s) W:=by
    intro W hb;have:=oZ (P:=prog) 181 9 5 c underlying181 underlying5 underlying9 (hr.below hb)
    simpa using this
   have ax:=Z1 z;have a6:=z wr (Oy _ _);clear z hf hr B
   go_wp2_with (go_at_call 18;refine(HP.o _).mono ?_;rintro e w1 ⟨rfl,a⟩;have t:=X.o g j;have d:=(b.o.1.later a).alloc (.cells #[E g,E j] 58);have j0:=(ao d).1;have j1:=(ao d).2;have a7:=ax.o _ (ae a (.cells #[E g,E j] 58));have r:=Z1 a;clear a d)
   go_ret2
   exact⟨rfl,ae (af b.o.2.below r.o) _⟩
section
variable {R:Rf}{g:Gs}
def cR(R:Rf)(t:Int):Option Bool:=if t∈R.wr then some true else if t∈R.rd then some false else ap R.line t
def Ms(h:t∈R.wr):bS R t=2:=OB h
def lX:bS R t=0↔t∉R.wr/\t∉R.rd:=by
 unfold bS;by_cases h:t∈R.wr
 ·simp[h]
 ·by_cases a:t∈R.rd<;>simp[h,a]
def jV:cR R t=none↔bS R t=0/\t∉R.line.map (·.1):=by
 rw[lX];unfold cR;by_cases h:t∈R.wr
 ·simp[h]
 ·by_cases a:t∈R.rd
  ·simp[h,a]
  ·rw[Oz h,Oz a,gz];simp[h,a]
def Dj(h:bS R t≠0):cR R t≠none:=λe=>h (jV.1 e).1
def Ga(hA:gh R)(h:bS R t≠0)(hc:cR R t=some true):bS R t=2:=by
 by_cases a:t∈R.wr
 ·exact Ms a
 ·by_cases b:t∈R.rd
  ·unfold cR at hc;rw[Oz a,OB b]at hc
   cases hc
  ·exact absurd (lX.2 ⟨a,b⟩) h
def Gb(u:Int):cR .zero u=none:=by simp[cR,Rf.zero,ap]
def vk{κ α:Type}[DecidableEq κ](l:List (κ×α))(x y:κ)(v:α):ap (l++[(x,v)]) y=match ap l y with|some z=>some z|none=>if x=y then some v else none:=by
 induction l with
 |nil=>simp[ap]
 |cons e r ih=>
  simp only[PY,ap];by_cases h:e.1=y
  ·simp[h]
  ·rw[Oz h,Oz h,ih]
def Gc(hA:gh R)(ht:0<=t/\t<32)(hn:cR R t=none)(b:Bool):
  cR (ip R t b).1 t=some b/\(bS (ip R t b).1 t≠0↔(ip R t b).2.1=true)/\∀u,u≠t->cR (ip R t b).1 u=cR R u/\bS (ip R t b).1 u=bS R u:=by
 obtain⟨c,e⟩:=jV.1 hn;obtain⟨d,g⟩:=lX.1 c;unfold ip;rw[Oz zO,Oz (by simp only[c];simp only[ne_eq,not_true_eq_false,false_or];exact e)];by_cases f:R.line=[]/\jL R b=true
 ·rw[OB f]
  cases b with
  |true=>
   refine⟨?_,?_,λu a=>?_⟩
   ·simp[cO,cR]
   ·simp[cO,bS]
   ·simp[cO,cR,bS,a]
  |false=>
   refine⟨?_,?_,λu a=>?_⟩
   ·simp[cO,cR,d]
   ·simp[cO,bS,d]
   ·simp[cO,cR,bS,a]
 ·rw[Oz f];refine⟨?_,?_,λu a=>?_⟩
  ·unfold cR;rw[Oz d,Oz g,vk,gz.2 e];simp
  ·have:bS {R with line:=R.line++[(t,b)]} t=0:=c;simp[this]
  ·refine⟨?_,rfl⟩;unfold cR;simp only[vk];rw[Oz (Pc a)]
   cases ap R.line u<;>rfl
def JN(ln:List (Int×Bool)):∀(rd wr:List Int),(∀t∈ln.map (·.1),t∉rd/\t∉wr)->(ln.map (·.1)).Nodup->∀u,cR (fi ln rd wr).1 u=cR ⟨rd,wr,ln⟩ u/\(bS ⟨rd,wr,[]⟩ u≠0->bS (fi ln rd wr).1 u=bS ⟨rd,wr,[]⟩ u):=by
 induction ln with
 |nil=>intro rd wr f b u;exact⟨rfl,λ_=>rfl⟩
 |cons y ln ih=>
  intro rd wr f b u;rw[fi];split
  ·simp only[Pi,QB]at b;obtain⟨g,h⟩:=f y.1 zS;have k:∀t∈ln.map (·.1),t∉(cO ⟨rd,wr,ln⟩ y).rd/\t∉(cO ⟨rd,wr,ln⟩ y).wr:=λt j=>by
    obtain⟨l,m⟩:=f t (by simp only[Pi,Pj];exact .inr j);exact uF (x:=⟨rd,wr,ln⟩) l m (λe=>b.1 (e▸j))
   obtain⟨n,o⟩:=ih _ _ k b.2 u;refine⟨n.trans ?_,λi=>?_⟩
   ·obtain⟨c,a⟩:=y;have q:=b.1;by_cases d:u=c
    ·subst d
     cases a<;>simp[cO,cR,ap,g,h,g,h]<;>simp_all
    ·cases a<;>simp[cO,cR,ap,d,Pc d]
   ·obtain⟨c,a⟩:=y;have d:u≠c:=λe=>by
     subst e;exact i (lX.2 ⟨h,g⟩)
    have p:bS ⟨(cO ⟨rd,wr,ln⟩ (c,a)).rd,(cO ⟨rd,wr,ln⟩ (c,a)).wr,[]⟩ u=bS ⟨rd,wr,[]⟩ u:=by
     cases a<;>simp[cO,bS,d]
    rw[<-p]at i ⊢;exact o i
  ·exact⟨rfl,λ_=>rfl⟩
def kB{l:List Int}{u:Int}:u∈jM l t↔u∈l/\u≠t:=by
 unfold jM;rw[Pp];simp
def Dk(hA:gh R)(hh:bS R t≠0):
  cR (iH R t).1 t=none/\∀u,u≠t->cR (iH R t).1 u=cR R u/\(bS R u≠0->bS (iH R t).1 u=bS R u):=by
 have g:t∉R.line.map (·.1):=λe=>by
  obtain⟨b,c⟩:=hA.apart t e;exact hh (lX.2 ⟨c,b⟩)
 have h:∀u∈R.line.map (·.1),u∉jM R.rd t/\u∉jM R.wr t:=λu a=>by
  obtain⟨b,c⟩:=hA.apart u a;exact⟨λe=>b (kB.1 e).1,λe=>c (kB.1 e).1⟩
 have d:=JN R.line _ _ h hA.nodup;refine⟨?_,λu a=>?_⟩
 ·unfold iH;rw[(d t).1,jV,lX];exact⟨⟨λe=>(kB.1 e).2 rfl,λe=>(kB.1 e).2 rfl⟩,g⟩
 ·unfold iH;refine⟨(d u).1.trans ?_,λf=>?_⟩
  ·simp[cR,kB,a]
  ·have i:bS ⟨jM R.rd t,jM R.wr t,[]⟩ u=bS R u:=by simp[bS,kB,a]
   rw[<-i]at f ⊢;exact(d u).2 f
def Gd:∀(l:List Int),l.Nodup->(∀x∈l,0<=x/\x<n)->l.length<=n:=by
 induction n with
 |zero=>
  intro l _ h
  cases l with
  |nil=>exact OA _
  |cons x r=>have:=h x zS;omega
 |succ n ih=>
  intro l b h;have c:=ih (l.filter λx=>x≠(n:Int)) (b.filter _) λx a=>by
   rw[Pp]at a;have f:=h x a.1;have g:x≠(n:Int):=by simpa using a.2
   omega
  have i:l.length<=(l.filter λx=>x≠(n:Int)).length+1:=by
   clear h c ih;induction l with
   |nil=>simp
   |cons x r ih=>
    rw[QB]at b;by_cases a:x=(n:Int)
    ·have e:r.filter (λx=>x≠(n:Int))=r:=by
      rw[QR];intro y d;simp only[ne_eq,decide_not,Sl,decide_eq_false_iff_not];exact λe=>b.1 (by rw[a,<-e];exact d)
     simp only[OC];rw[QP (by simp[a]),e];omega
    ·rw[QO (by simpa using a)];have:=ih b.2;simp only[OC];omega
  omega
def gh.E5(hA:gh R)(h:∀u,cR R u≠none->0<=u/\u<32):R.line.length<=32:=by
 have a:=Gd 32 (R.line.map (·.1)) hA.nodup λx b=>h x λe=>(jV.1 e).2 b
 simpa using a
def xK{s:Nat}(h:g.E4.length=s+1)(R:Rf){n m:Nat}(hn:n<s+2)(hm:m<s+2):(g.E1 n R).lock m=if m=n then R else g.lock m:=by
 unfold Gs.E1 Gs.lock;simp only[PH];by_cases b:n<g.E4.length
 ·simp only[OB b,PI];by_cases a:m<g.E4.length
  ·simp only[OB a,OP,Qo];by_cases c:m=n
   ·subst c;simp[b]
   ·simp[c,Pc c]
  ·rw[Oz a,Oz a,Oz zO]
 ·simp only[Oz b];by_cases a:m<g.E4.length
  ·rw[OB a,OB a,Oz zO]
  ·rw[Oz a,OB zO]
def xL(g:Gs)(n:Int)(R:Rf):(g.E1 n R).E4.length=g.E4.length:=by
 unfold Gs.E1;split<;>simp
def lock_ln{s:Nat}(h:g.E4.length=s+1):g.lock ((s:Int)+1)=g.ln:=by
 unfold Gs.lock;rw[Oz zO]
end
end Go.Fw
