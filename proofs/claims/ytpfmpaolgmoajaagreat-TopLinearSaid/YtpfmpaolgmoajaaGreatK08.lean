/- Lemmas of this claim. Conditions: as each says. -/
import Derived.Test.YtpfmpaolgmoajaaGreatK05
import Derived.Test.YtpfmpaolgmoajaaGreatK07
import Derived.Test.YtpfmpaolgmoajaaGreatK06
set_option linter.unusedVariables false
set_option linter.unusedSimpArgs false
set_option maxHeartbeats 4000000
set_option maxRecDepth 20000
set_option linter.defProp false
open Go.Proofs.Tryz
namespace Go.Fw
open Go.Proofs Go.RowKit
variable {s k:Nat}{x:List Ev}{t:Int}(b:Nat)(sl:Value)(l:List Smp)(room n:Nat)(w:World)
def ag.C8{L:Nat->Prop}{w w':World}(h:ag L w w'){B n:Nat}{e:TypeId}{v:Value}{xs:List Value}(hv:w.ownsRow B e s v n xs)(hL:∀k,v.ownBlock=some k->¬L k):w'.ownsRow B e s v n xs:=by
 refine⟨hv.1,?_⟩
 rcases hv.2 with a|⟨g,b,c,rfl,d,a,f⟩
 ·exact .inl a
 ·exact .inr ⟨g,b,c,rfl,d,(h.block g (Blk.lt a) (hL g rfl)).trans a,f⟩
def Id(x:Smp)(w:World)(h:eC w b sl l room)(hs:ea l)(hn:l.length<=500)(hroom:1<=room)(hrm:room<=500)(hx0:0<=x.tick)(hx1:0<=x.value)(hno:¬(placeF l x.tick<l.length/\(l.getD (placeF l x.tick) ⟨0,0⟩).tick=x.tick)):
  C 191 #[Z b 0,I x.tick,I x.value] w (tH w b sl l room x):=by
 have HR:=Z1 (λW=>iC x.tick x.value W);rw[show bG x.tick x.value=0 by unfold bG;rw[Oz zO,Oz zO]]at HR;have HP:=Z1 (λW (hW:eC W b sl l room)=>nY b sl l room x.tick W hW hs zO);have HX:Hid (fV room l x=if room<l.length+1 then(gm l (placeF l x.tick) x).drop 1 else gm l (placeF l x.tick) x):=Z1 (Oz hno);have a1:=ur l x.tick;have a2:=yT l (placeF l x.tick) x a1;have a3:∀j,sl.ownBlock=some j->j≠b:=λj G e=>by subst e;exact aB h.own h.B0 zP G
 have X:(¬placeF l x.tick<l.length)\/(placeF l x.tick<l.length/\∃(B o c:Nat) (y:Int),sl=.slice (some (Y B o)) l.length c/\B<w.heap.size/\w.cell? (Y B (o+placeF l x.tick*2))=some (I y)/\(y==x.tick)=false):=by
  by_cases r:placeF l x.tick<l.length
  ·refine .inr ⟨r,?_⟩;obtain⟨A,c,rfl,_,_⟩:=ak h.own;obtain⟨B,o,rfl,hB,T,_⟩:=il (an.C4 h.own) r;refine⟨B,o,c,_,rfl,hB,T,?_⟩;have:(l.getD (placeF l x.tick) ⟨0,0⟩)=l[placeF l x.tick]:=by simp[List.getD,r]
   rw[this]at hno;have:=λe=>hno ⟨r,e⟩
   simpa using this
  ·exact .inl r
 have HT:=Z1 X;generalize placeF l x.tick=k at*;have bc:=Z1 (λ(v:Value) (D:Nat) W (ho:W.ownsRow 0 66 2 v l.length (smps l)) (hv:Blk W D 66 #[I x.tick,I x.value]) aa=>BZ 0 l.length k v l x D W ho rfl zO a1 (OK _) hv aa);have H:=Z1 h;have bl:=Z1 a3;obtain⟨c0,c1⟩:=ao h.B0;have a4:=h.B0.lt;have ci:((room:Int)==0)=false:=zT;obtain⟨m,q⟩:=x;simp only at*;have bn:=ak h.own;obtain⟨A,c,bo,cj,bp⟩:=bn;obtain⟨s,F⟩:∃f:Nat->Prop,∀j,f j↔sl.ownBlock=some j:=⟨_,λ_=>Iff.rfl⟩;have L:=Z1 F;have bq:Hid (∀g,w.heap.size<=g->∀j,s j->j≠g):=Z1 λg hg j G=>by have:=(h.own.lt j ((F j).1 G)).2;omega
 clear F;have a5:=Z1 a2;clear hs hno h a3 X bp a2;subst bo;generalize al:l.length=n at*;have HN:=Z1 al;clear al
 rcases HT.o with r|⟨r,B,o,c',y,he,bs,T,hy⟩
 all_goals
  try (injection he with bt ck bu;subst bt bu)
  have cl:decide ((k:Int)<(n:Int))=decide (k<n):=zS
  go_in
  go_wp2_with (first|(go_at_call 139;refine(HR.o _).mono ?_;rintro e w1 ⟨rfl,rfl⟩)|(go_at_call 209;refine(HP.o _ H.o).mono ?_;rintro e w1 ⟨rfl,ap⟩;have N:=Z1 (ae ap (.cells #[I m,I q] 66));have e0:=(OF N.o (p:=Y b 0) a4).trans c0;have e1:=(OF N.o (p:=Y b 1) a4).trans c1;try (have e2:=(OF N.o (p:=Y B (o+k*2)) bs).trans T)))
  have ab:=H.o.up N.o;have ac:=Blk.A8 w1 66 #[I m,I q] rfl;have a6:=N.o;have aq:=bq.o w1.heap.size ap.size;clear c0 e0 e1 ap;try clear e2
  generalize w1.alloc (.cells #[I m,I q] 66)=W at*;generalize w1.heap.size=D at*;have U:=Z4 ab ac a6 aq;obtain⟨e0,e1⟩:=ao ab.B0;obtain⟨d0,d1⟩:=ao ac;have bx:=ab.B0.lt;have a7:=ac.lt;clear ab ac a6 aq;have hS:=(ag.refl s W).drew;have ar:¬s b:=λe=>bl.o b ((L.o b).1 e) rfl;have au:¬s D:=λe=>U.o.2.2.2 D e rfl;have fb:=U.o.1.B0.frozen 0;refine bW 9 (S:=λV=>ag s W V) zR zR hS ?_;simp only[OM,OO,ON,OQ];try simp only[zD,zE,Nat.reduceAdd,zG]
  refine zL ?_;refine zq 4 ?_ (λW hW=>?_) ?_;rotate_left
  ·have q0:=(OI (a:=Y b 0) (hW.block b bx ar)).trans e0;exact zf
  refine zL ?_;refine zq 6 ?_ (λW hW=>?_) ?_;rotate_left
  ·have q0:=(OI (a:=Y D 0) (hW.block D a7 au)).trans d0;have q1:=(OI (a:=Y D 1) (hW.block D a7 au)).trans d1;exact zf
  refine zo 7 λK hK=>?_;go_simp;refine zJ hK (hS.alloc _) ?_;refine zo 8 λK hK=>?_;go_simp;have ad:=U.o.1.own;rw[HN.o]at ad;refine(bc.o _ W.heap.size _ ((ad.alloc _).drew) ((Blk.A8 W _ _ rfl).drew) (Lt ad)).mono ?_;rintro e w4 ⟨v4,rfl,d,a8,O⟩;rw[HN.o]at d;obtain⟨A4,c4,rfl,_,_⟩:=ak d;have t:=dl (hS.alloc (.cells #[I m,I q] 66)) a8 (λ_ h=>h) λj G=>(L.o j).2 G;have i:=t.B0 U.o.1.B0 ar;have H4:=Z4 i d O t;obtain⟨T,g1⟩:=ao i;have gf:=i.frozen 0;clear a8 ad d O i;refine zJ hK t ?_;rw[bI];clear t hS ar au fb e0 e1 d0 d1;go_wp2;obtain⟨i,d,O,t⟩:=H4.o;have av:=aB d i zP;have P:=i.B4 0 (.slice A4 (n+1) c4);have a9:=bA (p:=Y b 0) d av (.slice A4 (n+1) c4);have ba:ag (λj=>j=b\/s j) W (w4.setCell (Y b 0) (.slice A4 (n+1) c4)):=(t.C3 λ_ h=>.inr h).setCell (p:=Y b 0) (.inl (.inl rfl)) _;have HV:=Z1 (O.imp_right (c:=∀k,(Value.slice A4 (n+1) c4).ownBlock=some k->w.heap.size<=k) λh k hk=>by have:=h k hk;have Q:=U.o.2.2.1.size;have cm:W.heap.size<=(W.alloc (.cells #[I m,I q] 66)).drew.heap.size:=(by show W.heap.size<=(W.alloc _).heap.size;simp);omega);clear i d O t av T g1 gf;generalize w4.setCell (Y b 0) (.slice A4 (n+1) c4)=W5 at*;have R:=Z3 P a9 ba;have T:=P.cell 0;have g1:=P.cell 1;simp at T g1;have f0:=P.frozen 0;clear P a9 ba;refine cM zR zR ?_;repeat still_step
  refine wpStill_nil ?_;by_cases af:room<n+1
  ·have aw:Hid (fV room l ⟨m,q⟩=(gm l k ⟨m,q⟩).drop 1):=Z1 (by rw[HX.o,OB af]);have ax:=sj 0 (n+1) 1 (.slice A4 (n+1) c4) (gm l k ⟨m,q⟩) W5.drew R.o.2.1.drew a5.o.symm zO zO;have bh:=Z1 ax;clear ax;go_wp2_with fail;refine bh.o.mono ?_;rintro e w6 ⟨v6,rfl,ay,u,bb⟩;have ah:=R.o.1.drew.grown u (λe=>aB R.o.2.1 R.o.1 zP e.symm);have f6:=ah.frozen 0;have g6:=ah.cell 0;simp at g6;obtain⟨A6,c6,rfl,_,_⟩:=ak ay;go_wp2;go_ret;have bi:=aB ay ah zP;refine⟨rfl,.slice A6 ((gm l k ⟨m,q⟩).length - 1) c6,?_,?_,?_⟩
   ·rw[aw.o];refine⟨by simpa using ah.B4 0 _,?_⟩;have:=bA (p:=Y b 0) ay bi (.slice A6 ((gm l k ⟨m,q⟩).length - 1) c6)
    simpa using this
   ·have b2:ag (λj=>j=b\/s j) w w6:=by
     have z:=(((ag.B5 U.o.2.2.1).trans R.o.2.2)).drew;refine⟨u.os.trans z.os,u.tape.trans z.tape,u.output.trans z.output,OJ z.size u.size,λj G aa=>?_⟩;refine(u.block j (OV G z.size) λe=>?_).trans (z.block j G aa)
     rcases HV.o with Q|Q
     ·exact aa (.inr ((L.o j).2 (Q▸e.symm)))
     ·have:=Q j e.symm;omega
    exact(b2.setCell (p:=Y b 0) (.inl (.inl rfl)) _).C3 λj h=>h.imp id (L.o j).1
   ·rcases HV.o with Q|Q
    ·exact .inl (bb.trans Q)
    ·exact .inr λk hk=>Q k (bb▸hk)
  ·have aw:Hid (fV room l ⟨m,q⟩=gm l k ⟨m,q⟩):=Z1 (by rw[HX.o,Oz af]);go_wp2;go_ret;refine⟨rfl,_,?_,?_,HV.o⟩
   ·rw[aw.o];exact⟨R.o.1.drew,by rw[a5.o];exact R.o.2.1.drew⟩
   ·exact(((ag.B5 U.o.2.2.1).trans R.o.2.2).drew).C3 λj h=>h.imp id (L.o j).1
def wE(x:Smp)(w:World)(h:eC w b sl l room)(hs:ea l)(hn:l.length<=500)(hroom:1<=room)(hrm:room<=500)(hx0:0<=x.tick)(hx1:0<=x.value):
  C 191 #[Z b 0,I x.tick,I x.value] w (tH w b sl l room x):=by
 by_cases a:placeF l x.tick<l.length/\(l.getD (placeF l x.tick) ⟨0,0⟩).tick=x.tick
 ·exact Eb b sl l room x w h hs zO hroom hx0 hx1 a.1 a.2
 ·exact Id b sl l room x w h hs hn hroom hrm hx0 hx1 a
def wJ(h1:1<=n)(h2:n<=256):C 190 #[I n] w λe w'=>e=.returned (Z w.heap.size 0)/\eC w' w.heap.size (.slice none 0 0) [] n/\w'.heap.size=w.heap.size+1/\M w w':=by
 go_in
 go_wp2;go_ret;exact⟨rfl,⟨Blk.A8 _ _ _ rfl,Pn _ _ _ _⟩,zS,ae (Oy _ _) _⟩
def jq(h:eC w b sl l room)(hn:l.length<=1000):
  C 130 #[Z b 0] w λe w'=>∃v,e=.returned v/\aL 2 w w' 66 v l.length (smps l):=by
 obtain⟨f,g⟩:=ao h.B0;obtain⟨A,c,rfl,_,_⟩:=ak h.own;have a:=kI (smps l) A c l.length w (an.C4 h.own) (jf l) zO;clear h
 go_in
 go_wp2_with fail;refine a.mono ?_;rintro e i ⟨v,rfl,d⟩;go_wp2;go_ret;exact⟨v,rfl,d⟩
def Cc(h:eC w b sl l room)(hn:l.length<=1000):
  C 322 #[Z b 0] w λe w'=>∃b' sl',e=.returned (Z b' 0)/\eC w' b' sl' l room/\w.heap.size<=b'/\(∀k,sl'.ownBlock=some k->w.heap.size<=k)/\M w w':=by
 have g:=jq b sl l room;have q:=Z1 g;have H:=Z1 h;obtain⟨t,r⟩:=ao h.B0;have i:=h.B0.lt;clear h g
 go_in
 go_wp2;have f:=(zi w);refine zH (S:=λV=>M w V) f ?_;refine zq 5 ?_ (λW hW=>?_) ?_;rotate_left
 ·have u:=(OF hW (p:=Y b 1) i).trans r;exact zf
 refine zo 1 λK hK=>?_;go_simp;refine(q.o w.drew (H.o.up f) hn).mono ?_;rintro e j ⟨v,rfl,d⟩;have m:=Z1 d;obtain⟨A,c,rfl,_,_⟩:=ak d.own;have a:=af f d.below;clear d;refine zJ hK a ?_;refine zo 7 λK hK=>?_;go_simp;have n:=ae a (.cells #[Value.slice A l.length c,I ↑room] 278);refine zJ hK n ?_;go_wp2;go_ret;refine⟨j.heap.size,_,rfl,⟨Blk.A8 j _ _ rfl,aP (m.o.own.alloc _) (OK _)⟩,a.size,λk s=>(m.o.own.lt k s).1,ae a _⟩
def Ed(t:Int)(w:World)(h:eC w b sl l room)(hs:ea l)(hn:l.length<=500):
  C 317 #[Z b 0,I t] w λe w'=>e=.returned (I (placeF l t:Nat))/\∃sl',eC w' b sl' (l.drop (placeF l t)) room/\ag (λj=>j=b\/sl.ownBlock=some j) w w'/\sl'.ownBlock=sl.ownBlock:=by
 have D:=Z1 (λW (hW:eC W b sl l room)=>nY b sl l room t W hW hs zO);have g:=ur l t;have F:=Z1 (λW (hW:eC W b sl l room)=>sj 0 l.length (placeF l t) sl l W hW.own rfl zO g);generalize placeF l t=k at*;have H:=Z1 h;have O:=h.B0.lt;have s:=aB h.own h.B0 zP;obtain⟨A,c,rfl,_,_⟩:=ak h.own;clear h hs g
 go_in
 go_wp2_with fail;refine zm (D.o _ H.o) λu i=>?_;have d:=H.o.up i;obtain⟨P,Q⟩:=ao d.B0;have m:=Z1 d;clear d;have q:=F.o u m.o;change C 211 #[.slice A l.length c,I 0,I k] u _ at q;have v:=Z1 q;clear q;go_wp2_with fail;refine v.o.mono ?_;rintro e G ⟨R,rfl,f,n,x⟩;have a:=m.o.B0.grown n (Pc s);have S:=a.frozen 0;have N:=a.cell 0;simp at N;obtain⟨y,z,rfl,_,_⟩:=ak f;go_wp2;go_ret;have r:=aB f a zP;refine⟨rfl,.slice y (l.length-k) z,⟨by simpa using a.B4 0 _,?_⟩,?_,x⟩
 ·have:=bA (p:=Y b 0) f r (.slice y (l.length-k) z);rw[PW];exact this
 ·have B:ag (λj=>j=b\/(Value.slice A l.length c).ownBlock=some j) w G:=dl ((ag.B5 (L:=λ_=>False) i)) n (λ_ h=>h.elim) λj e=>.inr e;exact B.setCell (p:=Y b 0) (.inl (.inl rfl)) _
structure Cg where
 st:Nat
 sa:Nat
 lo:Nat
 hi:Nat
 deriving DecidableEq
def Cg.ok(c:Cg):Prop:=cA c.st c.sa c.lo c.hi=true
def Cg.cells(c:Cg):List Value:=[I c.st,I c.sa,I c.lo,I c.hi]
def Cg.val(c:Cg):Value:=.agg #[I c.st,I c.sa,I c.lo,I c.hi]
structure Ld where
 D2:List Smp
 C0:List Adv
 D8:Pl
 E9:Bool
 deriving DecidableEq
def Ld.new:Ld:=⟨[],[],.zero,false⟩
structure Mp where
 ls:List (K2×Ld)
 B9:List (Option (List (K2×Ld)))
 over:Bool
 deriving DecidableEq
def Mp.new:Mp:=⟨[],[],false⟩
def aH(x:Cl):Int:=
 if x.k=1 then(if bd x.id=true then bG x.tick x.value else 2)
 else if x.k=2 then bG x.tick 0
 else if x.k=5 then idE x.id
 else if x.k=6 then(if bd x.id=true then(if x.D8.right=true then 0 else 7)else 2)
 else if x.k=7 then idE x.id
 else if x.k=3\/x.k=4\/x.k=8 then 0 else 14
def sA{α:Type}(c:Cg)(l:List (K2×α))(k:K2):Nat:=(l.filter λe=>gg e.1 c.st==gg k c.st).length
def dR(c:Cg)(m:Mp)(k:K2):Option Ld:=
 match ap m.ls k with
 |some x=>some x
 |none=>if c.lo<=sA c m.ls k then none else some .new
def liveN{α:Type}(l:List (Option α)):Nat:=(l.filter Option.isSome).length
def findE{α:Type}(l:List (Option α))(n:Int):Int:=if n<1\/(l.length:Int)<n then 5 else if(l.getD (n.toNat-1) none).isNone=true then 8 else 0
def eP(t:Int)(x:Ld):Ld:={x with D2:=x.D2.filter λs=>decide (t<=s.tick)}
def mg(c:Cg)(x:Ld)(t v:Int):Ld:={x with D2:=fV c.sa x.D2 ⟨t,v⟩}
def mh(x:Ld)(p:Pl):Ld:={x with D8:=p,E9:=true}
def iF(l:List Adv):Adv:=l.getLast?.getD az
def jH(h:Nat)(l:List Adv)(a:Adv):List Adv:=if h<l.length+1 then(l++[a]).drop 1 else l++[a]
def jI(c:Cg)(x:Ld)(a:Adv):Ld:={x with C0:=jH c.hi x.C0 a}
def doM(c:Cg)(m:Mp)(x:Cl):Mp×Rp:=
 if aH x≠0 then(m,.of (aH x))
 else if x.k=1 then
  match dR c m (av x.id)with
  |none=>(m,.of 6)
  |some y=>({m with ls:=aR m.ls (av x.id) (mg c y x.tick x.value)},.zero)
 else if x.k=2 then({m with ls:=m.ls.map λe=>(e.1,eP x.tick e.2)},.zero)
 else if x.k=3 then
  if 64<=liveN m.B9 then(m,.of 6)else({m with B9:=m.B9++[some m.ls]},⟨0,m.B9.length+1,m.B9.length+1,.zero,az⟩)
 else if x.k=4 then
  if findE m.B9 x.handle=0 then({m with B9:=m.B9.set (x.handle.toNat-1) none},.zero)else(m,.of (findE m.B9 x.handle))
 else if x.k=5 then
  if findE m.B9 x.handle=0 then
   match ap ((m.B9.getD (x.handle.toNat-1) none).getD []) (av x.id)with
   |none=>(m,.of 5)
   |some y=>(m,⟨0,x.handle,0,atF y.D2 x.tick x.value,az⟩)
  else(m,.of (findE m.B9 x.handle))
 else if x.k=6 then
  match dR c m (av x.id)with
  |none=>(m,.of 6)
  |some y=>({m with ls:=aR m.ls (av x.id) (mh y x.D8)},.zero)
 else if x.k=7 then
  match ap m.ls (av x.id)with
  |none=>(m,.of 5)
  |some y=>(m,⟨0,0,0,.zero,iF y.C0⟩)
 else if m.over=true then(m,.of 9)else({m with over:=true},.zero)
def eo(c:Cg)(m:Mp)(k:K2)(a:Adv):Mp×Bool:=
 match ap m.ls k with
 |none=>(m,false)
 |some y=>({m with ls:=aR m.ls k (jI c y a)},true)
def cd(c:Cg)(m:Mp)(e:Vt):Mp×Bool:=
 if e.kind=2 then((doM c m e.call).1,decide ((doM c m e.call).2=e.rep))
 else if e.kind=6 then eo c m e.key e.E0
 else(m,true)
def fK(c:Cg)(l:List Vt):Mp:=l.foldl (λm e=>(cd c m e).1) .new
structure Ld.C6(c:Cg)(x:Ld):Prop where
 sorted:ea x.D2
 E5:x.D2.length<=c.sa
 right:∀s∈x.D2,(0<=s.tick/\s.tick<=9223372036854775807)/\(0<=s.value/\s.value<=9223372036854775807)
 C0:x.C0.length<=c.hi
 advs:∀a∈x.C0,a.ok
 L0:x.D8.ok
 D8:x.E9=true->x.D8.right=true
structure Qm where
 line:List K2
 C5:List K2
 busy:List K2
 over:Bool
 deriving DecidableEq
def Qm.zero:Qm:=⟨[],[],[],false⟩
def fu(l:List K2)(k:K2):List K2:=if k∈l then l else l++[k]
def ib(l:List K2)(k:K2):List K2:=l.filter λe=>!decide (e=k)
def Qm.add(q:Qm)(k:K2):Qm×Bool:=
 if q.over=true\/k∈q.C5 then(q,false)
 else if k∈q.busy then({q with C5:=fu q.C5 k},false)
 else({q with C5:=fu q.C5 k,line:=q.line++[k]},true)
def Qm.get(q:Qm):Qm×Option K2:=
 match q.line with
 |[]=>(q,none)
 |k::r=>({q with line:=r,C5:=ib q.C5 k,busy:=fu q.busy k},some k)
def Qm.done(q:Qm)(k:K2):Qm×Bool:=
 if k∈q.busy then
  if k∈q.C5 then({q with busy:=ib q.busy k,line:=q.line++[k]},true)else({q with busy:=ib q.busy k},false)
 else(q,false)
def bK(kd lk:Int):List (Int×Int):=[(kd,lk),(4,0),(5,lk)]
def dr(c:Cg)(kd:Int):List (Int×Int):=(List.range c.st).map λ(i:Nat)=>(kd,(i:Int))
def lineN(c:Cg):Int:=(c.st:Int)+1
def i7(c:Cg)(id:ByteArray):Int:=gg (av id) c.st
def cg(c:Cg)(x:Cl):List (Int×Int):=
 if x.k=1\/x.k=6 then bK 3 (i7 c x.id)++[(3,lineN c),(6,0),(5,lineN c)]
 else if x.k=2 then dr c 3++[(4,0)]++dr c 5
 else if x.k=3 then dr c 2++bK 3 c.st++dr c 5
 else if x.k=4 then bK 3 c.st
 else if x.k=5 then bK 2 c.st
 else if x.k=7 then bK 2 (i7 c x.id)
 else bK 3 (lineN c)
def aF(c:Cg)(x:Cl):List (Int×Int):=(1,0)::((if aH x=0 then cg c x else[])++[(7,0)])
structure Gs where
 mp:Mp
 E4:List Rf
 ln:Rf
 B3:List Int
 q:Qm
 ev:List Vt
def Rf.zero:Rf:=⟨[],[],[]⟩
def Gs.new(c:Cg):Gs:=⟨.new,List.replicate (c.st+1) .zero,.zero,[],.zero,[]⟩
def Gs.lock(g:Gs)(n:Int):Rf:=if n.toNat<g.E4.length then g.E4.getD n.toNat .zero else g.ln
def Gs.E1(g:Gs)(n:Int)(l:Rf):Gs:=if n.toNat<g.E4.length then{g with E4:=g.E4.set n.toNat l} else{g with ln:=l}
def Gs.ask(g:Gs)(n t:Int)(b:Bool):Gs×Bool:=(g.E1 n (ip (g.lock n) t b).1,(ip (g.lock n) t b).2.1)
def Gs.drop(g:Gs)(n t:Int):Gs:=g.E1 n (iH (g.lock n) t).1
def Gs.held(g:Gs)(n t:Int):Int:=bS (g.lock n) t
def Gs.F0(g:Gs):Gs:=
 match g.B3 with
 |[]=>g
 |t::r=>{g with ln:=(ip g.ln t true).1,B3:=r}
def Gs.E2(g:Gs):Gs:={g with ln:=g.B3.foldl (λl t=>(ip l t true).1) g.ln,B3:=[]}
def Gs.sleep(g:Gs)(t:Int):Gs:=if bS g.ln t=2 then{g with ln:=(iH g.ln t).1,B3:=g.B3++[t]} else g
def Gs.add(g:Gs)(k:K2):Gs:=if(g.q.add k).2=true then{g with q:=(g.q.add k).1}.F0 else{g with q:=(g.q.add k).1}
def Gs.F6(g:Gs)(k:K2):Gs:=if(g.q.done k).2=true then{g with q:=(g.q.done k).1}.F0 else{g with q:=(g.q.done k).1}
def Gs.note(g:Gs)(e:Vt):Gs:={g with ev:=g.ev++[e]}
def Gs.E6(c:Cg)(g:Gs)(x:Cl):Gs×Rp:=
 let a:={g with mp:=(doM c g.mp x).1}
 (if x.k=8/\(doM c g.mp x).2.err=0 then{a with q:={a.q with over:=true}}.E2 else a,(doM c g.mp x).2)
structure Ci where
 prog:List Cl
 task:Int
 nth:Nat
 at_:Nat
 B8:Int
 rep:Rp
def Ci.call(x:Ci):Cl:=x.prog.getD x.nth .zero
def Ci.over(x:Ci):Bool:=decide (x.prog.length<=x.nth)
def Ci.ready(g:Gs)(x:Ci):Bool:=!x.over&&(decide (x.B8<0)||decide (g.held x.B8 x.task≠0))
def Ci.event(x:Ci)(kind:Int):Vt:=⟨kind,x.task,x.nth,if kind=3 then .zero else x.call,if kind=1 then .zero else x.rep,⟨0,0⟩,az⟩
def jP(c:Cg)(ops:List (Int×Int)):Nat->Nat->Nat
 |0,a=>a
 |f+1,a=>if(ops.getD (a+1) (0,0)).2=lineN c then jP c ops f (a+3)else a
def bT(c:Cg)(g:Gs)(x:Ci):Gs×Ci:=
 let a:=aF c x.call
 let o:=a.getD x.at_ (0,0)
 let y:={x with B8:= -1}
 if o.1=1 then
  let y:={y with rep:=.of (aH x.call),at_:=x.at_+1}
  (if aH x.call=0 then g.note (y.event 1)else(g.note (y.event 1)).note (y.event 2),y)
 else if o.1=2\/o.1=3 then
  let r:=g.ask o.2 x.task (decide (o.1=3))
  (r.1,{y with B8:=if r.2=true then -1 else o.2,at_:=x.at_+1})
 else if o.1=4 then
  let r:=g.E6 c x.call
  let y:={y with rep:=r.2,at_:=x.at_+1}
  (r.1.note (y.event 2),y)
 else if o.1=5 then
  (g.drop o.2 x.task,{y with at_:=(if o.2<c.st/\x.rep.err≠0 then jP c a a.length x.at_ else x.at_)+1})
 else if o.1=6 then(g.add (av x.call.id),{y with at_:=x.at_+1})
 else if o.1=7 then(g.note (y.event 3),{y with nth:=x.nth+1,at_:=0})
 else(g,{y with at_:=x.at_+1})
structure Wi where
 task:Int
 B6:Nat
 B8:Int
 B3:Bool
 key:K2
 D9:Ld
 E0:Adv
 done:Nat
def Wi.over(x:Wi):Bool:=decide (x.B6=13)
def Wi.ready(c:Cg)(g:Gs)(x:Wi):Bool:=
 !x.over&&(if x.B3=true then decide (g.held (lineN c) x.task≠0)else decide (x.B8<0)||decide (g.held x.B8 x.task≠0))
def Wi.event(x:Wi)(kind:Int):Vt:=⟨kind,x.task,0,.zero,.zero,x.key,if kind=6 then x.E0 else az⟩
def Wi.home(c:Cg)(x:Wi):Int:=gg x.key c.st
def ic(g:Gs)(x:Wi)(lock:Int)(b:Bool)(next:Nat):Gs×Wi:=
 ((g.ask lock x.task b).1,{x with B8:=if(g.ask lock x.task b).2=true then x.B8 else lock,B6:=next})
def aM(c:Cg)(g:Gs)(x:Wi):Gs×Wi:=
 let y:={x with B8:= -1,B3:=false}
 if x.B6=0 then ic g y (lineN c) true 1
 else if x.B6=1 then
  match g.q.get with
  |(q,some k)=>let y:={y with key:=k,B6:=2};({g with q:=q}.note (y.event 4),y)
  |(_,none)=>if g.q.over=true then(g,{y with B6:=12})else(g.sleep x.task,{y with B3:=true,B6:=1})
 else if x.B6=2 then(g.drop (lineN c) x.task,{y with B6:=3})
 else if x.B6=3 then ic g y (x.home c) false 4
 else if x.B6=4 then let y:={y with D9:=(ap g.mp.ls x.key).getD .new,B6:=5};(g.note (y.event 5),y)
 else if x.B6=5 then(g.drop (x.home c) x.task,{y with B6:=6})
 else if x.B6=6 then
  if x.D9.E9=true/\fW x.D9.D8 x.D9.D2=0 then(g,{y with E0:=od x.D9.D8 x.D9.D2 x.D9.C0,B6:=7})else(g,{y with B6:=10})
 else if x.B6=7 then ic g y (x.home c) true 8
 else if x.B6=8 then let y:={y with B6:=9};({g with mp:=(eo c g.mp x.key x.E0).1}.note (y.event 6),y)
 else if x.B6=9 then(g.drop (x.home c) x.task,{y with B6:=10})
 else if x.B6=10 then ic g y (lineN c) true 11
 else if x.B6=11 then((g.note (y.event 7)).F6 x.key,{y with done:=x.done+1,B6:=14})
 else if x.B6=12 then(g.drop (lineN c) x.task,{y with B6:=13})
 else(g.drop (lineN c) x.task,{y with B6:=0})
structure En where
 g:Gs
 cs:List Ci
 ws:List Wi
 used:Nat
def Ci.new(p:List Cl)(t:Nat):Ci:=⟨p,t,0,0, -1,.zero⟩
def Wi.new(t:Nat):Wi:=⟨t,0, -1,false,⟨0,0⟩,.new,az,0⟩
def En.new(c:Cg)(ps:List (List Cl))(n:Nat):En:=⟨.new c,ps.mapIdx λi p=>.new p i,(List.range n).map λi=>.new (ps.length+i),0⟩
def En.count(e:En):Nat:=e.cs.length+e.ws.length
def En.ready(c:Cg)(e:En)(t:Nat):Bool:=
 if t<e.cs.length then(match e.cs[t]? with|some x=>x.ready e.g|none=>false)else(match e.ws[t-e.cs.length]? with|some x=>x.ready c e.g|none=>false)
def En.go(c:Cg)(e:En)(t:Nat):En:=
 if t<e.cs.length then
  match e.cs[t]? with
  |some x=>{e with g:=(bT c e.g x).1,cs:=e.cs.set t (bT c e.g x).2,used:=e.used+1}
  |none=>e
 else match e.ws[t-e.cs.length]? with
  |some x=>{e with g:=(aM c e.g x).1,ws:=e.ws.set (t-e.cs.length) (aM c e.g x).2,used:=e.used+1}
  |none=>e
def pickN(pick:Int)(n:Nat):Nat:=(pick%(n:Int)).toNat
def fM(r:Nat->Bool)(at_ n:Nat):Nat->Nat->Option Nat
 |0,_=>none
 |f+1,i=>if r ((at_+i)%n)=true then some ((at_+i)%n)else fM r at_ n f (i+1)
def En.next(c:Cg)(e:En)(pick:Int):Option Nat:=fM (e.ready c) (pickN pick e.count) e.count e.count 0
def En.step(c:Cg)(e:En)(pick:Int):Option En:=(e.next c pick).map (e.go c)
def En.run(c:Cg):En->List Int->En
 |e,[]=>e
 |e,p::r=>match e.step c p with|some e'=>En.run c e' r|none=>e
section
variable {R:Rf}{g:Gs}
def cR(R:Rf)(t:Int):Option Bool:=if t∈R.wr then some true else if t∈R.rd then some false else ap R.line t
def Ms(h:t∈R.wr):bS R t=2:=OB h
def lX:bS R t=0↔t∉R.wr/\t∉R.rd:=by
 unfold bS;by_cases h:t∈R.wr
 ·simp[h]
 ·by_cases a:t∈R.rd<;>simp[h,a]
def jV:cR R t=none↔bS R t=0/\t∉R.line.map (·.1):=by
 rw[lX];unfold cR;by_cases h:t∈R.wr
 ·simp[h]
 ·by_cases a:t∈R.rd
  ·simp[h,a]
  ·rw[Oz h,Oz a,gz];simp[h,a]
def Dj(h:bS R t≠0):cR R t≠none:=λe=>h (jV.1 e).1
def Ga(hA:gh R)(h:bS R t≠0)(hc:cR R t=some true):bS R t=2:=by
 by_cases a:t∈R.wr
 ·exact Ms a
 ·by_cases b:t∈R.rd
  ·unfold cR at hc;rw[Oz a,OB b]at hc
   cases hc
  ·exact absurd (lX.2 ⟨a,b⟩) h
def Gb(u:Int):cR .zero u=none:=by simp[cR,Rf.zero,ap]
def vk{κ α:Type}[DecidableEq κ](l:List (κ×α))(x y:κ)(v:α):ap (l++[(x,v)]) y=match ap l y with|some z=>some z|none=>if x=y then some v else none:=by
 induction l with
 |nil=>simp[ap]
 |cons e r ih=>
  simp only[PY,ap];by_cases h:e.1=y
  ·simp[h]
  ·rw[Oz h,Oz h,ih]
def Gc(hA:gh R)(ht:0<=t/\t<32)(hn:cR R t=none)(b:Bool):
  cR (ip R t b).1 t=some b/\(bS (ip R t b).1 t≠0↔(ip R t b).2.1=true)/\∀u,u≠t->cR (ip R t b).1 u=cR R u/\bS (ip R t b).1 u=bS R u:=by
 obtain⟨c,e⟩:=jV.1 hn;obtain⟨d,g⟩:=lX.1 c;unfold ip;rw[Oz zO,Oz (by simp only[c];simp only[ne_eq,not_true_eq_false,false_or];exact e)];by_cases f:R.line=[]/\jL R b=true
 ·rw[OB f]
  cases b with
  |true=>
   refine⟨?_,?_,λu a=>?_⟩
   ·simp[cO,cR]
   ·simp[cO,bS]
   ·simp[cO,cR,bS,a]
  |false=>
   refine⟨?_,?_,λu a=>?_⟩
   ·simp[cO,cR,d]
   ·simp[cO,bS,d]
   ·simp[cO,cR,bS,a]
 ·rw[Oz f];refine⟨?_,?_,λu a=>?_⟩
  ·unfold cR;rw[Oz d,Oz g,vk,gz.2 e];simp
  ·have:bS {R with line:=R.line++[(t,b)]} t=0:=c;simp[this]
  ·refine⟨?_,rfl⟩;unfold cR;simp only[vk];rw[Oz (Pc a)]
   cases ap R.line u<;>rfl
def JN(ln:List (Int×Bool)):∀(rd wr:List Int),(∀t∈ln.map (·.1),t∉rd/\t∉wr)->(ln.map (·.1)).Nodup->∀u,cR (fi ln rd wr).1 u=cR ⟨rd,wr,ln⟩ u/\(bS ⟨rd,wr,[]⟩ u≠0->bS (fi ln rd wr).1 u=bS ⟨rd,wr,[]⟩ u):=by
 induction ln with
 |nil=>intro rd wr f b u;exact⟨rfl,λ_=>rfl⟩
 |cons y ln ih=>
  intro rd wr f b u;rw[fi];split
  ·simp only[Pi,QB]at b;obtain⟨g,h⟩:=f y.1 zS;have k:∀t∈ln.map (·.1),t∉(cO ⟨rd,wr,ln⟩ y).rd/\t∉(cO ⟨rd,wr,ln⟩ y).wr:=λt j=>by
    obtain⟨l,m⟩:=f t (by simp only[Pi,Pj];exact .inr j);exact uF (x:=⟨rd,wr,ln⟩) l m (λe=>b.1 (e▸j))
   obtain⟨n,o⟩:=ih _ _ k b.2 u;refine⟨n.trans ?_,λi=>?_⟩
   ·obtain⟨c,a⟩:=y;have q:=b.1;by_cases d:u=c
    ·subst d
     cases a<;>simp[cO,cR,ap,g,h,g,h]<;>simp_all
    ·cases a<;>simp[cO,cR,ap,d,Pc d]
   ·obtain⟨c,a⟩:=y;have d:u≠c:=λe=>by
     subst e;exact i (lX.2 ⟨h,g⟩)
    have p:bS ⟨(cO ⟨rd,wr,ln⟩ (c,a)).rd,(cO ⟨rd,wr,ln⟩ (c,a)).wr,[]⟩ u=bS ⟨rd,wr,[]⟩ u:=by
     cases a<;>simp[cO,bS,d]
    rw[<-p]at i ⊢;exact o i
  ·exact⟨rfl,λ_=>rfl⟩
def kB{l:List Int}{u:Int}:u∈jM l t↔u∈l/\u≠t:=by
 unfold jM;rw[Pp];simp
def Dk(hA:gh R)(hh:bS R t≠0):
  cR (iH R t).1 t=none/\∀u,u≠t->cR (iH R t).1 u=cR R u/\(bS R u≠0->bS (iH R t).1 u=bS R u):=by
 have g:t∉R.line.map (·.1):=λe=>by
  obtain⟨b,c⟩:=hA.apart t e;exact hh (lX.2 ⟨c,b⟩)
 have h:∀u∈R.line.map (·.1),u∉jM R.rd t/\u∉jM R.wr t:=λu a=>by
  obtain⟨b,c⟩:=hA.apart u a;exact⟨λe=>b (kB.1 e).1,λe=>c (kB.1 e).1⟩
 have d:=JN R.line _ _ h hA.nodup;refine⟨?_,λu a=>?_⟩
 ·unfold iH;rw[(d t).1,jV,lX];exact⟨⟨λe=>(kB.1 e).2 rfl,λe=>(kB.1 e).2 rfl⟩,g⟩
 ·unfold iH;refine⟨(d u).1.trans ?_,λf=>?_⟩
  ·simp[cR,kB,a]
  ·have i:bS ⟨jM R.rd t,jM R.wr t,[]⟩ u=bS R u:=by simp[bS,kB,a]
   rw[<-i]at f ⊢;exact(d u).2 f
def Gd:∀(l:List Int),l.Nodup->(∀x∈l,0<=x/\x<n)->l.length<=n:=by
 induction n with
 |zero=>
  intro l _ h
  cases l with
  |nil=>exact OA _
  |cons x r=>have:=h x zS;omega
 |succ n ih=>
  intro l b h;have c:=ih (l.filter λx=>x≠(n:Int)) (b.filter _) λx a=>by
   rw[Pp]at a;have f:=h x a.1;have g:x≠(n:Int):=by simpa using a.2
   omega
  have i:l.length<=(l.filter λx=>x≠(n:Int)).length+1:=by
   clear h c ih;induction l with
   |nil=>simp
   |cons x r ih=>
    rw[QB]at b;by_cases a:x=(n:Int)
    ·have e:r.filter (λx=>x≠(n:Int))=r:=by
      rw[QR];intro y d;simp only[ne_eq,decide_not,Sl,decide_eq_false_iff_not];exact λe=>b.1 (by rw[a,<-e];exact d)
     simp only[OC];rw[QP (by simp[a]),e];omega
    ·rw[QO (by simpa using a)];have:=ih b.2;simp only[OC];omega
  omega
def gh.E5(hA:gh R)(h:∀u,cR R u≠none->0<=u/\u<32):R.line.length<=32:=by
 have a:=Gd 32 (R.line.map (·.1)) hA.nodup λx b=>h x λe=>(jV.1 e).2 b
 simpa using a
def xK(h:g.E4.length=s+1)(R:Rf){n m:Nat}(hn:n<s+2)(hm:m<s+2):(g.E1 n R).lock m=if m=n then R else g.lock m:=by
 unfold Gs.E1 Gs.lock;simp only[PH];by_cases b:n<g.E4.length
 ·simp only[OB b,PI];by_cases a:m<g.E4.length
  ·simp only[OB a,OP,Qo];by_cases c:m=n
   ·subst c;simp[b]
   ·simp[c,Pc c]
  ·rw[Oz a,Oz a,Oz zO]
 ·simp only[Oz b];by_cases a:m<g.E4.length
  ·rw[OB a,OB a,Oz zO]
  ·rw[Oz a,OB zO]
def xL(g:Gs)(n:Int)(R:Rf):(g.E1 n R).E4.length=g.E4.length:=by
 unfold Gs.E1;split<;>simp
def lock_ln(h:g.E4.length=s+1):g.lock ((s:Int)+1)=g.ln:=by
 unfold Gs.lock;rw[Oz zO]
end
def vP(n:Int):n=1\/n=2\/n=3\/n=4\/n=5\/n=6\/n=7\/(n≠1/\n≠2/\n≠3/\n≠4/\n≠5/\n≠6/\n≠7):=zO
structure nE(x:List Ev)(t:Int)(k:Nat)(s:Tr)(C:Nat):Prop where
 last:0<=s.last/\s.last<=7
 none_:(s.last=0\/4<=s.last)->C=0/\s.nth=0
 some_:(1<=s.last/\s.last<=3)->(C:Int)=s.nth+1/\0<C
 D1:∀m:Int,(m<0\/(C:Int)<=m)->aU x 1 t m k= -1/\aU x 2 t m k= -1/\aU x 3 t m k= -1
 full:∀j:Nat,j+1<C->0<=aU x 1 t j k/\aU x 1 t j k<aU x 2 t j k/\aU x 2 t j k<aU x 3 t j k/\aU x 3 t j k<aU x 1 t ((j+1:Nat):Int) k
 cur:∀j:Nat,j+1=C->0<=aU x 1 t j k/\aU x 1 t j k<k/\(s.last=1->aU x 2 t j k= -1/\aU x 3 t j k= -1)/\(s.last=2->aU x 1 t j k<aU x 2 t j k/\aU x 2 t j k<k/\aU x 3 t j k= -1)/\
  (s.last=3->aU x 1 t j k<aU x 2 t j k/\aU x 2 t j k<aU x 3 t j k/\aU x 3 t j k<k)
def nE.zero(x:List Ev)(t:Int):nE x t 0 Tr.zero 0:=
 ⟨by simp[Tr.zero],λ_=>⟨rfl,rfl⟩,λh=>by simp[Tr.zero]at h,λ_ _=>⟨rfl,rfl,rfl⟩,λj h=>zO,λj h=>zO⟩
def nE.other{s:Tr}{C:Nat}(h:nE x t k s C)(hk:k<x.length)(ht:x[k].task≠t):nE x t (k+1) s C:=by
 have e:∀a m,aU x a t m (k+1)=aU x a t m k:=λa m=>by
  rw[iS a t m hk];have:hit x[k] a t m=false:=by simp[hit,ht]
  rw[this];rfl
 refine⟨h.last,h.none_,h.some_,λm d=>by rw[e,e,e];exact h.D1 m d,λj b=>by rw[e,e,e,e];exact h.full j b,λj b=>?_⟩;rw[e,e,e];obtain⟨f,n,g,i,l⟩:=h.cur j b;refine⟨f,zO,g,λc=>?_,λc=>?_⟩
 ·have:=i c;omega
 ·have:=l c;omega
def nE.step{s:Tr}{C:Nat}(h:nE x t k s C)(hk:k<x.length)(ht:x[k].task=t)(ho:s.ok x[k]=true):
  nE x t (k+1) (s.next x[k]) (if x[k].kind=1 then C+1 else C)/\(x[k].kind=1->x[k].nth=(C:Int)):=by
 have e:∀i m,aU x i t m (k+1)=if x[k].kind=i/\x[k].nth=m then(k:Int)else aU x i t m k:=λi m=>by
  rw[iS i t m hk];by_cases l:x[k].kind=i/\x[k].nth=m
  ·rw[OB l,OB (by simp[hit,ht,l.1,l.2])]
  ·rw[Oz l,Oz];simp only[hit,OY,beq_iff_eq];exact λb=>l ⟨b.1.1,b.2⟩
 generalize x[k]=n at*;unfold Tr.ok Tr.is at ho;have y:=h.last;have o:=h.none_;have p:=h.some_
 rcases vP n.kind with a|a|a|a|a|a|a|⟨z,A,B,D,F,G,H⟩
 ·
  simp[a,Tr.next]at ho;obtain⟨c,f,_⟩:=ho;have g:n.nth=(C:Int):=by
   rcases c with c|c
   ·rw[f,Oz zO];have:=o (.inl c);omega
   ·rw[f,OB c];have:=p zO;omega
  rw[OB a];refine⟨⟨by simp[Tr.next,a],λb=>by simp[Tr.next,a]at b,λ_=>?_,λm q=>?_,λj d=>?_,λj d=>?_⟩,λ_=>g⟩
  ·simp only[Tr.next,a];constructor
   ·rcases c with c|c
    ·have:=o (.inl c);rw[Oz zO];omega
    ·have:=p zO;rw[OB ⟨by trivial,c⟩];omega
   ·omega
  ·have:=h.D1 m zO;rw[e,e,e,Oz zO,Oz zO,Oz zO];exact this
  ·rw[e,e,e,e,Oz zO,Oz zO,Oz zO];by_cases u:j+1<C
   ·rw[Oz zO];exact h.full j u
   ·have v:j+1=C:=zO;rw[OB zO];have L:s.last=3:=by
     rcases c with c|c
     ·have:=o (.inl c);omega
     ·exact c
    obtain⟨r,w,_,_,N⟩:=h.cur j v;have:=N L;omega
  ·obtain rfl:j=C:=zO;rw[e,e,e,OB ⟨a,g⟩,Oz zO,Oz zO];have:=h.D1 (j:Int) (.inr (Int.le_refl _));refine⟨zO,zO,λ_=>⟨this.2.1,this.2.2⟩,λb=>?_,λb=>?_⟩
   ·simp[Tr.next,a]at b
   ·simp[Tr.next,a]at b
 ·
  simp[a,Tr.next]at ho;obtain⟨c,f,_⟩:=ho;have g:=p zO;rw[Oz zO];refine⟨⟨by simp[Tr.next,a],λb=>by simp[Tr.next,a]at b,λ_=>by simp[Tr.next,a];exact g,λm q=>?_,λj d=>?_,λj d=>?_⟩,λb=>zO⟩
  ·have:=h.D1 m zO;rw[e,e,e,Oz zO,Oz zO,Oz zO];exact this
  ·rw[e,e,e,e,Oz zO,Oz zO,Oz zO,Oz zO];exact h.full j d
  ·obtain⟨r,w,O,_,_⟩:=h.cur j d;have:=O c;rw[e,e,e,Oz zO,OB zO,Oz zO];refine⟨r,zO,λb=>by simp[Tr.next,a]at b,λ_=>zO,λb=>by simp[Tr.next,a]at b⟩
 ·
  simp[a,Tr.next]at ho;obtain⟨c,f,_⟩:=ho;have g:=p zO;rw[Oz zO];refine⟨⟨by simp[Tr.next,a],λb=>by simp[Tr.next,a]at b,λ_=>by simp[Tr.next,a];exact g,λm q=>?_,λj d=>?_,λj d=>?_⟩,λb=>zO⟩
  ·have:=h.D1 m zO;rw[e,e,e,Oz zO,Oz zO,Oz zO];exact this
  ·rw[e,e,e,e,Oz zO,Oz zO,Oz zO,Oz zO];exact h.full j d
  ·obtain⟨r,w,_,P,_⟩:=h.cur j d;have:=P c;rw[e,e,e,Oz zO,Oz zO,OB zO];refine⟨r,zO,λb=>by simp[Tr.next,a]at b,λb=>by simp[Tr.next,a]at b,λ_=>zO⟩
 all_goals try
  have g:=o (by simp[a,Tr.next]at ho;omega);have Q:4<=n.kind/\n.kind<=7:=zO;rw[Oz zO];refine⟨⟨by simp only[Tr.next];omega,λ_=>⟨g.1,by simp only[Tr.next];rw[Oz zO];exact g.2⟩,λb=>by simp only[Tr.next]at b;omega,λm q=>?_,λj d=>zO,λj d=>zO⟩,λb=>zO⟩;rw[e,e,e,Oz zO,Oz zO,Oz zO];exact h.D1 m q
 ·simp[z,A,B,D,F,G,H]at ho
def eh(t:Int)(l:List Ev):List Ev:=(l.filter λx=>x.task==t).filter λx=>x.kind==1
def p7(t:Int)(l:List Ev)(x:Ev):eh t (l++[x])=if x.task=t/\x.kind=1 then eh t l++[x]else eh t l:=by
 unfold eh;rw[Ql,Ql];by_cases a:x.task=t
 ·by_cases b:x.kind=1
  ·simp[a,b]
  ·simp[a,b]
 ·simp[a]
def nF:∀(l:List Ev) (tr:Int->Tr) (k:Nat) (hk:k<l.length),fy tr l=true->∃tr',fy tr (l.take k)=true/\(∀t,tr' t=((l.take k).foldl cT tr) t)/\kU tr' l[k]=true
 |[],_,k,hk,_=>by simp at hk
 |x::r,tr,0,_,h=>by
  simp only[fy,OY]at h;exact⟨tr,rfl,λ_=>rfl,h.1⟩
 |x::r,tr,k+1,hk,h=>by
  simp only[fy,OY]at h;obtain⟨tr',h1,h2,h3⟩:=nF r (cT tr x) k (by simpa using hk) h.2;exact⟨tr',by simp[fy,h.1,h1],λt=>by rw[h2 t];rfl,by simpa using h3⟩
def rX(l:List Ev)(t:Int)(hr:ix l=true):∀k,k<=l.length->nE l t k (((l.take k).foldl cT λ_=>Tr.zero) t) (eh t (l.take k)).length/\∀(j:Nat) (hj:j<(eh t (l.take k)).length),((eh t (l.take k))[j]).nth=(j:Int)
 |0,_=>by simpa[eh]using nE.zero l t
 |k+1,hk=>by
  obtain⟨h1,h2⟩:=rX l t hr k zO;obtain⟨i,_,o,g⟩:=nF l _ k zO hr;have p:l.take (k+1)=l.take k++[l[k]]:=OG zO;rw[p,Qe,Qz,List.foldl_nil,p7];have r:∀q,((l.take k).foldl cT λ_=>Tr.zero) q=i q:=λq=>(o q).symm;have c:cT ((l.take k).foldl cT λ_=>Tr.zero) l[k] t=if t=l[k].task then(((l.take k).foldl cT λ_=>Tr.zero) t).next l[k]else((l.take k).foldl cT λ_=>Tr.zero) t:=by
   unfold cT;split
   ·rename_i e;rw[<-e]
   ·rfl
  rw[c];unfold kU at g;simp only[OY]at g;by_cases b:l[k].task=t
  ·rw[OB b.symm];have m:(((l.take k).foldl cT λ_=>Tr.zero) t).ok l[k]=true:=by rw[r,<-b];exact g.2
   obtain⟨d,s⟩:=h1.step zO b m;by_cases a:l[k].kind=1
   ·rw[OB ⟨b,a⟩];rw[OB a]at d;refine⟨by simpa using d,λj hj=>?_⟩;by_cases f:j<(eh t (l.take k)).length
    ·rw[PK f];exact h2 j f
    ·have n:j=(eh t (l.take k)).length:=by simp at hj;omega
     subst n;simp;exact s a
   ·rw[Oz λh=>a h.2];rw[Oz a]at d;exact⟨d,h2⟩
  ·rw[Oz (λe=>b e.symm),Oz λh=>b h.1];exact⟨h1.other zO b,h2⟩
def wt(l:List Ev)(t:Int)(i:Nat):Int:=if i=0 then -1 else max (aU l 1 t ((i-1:Nat):Int) l.length) (max (aU l 2 t ((i-1:Nat):Int) l.length) (aU l 3 t ((i-1:Nat):Int) l.length))
def Hh(l:List Ev)(t:Int)(hr:ix l=true)(i:Nat)(hi:i<(eh t l).length):
  (eh t l)[i].nth=(i:Int)/\wt l t i<aU l 1 t i l.length/\(0<=aU l 2 t i l.length->aU l 1 t i l.length<aU l 2 t i l.length)/\(0<=aU l 3 t i l.length->0<=aU l 2 t i l.length/\aU l 2 t i l.length<aU l 3 t i l.length):=by
 obtain⟨a,e⟩:=rX l t hr l.length (OA _);rw[PO]at a e;refine⟨e i hi,?_,?_⟩
 ·unfold wt;by_cases c:i=0
  ·rw[OB c];subst c;by_cases d:0+1<(eh t l).length
   ·have:=a.full 0 d;omega
   ·have:=a.cur 0 zO;omega
  ·rw[Oz c];have:=a.full (i-1) zO;rw[show i-1+1=i by omega]at this;omega
 ·by_cases d:i+1<(eh t l).length
  ·have:=a.full i d;exact⟨λ_=>zO,λ_=>zO⟩
  ·obtain⟨n,o,g,j,k⟩:=a.cur i zO;have p:=a.last;have f:=a.none_;generalize ((l.foldl cT λ_=>Tr.zero) t).last=b at*;have:b=1\/b=2\/b=3:=by
    rcases Int.lt_or_le b 1 with h|h
    ·have:=f zO;omega
    ·rcases Int.lt_or_le 3 b with m|m
     ·have:=f zO;omega
     ·omega
   rcases this with h|h|h
   ·have:=g h;exact⟨λ_=>zO,λ_=>zO⟩
   ·have:=j h;exact⟨λ_=>zO,λ_=>zO⟩
   ·have:=k h;exact⟨λ_=>zO,λ_=>zO⟩
end Go.Fw
