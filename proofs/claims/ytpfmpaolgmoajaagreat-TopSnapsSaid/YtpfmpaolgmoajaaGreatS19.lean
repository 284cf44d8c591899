/- Lemmas of this claim. Conditions: as each says. -/
import Derived.Test.YtpfmpaolgmoajaaGreatS18
import Derived.Shelf.SlMaps.Clone
set_option linter.unusedVariables false
set_option linter.unusedSimpArgs false
set_option maxHeartbeats 4000000
set_option maxRecDepth 20000
set_option linter.defProp false
open Go.Proofs.Tryz
namespace Go.Fw
open Go.RowKit open Go.Proofs hiding intOf
variable {n s bytes B g k:Nat}{P:Program}{z sl':Value}{xs:List Value}{cs:Array Value}{a:Act}{K:Act->World->Prop}{Q:Exit->Act->World->Prop}{l':Lk}{r':Rf}(w:World)(l:List (Int×Int))(c:Nat)(A:Option Addr)
def vg:∀(l:List (Option (Nat×List Fe))) (i k:Nat),k<l.length->
  eL i (l.set k none)=(((eL i l).set (k*3) (I 0)).set (k*3+1) (.map none)).set (k*3+2) (.bool true)
 |[],i,k,h=>by simp at h
 |o::r,i,0,h=>by cases o<;>simp[eL,nw]
 |o::r,i,k+1,h=>by
  have ih:=vg r (i+1) k (by simpa using h);rw[Ow];unfold eL;rw[ih,show(k+1)*3=k*3+1+1+1 by omega]
  cases o<;>simp[nw,Ow]
def ag.go{L L2:Nat->Prop}{w w1 w2:World}(h:ag L w w1)(h2:ag L2 w1 w2)(hl:∀k,L2 k->L k\/w.heap.size<=k):ag L w w2:=
 ⟨h2.os.trans h.os,h2.tape.trans h.tape,h2.output.trans h.output,OJ h.size h2.size,λk a b=>(h2.block k (OV a h.size) λe=>(hl k e).elim b λe=>zO).trans (h.block k a b)⟩
def FK(c:Cg)(mb lb:Nat)(fs:List Fe)(kv:List (Option (Nat×List Fe)))(cv:Value)(m:Mp)(h:cq w c mb lb fs kv cv m)(hl:kv.length<=90000)(n:Int)(hn:aq n):
  C 116 #[Z mb 0,I n] w λe w'=>e=.returned (Rp.of (findE m.B9 n)).val/\dM w w' c mb lb (kR m n):=by
 have r:=zh w (.cells Rp.zero.arr 77);have O:=Blk.A8 w 77 Rp.zero.arr rfl;have X:=Z1 (vd _ c mb lb fs kv cv m (h.up r) hl n hn);have B:=Z2 r O;have H:=Z1 h;simp only[Rp.zero,Rp.arr,St.zero,St.arr,az]at*;generalize bn:w.alloc (.cells #[I 0,I 0,I 0,I 0,I 0,I 0,I 0,I 0,I 0,I 0,I 0,I 0,I 0] 77)=V at*;by_cases D:findE m.B9 n=0
 ·obtain⟨k,rfl,ac,_⟩:=Li D;have ad:k<kv.length:=by rw[<-h.small];exact ac
  have x:kR m ((k:Int)+1)={m with B9:=m.B9.set k none}:=by
   unfold kR;rw[OB D,show((k:Int)+1).toNat - 1=k by omega]
  have F:=(h.up r).row;obtain⟨A,c1,rfl,_,_⟩:=ak F;have HC:=Z1 (yX (eL 0 kv) A c1 kv.length V (an.C4 F) (FB kv 0) zO);have HM:=Z2 x ad;rw[D]at X ⊢;have d5:=(h.up r).B0.cell 5;obtain⟨q,hq⟩:∃q,q=kv.length:=⟨_,rfl⟩;rw[<-hq]at d5 HC ad;have HQ:=Z1 hq;clear h r O D ac x F hq
  go_in
  go_wp2_with fail;refine X.o.mono ?_;rintro e w1 ⟨rfl,rfl⟩;go_wp2_with fail;refine HC.o.mono ?_;rintro e G ⟨v,rfl,N⟩;have y:=(H.o.up (af B.o.1 N.below)).B0;have e5:=y.cell 5;have f5:=y.frozen 5;have a1:∃g i,v=.slice (some (Y g 0)) q i/\V.heap.size<=g/\g<G.heap.size:=by
   rcases N.own.2 with⟨e,l⟩|⟨g,i,bo,e,a2,hh,_⟩
   ·omega
   ·exact⟨g,i,e,a2,(PX.1 hh).1⟩
  obtain⟨g,i,rfl,ae,bp⟩:=a1;have am:=N.own;have a3:g≠mb:=λe=>aB N.own y zP (by rw[e];rfl);have d:=Z4 N y ae a3;clear N ae am d5 y;go_upto_region 4 with fail
  have a4:=HQ.o;have ah:ag (λb=>b=mb) G (G.setCell (Y mb 5) (.slice (some (Y g 0)) q i)):=(ag.refl (λb=>b=mb) G).setCell (p:=Y mb 5) (.inl rfl) _;have a:=bA d.o.1.own (p:=Y mb 5) (λe=>d.o.2.2.2 (by simpa[Value.ownBlock]using e)) (.slice (some (Y g 0)) q i);have t:=d.o.2.1.B4 5 (.slice (some (Y g 0)) q i);generalize G.setCell (Y mb 5) (.slice (some (Y g 0)) q i)=w3 at*;have d5:=t.cell 5;have b0:=RW a (k*3) zO;have b1:=RW a (k*3+1) zO;have b2:=RW a (k*3+2) zO;have a6:=pH kv 0;rw[OL zO]at b0 b1 b2;have g0:=RJ a (k*3);have g1:=RJ a (k*3+1);have g2:=RJ a (k*3+2);have P:=Z3 ah a t;generalize (eL 0 kv)[k*3]'_=u0 at b0;generalize (eL 0 kv)[k*3+1]'_=u1 at b1;generalize (eL 0 kv)[k*3+2]'_=u2 at b2;have a7:IntKind.i64.wrap (k:Int)=(k:Int):=by rw[OX];omega
  have bq:q<=90000:=zO;clear ah a t a6 a4 e5 f5;go_upto_region 5 with fail
  have u:=(RX (RX (RX P.o.2.1 (k*3) (I 0)).1 (k*3+1) (.map none)).1 (k*3+2) (.bool true)).1;rw[<-vg kv 0 k HM.o.2]at u;have ai:ag (λb=>b=mb\/b=g) G (((w3.setCell (Y g (k*3)) (I 0)).setCell (Y g (k*3+1)) (.map none)).setCell (Y g (k*3+2)) (.bool true)):=
   (((P.o.1.C3 λ_ e=>.inl e).setCell (p:=Y g (k*3)) (.inl (.inr rfl)) _).setCell (p:=Y g (k*3+1)) (.inl (.inr rfl)) _).setCell (p:=Y g (k*3+2)) (.inl (.inr rfl)) _
  have Q:=((P.o.2.2.D1 (p:=Y g (k*3)) (Pc d.o.2.2.2) (I 0)).D1 (p:=Y g (k*3+1)) (Pc d.o.2.2.2) (.map none)).D1 (p:=Y g (k*3+2)) (Pc d.o.2.2.2) (.bool true);generalize ((w3.setCell (Y g (k*3)) (I 0)).setCell (Y g (k*3+1)) (.map none)).setCell (Y g (k*3+2)) (.bool true)=w5 at*;have L:=Z3 u ai Q;clear u ai Q d5 b0 b1 b2 g0 g1 g2 a7;have R:=L.o.2.1.B0 (B.o.2.later d.o.1.below) (by
   have S:=B.o.2.lt;have h2:=d.o.2.2.1;have h3:=H.o.B0.lt;rintro(e|e)<;>omega)
  have a8:=Z1 R;clear R
  go_wp2_with (refine zj aA a8.o ?_;intro w6 T z)
  refine OH (au aA rfl T rfl _ rfl) rfl ⟨rfl,?_⟩;have br:=B.o.2.lt;have bs:=H.o.B0.lt;have bt:=d.o.2.2.1;have a9:=((ag.B5 (af B.o.1 d.o.1.below):ag (λb=>b=mb) w G)).go L.o.2.1 λb e=>e.imp id λe=>zO;have hK:=a9.go z.B7 λb e=>.inr (by have:b=w.heap.size:=e;omega);have av:=z.B0 L.o.2.2 zO;rw[HM.o.1];refine⟨⟨fs,kv.set k none,.slice (some (Y g 0)) q i,⟨?_,?_,H.o.ls,?_,?_,?_⟩⟩,hK.C3 λb e=>.inl e⟩
  ·rw[PI]
   simpa using av
  ·exact H.o.C1.B7 hK (λe=>H.o.ne.1 e.symm) λf U=>⟨λb j l=>((H.o.C1.D1 H.o.C1.map H.o.B0) f U).1 b j (.inl l),λb j l=>((H.o.C1.D1 H.o.C1.map H.o.B0) f U).2 b j (.inl l)⟩
  ·rw[PI,<-HQ.o];exact aP (z.B7.C8 L.o.1 λb j l=>by
    have S:g=b:=by simpa[Value.ownBlock]using j
    have h2:=l;omega) (OK _)
  ·show m.B9.set k none=_;rw[H.o.J8,List.map_set];rfl
  ·intro e he;have aj:some e∈kv:=by
    rcases List.mem_or_eq_of_mem_set he with S|S
    ·exact S
    ·cases S
   have s:=(H.o.J9 e aj).1;exact⟨s.B7 hK (λj=>aw.C9 s.map H.o.B0 j) λf U=>⟨λb j l=>(s.D1 s.map H.o.B0 f U).1 b j (.inl l),λb j l=>(s.D1 s.map H.o.B0 f U).2 b j (.inl l)⟩,(H.o.J9 e aj).2⟩
 ·have ba:=X.o;generalize al:findE m.B9 n=q at*;have hq:(q==0)=false:=by simpa using D
  have x:kR m n=m:=by unfold kR;rw[al,Oz D]
  have HX:=Z1 x;clear D al x h r O X
  go_in
  go_wp2_with fail;refine ba.mono ?_;rintro e w1 ⟨rfl,rfl⟩
  go_wp2_with (refine zj aA B.o.2 ?_;intro w6 T z)
  refine OH (au aA rfl T rfl _ rfl) rfl ⟨rfl,?_⟩;rw[HX.o];exact H.o.same (z.below B.o.1 (OA _))
end Go.Fw
namespace Go.Proofs
open Go.Shelf Go.Fw
def O8:Go.Shelf.Ren:=⟨λ|5=>154|7=>193|n=>n,λ|23=>133|25=>9|3=>53|4=>4|20=>20|n=>n,λ|n=>n⟩
def lmc:Go.Proofs.SlLaysW.n5 prog O8:={
 mixed:=by kernel_rfl
 f5:=⟨f154.name,by decide,func154.trans (congrArg some (by kernel_rfl))⟩
 f7:=func193.trans (congrArg some (by kernel_rfl))
 t4:=underlying4
 a4:=isAgg4
 z4:=sizeOf4
 v4:=zeroValue4
 t20:=underlying20
 a20:=isAgg20
 z20:=sizeOf20
 v20:=zeroValue20
 t23:=underlying133
 a23:=isAgg133
 z23:=sizeOf133
 v23:=zeroValue133}
end Go.Proofs
namespace Go.Fw
open Go.RowKit open Go.Proofs hiding intOf
variable {n s bytes B g k:Nat}{P:Program}{z sl':Value}{xs:List Value}{cs:Array Value}{a:Act}{K:Act->World->Prop}{Q:Exit->Act->World->Prop}{l':Lk}{r':Rf}(w:World)(l:List (Int×Int))(c:Nat)(A:Option Addr)
def Ax(b:Nat)(l:List (ByteArray×Value))(h:ig w b l):
  C 154 #[.map (some b)] w λe w'=>e=.returned (.map (some w.heap.size))/\ig w' w.heap.size l/\M w w':=by
 obtain⟨a,c,d⟩:=h.own;refine(AnyW.maps_Clone_owns lmc _ _ b l.length (.map a) w c).mono ?_;rintro e w' ⟨rfl,f,_,g⟩;exact⟨rfl,⟨⟨a,f,d⟩,h.D7,h.E3⟩,g⟩
def FL(n c:Nat)(hc:n<=c)(hm:c<=maxLen):
  C 153 #[.slice A n c] w λe w'=>e=.returned (.slice A n n)/\w'=w:=by
 unfold maxLen at hm
 go_in
 go_wp2;go_ret;exact⟨rfl,rfl⟩
def sL{w:World}{t e e':TypeId}(hT:cE P t e z s bytes)(hs0:0<s)(ty:TypeId){A:Option Addr}{c:Nat}(hm:w.ownsRow B e s (.slice A n c) n xs)(hg:g=w.heap.size)(hcs:cs.size=s)(h1:∀u∈cs.toList,u.oneCell'=true)
  (hlen:(n+1)*bytes<=140737488355328)(hle:n+1<=maxLen):
  ∃v' w',(Builtin.append_ #[t,t] ty #[.slice A n n,V g 0 1 1]).run P (w.alloc (.cells cs e'))=.ok v' w'/\w'.ownsRow w.heap.size e s v' (n+1) (xs++cs.toList)/\w.grownBy w' none:=by
 subst hg;obtain⟨i,q,r,d,l⟩:=info_parts hT.info;have m:cs.toList.length=1*i.size:=by simp[hcs,d]
 have f:∀j u,cs.toList[j]?=some u->(w.alloc (.cells cs e')).cell? (((Y w.heap.size 0):Addr).add j)=some u:=by
  intro j u o;rw[show((Y w.heap.size 0):Addr).add j=(Y w.heap.size j) by unfold Addr.add;split<;>simp_all];rw[Qg]
  simpa using o
 have h:∀{w':World} {row:Option Nat},(w.alloc (.cells cs e')).grownBy w' row->w.grownBy w' row:=λa=>
  ⟨a.os,a.tape,a.output,OJ zS a.size,λk x v=>(a.block k zT v).trans (Qh w _ k x)⟩
 rcases hm.2 with⟨b,rfl⟩|⟨g,G,H,b,L,N,_⟩
 ·have y:=OU (by simpa using hm.1);subst y;injection b with b _ _;subst b;obtain⟨v',w',p,b,a,_,O⟩:=run_append_own_at (P:=P) (w.alloc (.cells cs e')) (w.alloc (.cells cs e')).heap.size t ty e i z s bytes hT.under q r d l hT.cells hs0 (.slice none 0 0) 0 [] (Pn _ _ _ _) (Y w.heap.size 0) 1 1 cs.toList (by rw[m,d]) f h1 hle hlen zS;exact⟨v',w',p,aP b zS,h a⟩
 ·injection b with b _ D;subst b D;obtain⟨v',w',p,F,a⟩:=run_append_arg_grows (P:=P) (w.alloc (.cells cs e')) t ty e i z s bytes hT.under q r d l hT.cells hs0 (Y g 0) n n xs hm.1
    (λj u o=>(hm.alloc (.cells cs e')).cells (g:=g) rfl j u o) (Y w.heap.size 0) 1 1 cs.toList (by rw[m,d]) f zO hle hlen
  exact⟨v',w',p,aP F zS,h a⟩
def tW{w:World}{t e e':TypeId}{o:Oper}(hT:cE P t e z s bytes)(hs0:0<s)
  (sl x:Operand)(ho:o.op=.call {callee:=.builtin .append,args:=#[sl,x],argTypes:=#[t,t]})
  {A:Option Addr}{c:Nat}(hs:a.eval sl=.slice A n n)(hm:w.ownsRow B e s (.slice A n c) n xs)(hg:g=w.heap.size)(hx:a.eval x=V g 0 1 1)(hcs:cs.size=s)(h1:∀u∈cs.toList,u.oneCell'=true)
  (hlen:(n+1)*bytes<=140737488355328)(hle:n+1<=maxLen)
  (h:∀v' w',w'.ownsRow w.heap.size e s v' (n+1) (xs++cs.toList)->w.grownBy w' none->K (a.put o.dst v') w'):
  o.wp P a (w.alloc (.cells cs e')) K Q:=by
 obtain⟨v',w',b,d,f⟩:=sL (P:=P) (e':=e') hT hs0 o.type hm hg hcs h1 hlen hle;unfold Oper.wp execOp;simp only[ho,resolve,invoke,builtin,Sem.run_bind,Sem.run_pure,Result.andThen_ok,QS,Pi,Qs,hs,hx,b];exact h v' w' d f
def No:cE prog 134 268 (.agg #[I 0,.map none,.bool false]) 3 24:=⟨underlying134,zR,rfl⟩
def FM(c:Cg)(mb lb:Nat)(fs:List Fe)(kv:List (Option (Nat×List Fe)))(cv:Value)(m:Mp)(h:cq w c mb lb fs kv cv m)(hl:kv.length<=80000):
  C 115 #[Z mb 0] w λe w'=>e=.returned (fa m).val/\dM w w' c mb lb (iK m):=by
 have G:=zh w (.cells Rp.zero.arr 77);have al:=Blk.A8 w 77 Rp.zero.arr rfl;have HF:=Z1 (FI _ c mb lb fs kv cv m (h.up G) zO);have HB:=Z2 G al;have H:=Z1 h;have bk:liveN m.B9<=kv.length:=by rw[<-h.small];exact LV _
 simp only[Rp.zero,Rp.arr,St.zero,St.arr,az]at*;generalize b4:w.alloc (.cells #[I 0,I 0,I 0,I 0,I 0,I 0,I 0,I 0,I 0,I 0,I 0,I 0,I 0] 77)=V at*;by_cases n:64<=liveN m.B9
 ·have F:Hid (fa m=.of 6/\iK m=m):=Z1 (by unfold fa iK;rw[OB n,OB n];exact⟨rfl,rfl⟩);generalize liveN m.B9=lv at*;generalize kv.length=q at*;clear h G al
  go_in
  go_wp2_with fail;refine zm HF.o λw1 i=>?_;have HY:=Z2 (HB.o.2.later i) (af HB.o.1 i);clear i
  go_wp2_with (refine zj aA HY.o.1 ?_;intro w6 L bm)
  refine OH (au aA rfl L rfl _ rfl) rfl ⟨by rw[F.o.1];rfl,?_⟩;rw[F.o.2];exact H.o.same (bm.below HY.o.2 (OA _))
 ·have F:Hid (fa m=⟨0,m.B9.length+1,m.B9.length+1,.zero,az⟩/\iK m={m with B9:=m.B9++[some m.ls]}):=Z1 (by unfold fa iK;rw[Oz n,Oz n];exact⟨rfl,rfl⟩);rw[h.small]at F;obtain⟨q,hq⟩:∃q,q=kv.length:=⟨_,rfl⟩;rw[<-hq]at F hl bk;have HQ:=Z1 hq;generalize liveN m.B9=lv at*;clear h G al hq
  go_in
  go_wp2_with fail;refine zm HF.o λw2 i=>?_;have N:=H.o.up (af HB.o.1 i);have s:=N.B0;rw[<-HQ.o]at s;have v:=N.row;obtain⟨A,c1,rfl,bc,bn⟩:=ak v;rw[<-HQ.o]at v s bc;have e6:=s.cell 6;have f6:=s.frozen 6;have r:=Z4 i v s N.C1.map;clear i N s v;go_upto_region 4 with fail
  have ao:ag (λb=>b=mb) w2 (w2.setCell (Y mb 6) (I ((q:Int)+1))):=(ag.refl (λb=>b=mb) w2).setCell (p:=Y mb 6) (.inl rfl) _;have d:=r.o.2.2.1.B4 6 (I ((q:Int)+1));have O:=bA r.o.2.1 (p:=Y mb 6) (aB r.o.2.1 r.o.2.2.1 zP) (I ((q:Int)+1));have P:=aw.B7 r.o.2.2.2 ao (λe=>aw.C9 r.o.2.2.2 r.o.2.2.1 e);generalize w2.setCell (Y mb 6) (I ((q:Int)+1))=x at*;have d4:=d.cell 4;have d5:=d.cell 5;have d6:=d.cell 6;have ar:=d.lt;have H3:=Z4 ao d O P;have bq:=Z1 (λU=>FL U A q c1 bc bn);have D:=(zi x);clear ao d O P e6 f6;refine bW 20 (S:=λU=>M x U) zR zR D ?_;simp only[OM,OO,ON,OQ];try simp only[zD,zE,Nat.reduceAdd,zG]
  refine zL ?_;refine zq 4 ?_ (λW hW=>?_) ?_;rotate_left
  ·have q0:=(OF hW (p:=Y mb 5) ar).trans d5;exact zf
  refine zL ?_;refine zq 9 ?_ (λW hW=>?_) ?_;rotate_left
  ·have q0:=(OF hW (p:=Y mb 6) ar).trans d6;exact zf
  refine zL ?_;refine zq 13 ?_ (λW hW=>?_) ?_;rotate_left
  ·have q0:=(OF hW (p:=Y mb 4) ar).trans d4;exact zf
  refine zo 5 λK hK=>?_;go_simp;refine zl (bq.o _) ?_;refine zJ hK D ?_;refine zo 14 λK hK=>?_;go_simp
  (refine(Ax _ _ _ (aw.up H3.o.2.2.2 D)).mono ?_)
  rintro e6 w6 ⟨rfl,av,L⟩;have j:=af D L;refine zJ hK j ?_;refine zo 16 λK hK=>?_;go_simp;refine zJ hK (ae j _) ?_;refine zo 17 λK hK=>?_;try simp only[iZ]
  have Q:=aN H3.o.2.2.1 j;refine tW No zP (.tmp 19) (.tmp 30) rfl zF Q rfl zF rfl zV zO zU ?_;intro v7 w7 y t;have ay:M w6 w7:=⟨t.os,t.tape,t.output,t.size,λk hk=>t.block k hk zS⟩;have R:=af j ay;refine zJ hK R ?_;rw[bI];obtain⟨A7,c7,rfl,_,_⟩:=ak y;have z:=H3.o.2.1.later R;have e5:=z.cell 5;have f5:=z.frozen 5;have b1:¬(∃b,b=mb/\w6.heap.size<=b):=by rintro⟨b,rfl,h2⟩;have:=j.size;omega
  have bd:=aw.up av ay;have a2:=av.lt;have b2:=j.size;have a:=Z5 R z y bd a2;clear D j R z y bd av L ay t Q d4 d5 d6 a2;go_upto_region 5 with fail
  have a3:ag (λb=>b=mb) w7 (w7.setCell (Y mb 5) (.slice A7 (q+1) c7)):=(ag.refl (λb=>b=mb) w7).setCell (p:=Y mb 5) (.inl rfl) _;have l:=a.o.2.1.B4 5 (.slice A7 (q+1) c7);have T:=bA a.o.2.2.1 (p:=Y mb 5) (aB a.o.2.2.1 a.o.2.1 zP) (.slice A7 (q+1) c7);have X:=aw.B7 a.o.2.2.2.1 a3 (λe=>aw.C9 a.o.2.2.2.1 a.o.2.1 e);generalize w7.setCell (Y mb 5) (.slice A7 (q+1) c7)=w8 at*;have d5:=l.cell 5;have d6:=l.cell 6;have a5:=l.lt;have H8:=Z4 a3 l T X;have D:=(zi w8);clear a3 l T X e5 f5;refine bW 10 (S:=λU=>M w8 U) zR zR D ?_;simp only[OM,OO,ON,OQ];try simp only[zD,zE,Nat.reduceAdd,zG]
  refine zL ?_;refine zq 3 ?_ (λW hW=>?_) ?_;rotate_left
  ·have q0:=(OF hW (p:=Y mb 6) a5).trans d6;exact zf
  refine zL ?_;refine zq 7 ?_ (λW hW=>?_) ?_;rotate_left
  ·have q0:=(OF hW (p:=Y mb 5) a5).trans d5;exact zf
  refine zL ?_;rw[bI];clear d5 d6 D;have b5:=H.o.B0.lt;have be:¬w.heap.size=mb:=zO;have bf:=(H8.o.1.B0 (Blk.later (H3.o.1.B0 (HB.o.2.later r.o.1) be) a.o.1) be).drew;refine zj aA bf ?_;intro w9 aa bg;have ab:=Z1 bg;have br:=Z1 aa;clear bf bg aa;go_wp2;refine OH (au aA rfl br.o rfl _ rfl) rfl ⟨by rw[F.o.1];rfl,?_⟩;have b6:=HB.o.2.lt;have b7:=r.o.1.size;have b8:=H3.o.1.size;have bs:=(ag.B5 (af HB.o.1 r.o.1):ag (λb=>b=mb) w w2).trans H3.o.1;have bt:=(bs.trans (ag.B5 a.o.1)).trans H8.o.1;have hK:=bt.go (ag.drew (ag.refl (λb=>b=w.heap.size) w8) |>.trans ab.o.B7) λb e=>.inr (by have:b=w.heap.size:=e;omega);rw[F.o.2];have aa:=ab.o.B0 (Blk.drew H8.o.2.1) zO;have a9:=ab.o.B7.C8 (RG H8.o.2.2.1) λb g B=>by
   have h1:=(H8.o.2.2.1.lt b g).1;have h2:=B;omega
  have bb:=aw.B7 (aw.D3 H8.o.2.2.2 rfl:ig w8.drew _ _) ab.o.B7 (λe=>by have h2:x.drew.heap.size=w.heap.size:=e;have h3:x.drew.heap.size=x.heap.size:=rfl;omega);have a6:=H.o.C1.D1 H.o.C1.map H.o.B0;have ac:=H.o.C1.B7 hK (λe=>H.o.ne.1 e.symm) λf n=>⟨λb g B=>(a6 f n).1 b g (.inl B),λb g B=>(a6 f n).2 b g (.inl B)⟩;refine⟨⟨fs,kv++[some (x.drew.heap.size,fs)],.slice A7 (q+1) c7,⟨?_,ac,H.o.ls,?_,?_,?_⟩⟩,hK.C3 λb e=>.inl e⟩
  ·rw[OS];have:=HQ.o;simpa[<-this]using aa
  ·rw[OS,sJ,<-HQ.o];have h1:=aP a9 (OK _);simpa[nw,HQ.o]using h1
  ·show m.B9++[some m.ls]=_;rw[H.o.J8,QC,H.o.ls];rfl
  ·intro e he
   rcases Po.1 he with he|he
   ·have u:=(H.o.J9 e he).1;exact⟨u.B7 hK (λg=>aw.C9 u.map H.o.B0 g) λf n=>⟨λb g B=>(u.D1 u.map H.o.B0 f n).1 b g (.inl B),λb g B=>(u.D1 u.map H.o.B0 f n).2 b g (.inl B)⟩,(H.o.J9 e he).2⟩
   ·have h1:e=(x.drew.heap.size,fs):=by simpa using he
    subst h1;refine⟨⟨bb,ac.rows,ac.ids,ac.C6⟩,λg=>?_⟩;have h2:x.heap.size=lb:=g;have h3:=H.o.C1.map.lt;omega
def pI:∃z,cE prog 49 62 z 5 40:=by
 have h:(prog.info? 62).map (λi=>(i.zero.isSome,i.size,i.bytes,(i.zero.map λz=>z.cells.size)))=some (true,5,40,some 5):=zR
 cases hi:prog.info? 62 with
 |none=>simp[hi]at h
 |some i=>
  cases hzz:i.zero with
  |none=>simp[hi,hzz]at h
  |some z=>
   simp[hi,hzz]at h;exact⟨z,underlying49,by simp[hi,hzz,h],h.2.2⟩
def Ay(xs:List Value)(A:Option Addr)(c n:Nat)(w:World)(hr:an w w.heap.size 5 A n xs)(h1:∀u∈xs,u.oneCell'=true)(hn:n<=100000):
  C 109 #[.slice A n c] w λe w'=>∃v,e=.returned v/\aL 5 w w' 62 v n xs:=by
 rcases A with _|j
 ·have a:n=0:=by
   rcases PR n with a|a
   ·exact a
   ·obtain⟨j,h,_⟩:=hr.2 a
    cases h
  subst a;have m:=OU (by simpa using hr.1);rw[m];clear hr m;have D:∀w,(binOp .eql 49 (.slice none 0 c) (.slice none 0 0)).run prog w=.ok (.bool true) w:=λw=>zR
  go_in
  go_wp2;go_ret;exact⟨_,rfl,aL.F8 5 w 62⟩
 ·obtain⟨z,l⟩:=pI;have F:=Blk.A8 w 62 #[] (g:=w.heap.size) rfl;have p:=eI (B:=w.heap.size) (s:=5) (n:=0) F (OA _) zS (by simp[maxLen]);have q:=hr.alloc (OA _) (.cells #[] 62);obtain⟨i,r,t,d,f⟩:=info_parts l.info;have b:=Z4 r t d f;clear r t d f;have D:∀w,(binOp .eql 49 (.slice (some j) n c) (.slice none 0 0)).run prog w=.ok (.bool false) w:=λw=>zR
  go_in
  go_wp2_with (at_builtin;go_must (refine bP (w.alloc (.cells #[] 62)) rfl (.tmp 5) (.tmp 6) _ rfl w.heap.size 62 i z 5 40 l.under b.o.1 b.o.2.1 b.o.2.2.1 b.o.2.2.2 l.cells zP _ 0 [] rfl p w.heap.size (some j) n c xs rfl q h1 zU zO zS ?_);intro G w' x y _)
  go_ret;refine⟨G,rfl,by simpa using x,?_⟩;exact(ae (Oy _ w) (.cells #[] 62)).grown y zS λk H=>(p.lt k H).1
def CX(f:Fe)(h:gN w f)(h1:f.x.D2.length<=90000)(h2:f.x.C0.length<=90000):
  C 61 #[ldV f.sv f.pv f.x] w λe w'=>∃sv pv,e=.returned (ldV sv pv f.x)/\M w w'/\w'.ownsRow w.heap.size 66 2 sv f.x.D2.length (smps f.x.D2)/\w'.ownsRow w.heap.size 62 5 pv f.x.C0.length (advs f.x.C0):=by
 obtain⟨z,A,a,_,_⟩:=ak h.D2;obtain⟨B,D,d,_,_,F⟩:=h.C0.form;have j:=h.D2;rw[a]at j;have j:=an.C4 j;have HS:=Z1 (λU (hb:M w U)=>kI (smps f.x.D2) z A f.x.D2.length U (j.up hb) (jf _) zO);have HP:=Z1 (λU (hb:M w U)=>Ay (advs f.x.C0) B D f.x.C0.length U (F.up hb) (wL _) zO);obtain⟨id,sv,pv,⟨os,op,⟨R,T,X,p3,p4,p5⟩,s⟩⟩:=f;simp only at a d HS HP h1 h2 j F;subst a d;obtain⟨q,t⟩:∃n,n=os.length:=⟨_,rfl⟩;obtain⟨r,u⟩:∃n,n=op.length:=⟨_,rfl⟩;simp only[ldV];rw[<-t,<-u];rw[<-t]at HS;rw[<-u]at HP;have ad:=zh w (.cells #[.slice z q A,.slice B r D,I R,I T,I X,I p3,I p4,I p5,.bool s] 53);have ag:=ae ad (.cells #[.slice none 0 0,.slice none 0 0,I 0,I 0,I 0,I 0,I 0,I 0,.bool false] 53);have hx:=(Blk.A8 w 53 #[.slice z q A,.slice B r D,I R,I T,I X,I p3,I p4,I p5,.bool s] rfl).alloc (.cells #[.slice none 0 0,.slice none 0 0,I 0,I 0,I 0,I 0,I 0,I 0,.bool false] 53);have hy:=Blk.A8 (w.alloc (.cells #[.slice z q A,.slice B r D,I R,I T,I X,I p3,I p4,I p5,.bool s] 53)) 53 #[.slice none 0 0,.slice none 0 0,I 0,I 0,I 0,I 0,I 0,I 0,.bool false] (g:=w.heap.size+1) zS;have i:=Z3 ag hx hy;have HN:=Z2 t u;clear ad ag hx hy h h1 h2 j F t u
 go_in
 go_upto_region 1 with fail
 generalize hV:(w.alloc (.cells #[.slice z q A,.slice B r D,I R,I T,I X,I p3,I p4,I p5,.bool s] 53)).alloc (.cells #[.slice none 0 0,.slice none 0 0,I 0,I 0,I 0,I 0,I 0,I 0,.bool false] 53)=V at*;have d0:=i.o.2.1.cell 0;have d1:=i.o.2.1.cell 1;have ah:=i.o.2.1.lt;have G:=(zi V);refine bW 7 (S:=λU=>M V U) zR zR G ?_;simp only[OM,OO,ON,OQ];try simp only[zD,zE,Nat.reduceAdd,zG]
 refine zL ?_;refine zq 1 ?_ (λW hW=>?_) ?_;rotate_left
 ·have q0:=(OF hW (p:=Y w.heap.size 0) ah).trans d0;exact zf
 refine zL ?_;refine zq 4 ?_ (λW hW=>?_) ?_;rotate_left
 ·have q0:=(OF hW (p:=Y w.heap.size 1) ah).trans d1;exact zf
 refine zo 2 λK hK=>?_;go_simp
 (refine(HS.o _ (af i.o.1 G)).mono ?_)
 rintro e5 w5 ⟨sv,rfl,H⟩;have l:=af G H.below;refine zJ hK l ?_;refine zo 5 λK hK=>?_;go_simp
 (refine(HP.o _ (af i.o.1 l)).mono ?_)
 rintro e6 w6 ⟨pv,rfl,v⟩;have y:=af l v.below;refine zJ hK y ?_;rw[bI];have L:=aP (aN H.own v.below) (show w.heap.size<=_ from(af i.o.1 G).size);have N:=aP v.own (show w.heap.size<=_ from(af i.o.1 l).size);obtain⟨B1,k1,rfl,_,_⟩:=ak L;obtain⟨B2,k2,rfl,_,_⟩:=ak N;have k:=i.o.2.1.later y;have x0:=k.cell 0;have x1:=k.cell 1;have y0:=k.frozen 0;have y1:=k.frozen 1;have c:=Z4 L N y k;clear G l y H v L N k d0 d1;go_upto_region 2 with fail
 have O:=(c.o.2.2.2.B4 0 (.slice B1 q k1)).B4 1 (.slice B2 r k2);have P:=(aI.B4 w.heap.size w6 0 (.slice B1 q k1)).trans (aI.B4 w.heap.size _ 1 (.slice B2 r k2));generalize (w6.setCell (Y w.heap.size 0) (.slice B1 q k1)).setCell (Y w.heap.size 1) (.slice B2 r k2)=w8 at*;simp only[Ou,Ov,Ow]at O;obtain⟨⟨t0,t1,t2,t3,t4,t5,t6,t7,t8⟩, -⟩:=eR O;have ai:=P.B0 (i.o.2.2.later c.o.2.2.1) zO;have m:=Z2 P ai;clear O P ai x0 x1 y0 y1
 go_wp2_with (refine zj gO m.o.2 ?_;intro w9 a0 Q)
 refine OH (au gO rfl a0 rfl _ rfl) rfl ⟨_,_,rfl,?_,?_,?_⟩
 ·exact Q.below (m.o.1.below (af i.o.1 c.o.2.2.1) (OA _)) zO
 ·skip
  exact Q.B7.C8 (m.o.1.B7.C8 c.o.1 λb a d=>aB c.o.1 c.o.2.2.2 zP (d▸a)) λb a d=>aB (m.o.1.B7.C8 c.o.1 λb a d=>aB c.o.1 c.o.2.2.2 zP (d▸a)) m.o.2 zP (d▸a)
 ·skip
  exact Q.B7.C8 (m.o.1.B7.C8 c.o.2.1 λb a d=>aB c.o.2.1 c.o.2.2.2 zP (d▸a)) λb a d=>aB (m.o.1.B7.C8 c.o.2.1 λb a d=>aB c.o.2.1 c.o.2.2.2 zP (d▸a)) m.o.2 zP (d▸a)
def ny(c:Cg)(m:Mp)(x:Cl):Rp:=if bG x.tick x.value≠0 then .of (bG x.tick x.value)else if fO c m x.id=true then .of 6 else .zero
def oC(c:Cg)(m:Mp)(x:Cl):Mp:=if bG x.tick x.value≠0 then m else match dR c m (av x.id)with|none=>m|some y=>{m with ls:=aR m.ls (av x.id) (mg c y x.tick x.value)}
def oD{t v:Int}(h:bG t v=0):0<=t/\0<=v:=by
 unfold bG at h;split at h
 ·cases h
 ·split at h
  ·cases h
  ·omega
def Vi(w wx:World)(sa:Nat)(l:List Smp)(v:Value):Prop:=∃sb sl,v=Z sb 0/\M w wx/\eC wx sb sl l sa
def Jr(c:Cg)(hc:c.ok)(mb lb:Nat)(fs:List Fe)(kv:List (Option (Nat×List Fe)))(cv:Value)(m:Mp)(h:cq w c mb lb fs kv cv m)(hn:fs.length<=80000)(x:Cl)(hx:x.ok)(hi:bd x.id=true):
  Calls prog 113 #[.pointer (some ⟨mb,0,none⟩),x.val] w λe w'=>e=.returned (ny c m x).val/\dM w w' c mb lb (oC c m x):=by
 have bx:x.id.size<=maxLen:=by have:=(dn hi).2.1;unfold maxLen;omega
 have cy:=ae (Oy w.heap.size w) (.cells x.arr 73);have a0:=ae cy (.cells Rp.zero.arr 77);have bz:=(Blk.A8 w 73 x.arr rfl).alloc (.cells Rp.zero.arr 77);have cz:=Blk.A8 (w.alloc (.cells x.arr 73)) 77 Rp.zero.arr (g:=w.heap.size+1) (by simp);have HP:=Z1 (λW=>iC x.tick x.value W);have ef:=Z1 (λW hW=>vc W c hc mb lb fs kv cv m hW (by omega) x.id hi);have eg:=Z1 (λW (hW:ig W lb (fs.map Fe.val))=>hW.K0 bx);have H:=Z6 hc h hi bx hx hn;have HB:=Z3 a0 bz cz;have R:∀V,Below w.heap.size w V->V.cell? ⟨mb,4,none⟩=some (.map (some lb))/\V.cell? ⟨mb,1,none⟩=some (.int .i64 c.sa):=λV hb=>⟨(h.up hb).B0.cell 4,(h.up hb).B0.cell 1⟩;have da:=Z1 R;obtain⟨xk,id,j,l,ha,a,b,cc,d,e0,f⟩:=x;unfold Cl.val;simp only[Cl.arr,Rp.zero,Rp.arr,St.zero,St.arr,az]at*;obtain⟨⟨c0,c1,c2,c3,c4,c5⟩,c6,c7,c8,c9,eh⟩:=bh bz;clear h cy a0 bz cz hx hc hn bx R hi
 go_in
 go_wp2_with fail;generalize b0:w.heap.size=v9 at*;generalize (w.alloc (.cells #[.int .i64 xk,.string id,.int .i64 j,.int .i64 l,.int .i64 ha,.int .i64 a,.int .i64 b,.int .i64 cc,.int .i64 d,.int .i64 e0,.int .i64 f] 73)).alloc (.cells #[.int .i64 0,.int .i64 0,.int .i64 0,.int .i64 0,.int .i64 0,.int .i64 0,.int .i64 0,.int .i64 0,.int .i64 0,.int .i64 0,.int .i64 0,.int .i64 0,.int .i64 0] 77)=W at*;have db:=Z1 b0;clear b0;refine(HP.o _).mono ?_;rintro e w1 ⟨rfl,rfl⟩;have bm:Below w.heap.size w W:=by first|exact HB.o.1|(have:Below _ _ _:=HB.o.1;rw[<-db.o]at this;exact this)
 have z:=Z2 bm db.o;by_cases P:bG j l≠0
 ·as_aux_lemma=>
   have hX:ny c m ⟨xk,id,j,l,ha,a,b,cc,d,e0,f⟩=.of (bG j l)/\oC c m ⟨xk,id,j,l,ha,a,b,cc,d,e0,f⟩=m:=by
    unfold ny oC;exact⟨OB P,OB P⟩
   have HX:=Z1 hX;have HY:=Z2 HB.o.2.2 bm;generalize bG j l=pe at*;have b2:(pe==0)=false:=by simpa using P
   clear hX P bm
   go_wp2_with (refine ai aA rfl (.tmp 4) (.tmp 16) rfl (v9+1) (by rfl) _ (by rfl) HY.o.1 rfl (by rfl) (by simp[Value.oneCell']) ?_;intro w6 a4 ac)
   refine OH (au aA rfl a4 rfl _ rfl) rfl ⟨by rw[HX.o.1];rfl,?_⟩;rw[HX.o.2];exact H.o.2.1.same (ac.below HY.o.2 (by have:=z.o.2;omega))
 ·have ad:bG j l=0:=by simpa using P
  have HZ:=Z1 ad;rw[ad];clear P ad bm;go_wp2_with fail;refine zm (ef.o _ (H.o.2.1.up z.o.1)) λr a0=>?_;have N:=Z1 a0;clear a0 c0 c1 c2 c3 c4 c5 c6 c7 c8 c9 eh
  cases hfu:fO c m id with
  |true=>
   as_aux_lemma=>
   have hX:ny c m ⟨xk,id,j,l,ha,a,b,cc,d,e0,f⟩=.of 6/\oC c m ⟨xk,id,j,l,ha,a,b,cc,d,e0,f⟩=m:=by
    unfold ny oC;have P:=HZ.o;refine⟨?_,?_⟩
    ·rw[Oz (by show ¬bG j l≠0;rw[P];simp),OB hfu]
    ·rw[Oz (by show ¬bG j l≠0;rw[P];simp)];unfold fO at hfu;show(match dR c m (av id)with|none=>m|some y=>_)=m;rw[Option.isNone_iff_eq_none.1 hfu]
   have HX:=Z1 hX;have HY:=Z2 (HB.o.2.2.later N.o) (af z.o.1 N.o);clear hX hfu
   go_wp2_with (refine ai aA rfl (.tmp 4) (.tmp 21) rfl (v9+1) (by rfl) _ (by rfl) HY.o.1 rfl (by rfl) (by simp[Value.oneCell']) ?_;intro w6 a4 ac)
   refine OH (au aA rfl a4 rfl _ rfl) rfl ⟨by rw[HX.o.1];rfl,?_⟩;rw[HX.o.2];exact H.o.2.1.same (ac.below HY.o.2 (by have:=z.o.2;omega))
  |false=>
   have bn:=xB H.o.1 H.o.2.1.ls H.o.2.1.C1.ids H.o.2.2.1 hfu;have hX:ny c m ⟨xk,id,j,l,ha,a,b,cc,d,e0,f⟩=.zero/\oC c m ⟨xk,id,j,l,ha,a,b,cc,d,e0,f⟩={m with ls:=aR m.ls (av id) (mg c (dG fs id).x j l)}:=by
    unfold ny oC;have P:=HZ.o;refine⟨?_,?_⟩
    ·rw[Oz (by show ¬bG j l≠0;rw[P];simp),Oz (by show ¬fO c m id=true;rw[hfu];simp)]
    ·rw[Oz (by show ¬bG j l≠0;rw[P];simp)];show(match dR c m (av id)with|none=>m|some y=>_)=_;rw[bn]
   have HX:=Z1 hX;have L:=af z.o.1 N.o;have ah:=sK (H.o.2.1.up L).C1 id;have B:=mv H.o.2.1.C1 id;have bk:=qn fs id;have bl:=Z1 (λV (hb:Below r.heap.size r V)=>eg.o V ((H.o.2.1.up L).C1.up hb).map);obtain⟨A1,s1,A2,s2,e1,e2⟩:=jl ah;have aj:=Cg.small H.o.1;have b5:=OJ B.E5 aj.2.2.2.1;have ek:=Z3 ah B bk;have R:=da.o r (by first|exact L|(have:Below _ _ _:=L;rw[z.o.2]at this;exact this));have el:=(H.o.2.1.up L).B0.lt;have am:=HB.o.2.1.later N.o;have b6:=Z1 am;have ds:=am.lt;have g1:=am.cell 1;generalize dG fs id=em at*;obtain⟨en,f7,f8,⟨T,op,⟨p0,p1,p2,p3,p4,p5⟩,a5⟩⟩:=em;simp only at e1 e2;subst e1 e2;simp only[ldV]at bl;simp only at b5;obtain⟨n,bo⟩:∃n,n=T.length:=⟨_,rfl⟩;have f9:=Z1 bo;rw[<-bo]at b5 bl;have hr:=(an.C4 ah.D2);simp only at hr;rw[<-bo]at hr;have dc:=Z1 (λU (hb:Below r.heap.size r U)=>kI (smps T) A1 s1 n U (hr.up hb) (jf _) (by omega));have ce:∀s∈T++[⟨j,l⟩],0<=s.tick/\0<=s.value:=by
    intro s hs
    rcases Po.1 hs with hs|hs
    ·have:=B.right s hs;exact⟨this.1.1,this.2.1⟩
    ·rw[Py.1 hs];exact oD HZ.o
   have dd:=Z1 (λ(A:Option Addr) (k:Nat) (U:World) eo=>LZ c.sa aj.2.2.1 aj.2.2.2.1 (T++[⟨j,l⟩]) ce A k (n+1) U eo (by omega));have bp:soF c.sa (T++[⟨j,l⟩])=fV c.sa T ⟨j,l⟩:=by rw[rM,LX B.sorted B.E5]
   have de:=Z1 bp;have ao:(fV c.sa T ⟨j,l⟩).length<=256:=OJ ((pF B.sorted _).2.1 B.E5 aj.2.2.1) aj.2.2.2.1;have ep:=Z1 ao;clear hX hfu bn L ah B bk am bo hr ce bp ao aj;go_wp2;have i:=(Oy r.heap.size r).drew;refine bW 8 (S:=λV=>Below r.heap.size r V) (by kernel_rfl) (by kernel_rfl) i ?_;simp only[OM,OO,ON,OQ];try simp only[zD,zE,Nat.reduceAdd,zG]
   refine zp 0 ?_;refine zp 1 ?_;refine zp 2 ?_;refine zq 3 ?_ (λW hW=>?_) ?_;rotate_left
   ·have q0:=(OF hW (p:=⟨mb,4,none⟩) el).trans R.1;exact zf
   refine zp 4 ?_;refine zq 5 ?_ (λW hW=>?_) ?_;rotate_left
   ·have q0:=(OF hW (p:=⟨v9,1,none⟩) ds).trans g1;exact zf
   refine zq 6 ?_ (λW hW=>?_) ?_;rotate_left
   ·have ga:=bl.o _ hW;exact zf
   refine zo 7 λK hK=>?_;go_simp;refine hK _ _ (ae i _) ?_;clear hK;refine zn ?_;refine zd ?_;rw[bI];clear i g1 R;go_upto_region 7 with(refine ai gO rfl (.tmp 6) (.tmp 28) rfl r.heap.size (by rfl) _ (by rfl) (Blk.A8 r.drew 53 (ldC (.slice none 0 0) (.slice none 0 0) .new) rfl) rfl (by rfl) (by simp[Value.oneCell']) ?_;intro F df dg;have O:=Z2 df (dg.below (ae (Oy r.heap.size r).drew _) (OA _));clear df dg)
   obtain⟨⟨t0,t1,t2,t3,t4,t5,t6,t7,t8⟩,u2,u3,u4,u5,u6,u7,u8⟩:=eR O.o.1;have Q:=b6.o.later O.o.2;have k2:=Q.cell 2;have k3:=Q.cell 3;have bq:=Q.lt;have a6:=af (af z.o.1 N.o) O.o.2;have eq:=(da.o F (by first|exact a6|(have:Below _ _ _:=a6;rw[z.o.2]at this;exact this))).2;have d1:=(H.o.2.1.up a6).B0.lt;have d2:=O.o.1.lt;have gb:=Z1 a6;clear Q a6 t1 t2 t3 t4 t5 t6 t7 t8 u2 u3 u4 u5 u6 u7 u8;have i:=(Oy F.heap.size F).drew;obtain⟨i0,dh,ad,di,b2⟩:=info_parts gl.info;have HI:=Z4 dh ad di b2;clear dh ad di b2;go_frame;go_cut [7] (λv7 wx=>Vi F wx c.sa (fV c.sa T ⟨j,l⟩) v7)
   case first=>
    refine ay (S:=λV=>Below F.heap.size F V) (by kernel_rfl) i ?_;generalize F.drew=U at*;simp only[zD,zE,Nat.reduceAdd,zG];refine zp 0 ?_;refine zp 1 ?_;refine zp 2 ?_;refine zp 3 ?_;refine zq 4 ?_ (λW hW=>?_) ?_;rotate_left
    ·have q0:=(OF hW (p:=⟨mb,1,none⟩) d1).trans eq;exact zf
    refine zp 5 ?_;refine zq 6 ?_ (λW hW=>?_) ?_;rotate_left
    ·have q0:=(OF hW (p:=⟨r.heap.size,0,none⟩) d2).trans t0;exact zf
    refine zp 8 ?_;refine zq 9 ?_ (λW hW=>?_) ?_;rotate_left
    ·have q0:=(OF hW (p:=⟨v9,2,none⟩) bq).trans k2;exact zf
    refine zp 10 ?_;refine zq 11 ?_ (λW hW=>?_) ?_;rotate_left
    ·have q0:=(OF hW (p:=⟨v9,3,none⟩) bq).trans k3;exact zf
    refine zp 12 ?_;refine nQ 7 13 (by kernel_rfl) rfl rfl (by rfl) (by rfl) (λK hK=>?_) (λK hK=>?_)
    ·skip
     go_simp
     (refine(dc.o _ (af O.o.2 i)).mono ?_)
     rintro e5 U ⟨sv,rfl,u⟩;obtain⟨A5,k5,rfl,es,d6⟩:=ak u.own;have hm:=aP u.own (show F.heap.size<=_ from i.size);try have hn:=hn.up u.below
     have i:=af i u.below;clear u;refine hK _ _ i ?_;clear hK;refine zn ?_;refine zo 13 λK hK=>?_;go_simp;have i:=ae i (.cells #[.int .i64 j,.int .i64 l] 66);have hn:=(dD U 66 #[.int .i64 j,.int .i64 l] 2 1 U.heap.size (U.heap.size+1) rfl rfl rfl).more (B':=(U.alloc (.cells #[.int .i64 j,.int .i64 l] 66)).heap.size) (by simp);try have hm:=hm.alloc (.cells #[.int .i64 j,.int .i64 l] 66)
     refine hK _ _ i ?_;clear hK;refine zn ?_;refine zo 14 λK hK=>?_;refine dC _ (.tmp 36) (.tmp 42) 48 rfl F.heap.size 66 i0 _ 2 16 underlying48 HI.o.1 HI.o.2.1 HI.o.2.2.1 HI.o.2.2.2 rfl (by decide) (.slice A5 n k5) n (smps T) (by rfl) hm _ _ 1 1 _ (by rfl) hn (by simp[Value.oneCell']) (by unfold maxLen;omega) (by omega) i.size ?_;intro v7 U a8 ci _;obtain⟨A7,k7,rfl,et,d9⟩:=ak a8;have i:=i.grown ci i.size λk hk=>(hm.lt k hk).1;refine hK _ _ i ?_;clear hK;refine zn ?_;refine zo 15 λK hK=>?_;go_simp
     (refine(dd.o A7 k7 _ (by have:=an.C4 a8;simpa[smps,Smp.cells]using this)).mono ?_)
     rintro e8 U ⟨sb,sl,rfl,D,eu,ev,cl⟩;have i:=af i cl;refine hK _ _ i ?_;clear hK;refine zn ?_;refine zp 16 ?_;refine zd ?_;go_wp2;go_meet;exact⟨sb,sl,rfl,i,by have:=D;rwa [de.o]at this⟩
    ·skip
     go_simp;have i:=ae i (.cells #[.int .i64 j,.int .i64 l] 66);have hn:=(dD U 66 #[.int .i64 j,.int .i64 l] 2 1 U.heap.size (U.heap.size+1) rfl rfl rfl).more (B':=(U.alloc (.cells #[.int .i64 j,.int .i64 l] 66)).heap.size) (by simp);try have hm:=hm.alloc (.cells #[.int .i64 j,.int .i64 l] 66)
     refine hK _ _ i ?_;clear hK;refine zn ?_;refine zo 7 λK hK=>?_;go_simp
     (refine(dc.o _ (af O.o.2 i)).mono ?_)
     rintro e5 U ⟨sv,rfl,u⟩;obtain⟨A5,k5,rfl,es,d6⟩:=ak u.own;have hm:=aP u.own (show F.heap.size<=_ from i.size);try have hn:=hn.up u.below
     have i:=af i u.below;clear u;refine hK _ _ i ?_;clear hK;refine zn ?_;refine zo 14 λK hK=>?_;refine dC _ (.tmp 36) (.tmp 42) 48 rfl F.heap.size 66 i0 _ 2 16 underlying48 HI.o.1 HI.o.2.1 HI.o.2.2.1 HI.o.2.2.2 rfl (by decide) (.slice A5 n k5) n (smps T) (by rfl) hm _ _ 1 1 _ (by rfl) hn (by simp[Value.oneCell']) (by unfold maxLen;omega) (by omega) i.size ?_;intro v7 U a8 ci _;obtain⟨A7,k7,rfl,et,d9⟩:=ak a8;have i:=i.grown ci i.size λk hk=>(hm.lt k hk).1;refine hK _ _ i ?_;clear hK;refine zn ?_;refine zo 15 λK hK=>?_;go_simp
     (refine(dd.o A7 k7 _ (by have:=an.C4 a8;simpa[smps,Smp.cells]using this)).mono ?_)
     rintro e8 U ⟨sb,sl,rfl,D,eu,ev,cl⟩;have i:=af i cl;refine hK _ _ i ?_;clear hK;refine zn ?_;refine zp 16 ?_;refine zd ?_;go_wp2;go_meet;exact⟨sb,sl,rfl,i,by have:=D;rwa [de.o]at this⟩
   case rest=>
    obtain⟨sb,sl,rfl,i,D⟩:=hcut;have aq:=D;obtain⟨nl,br⟩:∃nl,nl=fV c.sa T ⟨j,l⟩:=⟨_,rfl⟩;rw[<-br]at aq;have cm:=Z2 i aq;have ew:=Z1 br;have f2:=D.B0.lt;have f3:nl.length<=256:=by rw[br];exact ep.o
    clear i D aq br;go_wp2_with fail;refine(jq sb sl nl c.sa _ cm.o.2 (by omega)).mono ?_;rintro e9 w9 ⟨vr,rfl,bs⟩;obtain⟨A9,k9,rfl,gc,f4⟩:=ak bs.own;have cn:Below F.heap.size F w9:=af cm.o.1 bs.below;have ar:=O.o.1.later cn;have dj:=Z1 (aP bs.own (show F.heap.size<=_ from cm.o.1.size));generalize hq:nl.length=q at*;have HQ:=Z1 hq;have t0:=ar.cell 0;have f0:=ar.frozen 0;have H9:=Z2 cn ar;clear bs cn ar hq;go_upto_region 9 with fail
    have co:=H9.o.2.B4 0 (.slice A9 q k9);have cp:=aI.B4 r.heap.size w9 0 (.slice A9 q k9);generalize w9.setCell ⟨r.heap.size,0,none⟩ (.slice A9 q k9)=V5 at*;simp only[ldC,Ou,Ov]at co;have cs:Below r.heap.size r V5:=cp.below (af O.o.2 H9.o.1) (OA _);have bb:=Z2 cs co;have bt:=cp.B7.C8 dj.o λg hg e=>aB dj.o H9.o.2 (by decide) (e▸hg);have ey:=Z1 bt;have ct:=af (af z.o.1 N.o) cs;have al:=Z1 (H.o.2.1.up ct);clear t0 f0 cp cs co bt;have g1:V5.cell? ⟨v9,1,none⟩=some (.string id):=(b6.o.later bb.o.1).cell 1;have R:V5.cell? ⟨mb,4,none⟩=some (.map (some lb)):=al.o.B0.cell 4;obtain⟨⟨t0,t1,t2,t3,t4,t5,t6,t7,t8⟩,_⟩:=eR bb.o.2;have dk:=Z1 ct;clear ct;refine aY 7 (by kernel_rfl) (by kernel_rfl) ?_;simp only[OM,OO,ON,OQ];repeat still_step
    refine wpStill_nil ?_;refine cZ rfl _ _ _ 133 53 rfl lE underlying133 id H.o.2.2.2.1 (ldV (.slice A9 q k9) (.slice A2 op.length s2) ⟨nl,op,⟨p0,p1,p2,p3,p4,p5⟩,a5⟩) rfl rfl rfl (aw.D3 al.o.C1.map rfl) (by rw[Pe];have:=H.o.2.2.2.2.2;omega) ?_;intro V6 dl G ez;have dm:Blk V6 (v9+1) 77 _:=G.B0 (Blk.drew (HB.o.2.2.later (af N.o bb.o.1))) (λe=>aw.C9 al.o.C1.map (HB.o.2.2.later (af N.o bb.o.1)) e.symm);have bu:=Z3 dl G dm;clear dl G ez dm g1 R t0 t1 t2 t3 t4 t5 t6 t7 t8
    go_wp2_with (refine ai aA rfl (.tmp 4) (.tmp 55) rfl (v9+1) (by rfl) _ (by rfl) bu.o.2.2 rfl (by rfl) (by simp[Value.oneCell']) ?_;intro w6 a4 ac)
    refine OH (au aA rfl a4 rfl _ rfl) rfl ⟨by rw[HX.o.1];rfl,?_⟩;rw[HX.o.2];obtain⟨ah,B,bk⟩:=ek.o;have b0:=z.o.2;have gd:=dk.o.size;have hD:=bu.o.1;have G:=bu.o.2.1;have ax:ag (λb=>b=lb) V5 V6:=⟨G.os,G.tape,G.output,G.size,G.block⟩;have ao:=kz fs ⟨id,.slice A9 q k9,.slice A2 op.length s2,⟨nl,op,⟨p0,p1,p2,p3,p4,p5⟩,a5⟩⟩;rw[ao]at hD;have X:gN V5 ⟨en,.slice A9 q k9,.slice A2 op.length s2,⟨nl,op,⟨p0,p1,p2,p3,p4,p5⟩,a5⟩⟩:=⟨by have h1:=aP ey.o (OK _);rw[<-HQ.o]at h1 ⊢;exact h1,ah.C0.later bb.o.1⟩;have ee:gN V6 ⟨id,.slice A9 q k9,.slice A2 op.length s2,⟨nl,op,⟨p0,p1,p2,p3,p4,p5⟩,a5⟩⟩:=
     ⟨ax.C8 X.D2 λg hg e=>aw.E7 al.o.C1.map X.D2 (e▸hg),X.C0.D3 λg hg=>ax.block g (X.C0.lt g hg).2 λe=>fZ al.o.C1.map X.C0 (e▸hg)⟩
    have dp:=oD HZ.o;have dq:=H.o.2.2.2.2.1;have bv:=mS H.o.1 B (t:=j) (v:=l) ⟨dp.1,dq.tick.2⟩ ⟨dp.2,dq.value.2⟩;unfold mg at bv ⊢;simp only at bv ⊢;rw[<-ew.o]at bv ⊢;have e6:=al.o.put ⟨id,.slice A9 q k9,.slice A2 op.length s2,⟨nl,op,⟨p0,p1,p2,p3,p4,p5⟩,a5⟩⟩ H.o.2.2.1 bv ee ax hD;have e7:ag (λb=>b=mb\/b=lb) w w6:=by
     refine bL ((ag.B5 dk.o).trans (ax.C3 λb e=>.inr e)) ac.B7 λb hb e=>?_;omega
    exact⟨⟨_,_,_,e6.only ac bu.o.2.2⟩,e7⟩
structure NV(w0 w:World)(sv pv:Value)(x:Ld):Prop where
 D2:w.ownsRow w0.heap.size 66 2 sv x.D2.length (smps x.D2)
 C0:w.ownsRow w0.heap.size 62 5 pv x.C0.length (advs x.C0)
 below:M w0 w
def Az{w:World}{c:Cg}{lb:Nat}{fs:List Fe}(h:ig w lb (fs.map Fe.val)){s:ByteArray}(hs:s.size<=maxLen):
  (Instr.lookup 133 (.map (some lb)) (.string s) true).run prog w=.ok (.tuple #[ldV (dG fs s).sv (dG fs s).pv (dG fs s).x,.bool (eA fs s).isSome]) w:=by
 rw[h.look_ok hs,Bx,mu]
 cases eA fs s<;>rfl
def FO(c:Cg)(hc:c.ok)(mb lb:Nat)(fs:List Fe)(kv:List (Option (Nat×List Fe)))(cv:Value)(m:Mp)(h:cq w c mb lb fs kv cv m)(i:ByteArray)(hil:i.size<=maxLen):
  C 17 #[Z mb 0,.string i] w λe w'=>∃sv pv,e=.returned (.tuple #[ldV sv pv (dG fs i).x,.bool (eA fs i).isSome])/\NV w w' sv pv (dG fs i).x:=by
 have hs:=Cg.small hc;have j:=zh w (.cells #[.slice none 0 0,.slice none 0 0,I 0,I 0,I 0,I 0,I 0,I 0,.bool false] 53);have B:=Blk.A8 w 53 #[.slice none 0 0,.slice none 0 0,I 0,I 0,I 0,I 0,I 0,I 0,.bool false] rfl;have a:=h.up j;have HM:=Z1 (fg _ c mb lb fs kv cv m a);have P:=Az (c:=c) a.C1.map hil;have c4:=a.B0.cell 4;have k:=sK a.C1 i;have l:=mv a.C1 i;have D:=Z1 (λU hU=>CX U (dG fs i) hU (by have:=l.E5;omega) (by have:=l.C0;omega));have Q:=Z1 k;obtain⟨A1,s1,A2,s2,R,S⟩:=jl k;generalize T:(eA fs i).isSome=is at*;generalize dG fs i=X at*;obtain⟨aa,a9,ba,⟨L,N,⟨p0,p1,p2,p3,p4,p5⟩,ab⟩⟩:=X;simp only at R S;subst R S;simp only[ldV]at*;simp at c4;have z:=Z2 j B;obtain⟨n1,p⟩:∃n,n=L.length:=⟨_,rfl⟩;obtain⟨n2,q⟩:∃n,n=N.length:=⟨_,rfl⟩;rw[<-p,<-q]at P D;have A:=Z2 p q;clear h a j B k l hs T p q
 go_in
 go_wp2_with fail;generalize r:w.heap.size=v9 at*;have F:=Z1 r;clear r;generalize w.alloc (.cells #[.slice none 0 0,.slice none 0 0,I 0,I 0,I 0,I 0,I 0,I 0,.bool false] 53)=W at*;refine HM.o.mono ?_;rintro e w1 ⟨rfl,rfl⟩
 go_wp2_with (refine zj gO (Blk.A8 W 53 (ldC (.slice none 0 0) (.slice none 0 0) .new) rfl) ?_;intro w3 s G;have b:=Z2 s (G.below (zh W _) (OA _));obtain⟨⟨t0,t1,t2,t3,t4,t5,t6,t7,t8⟩,_⟩:=eR s;clear s G)
 have f:gN w3 ⟨aa,.slice A1 L.length s1,.slice A2 N.length s2,⟨L,N,⟨p0,p1,p2,p3,p4,p5⟩,ab⟩⟩:=⟨aN Q.o.D2 b.o.2,Q.o.C0.later b.o.2⟩;rw[<-A.o.1,<-A.o.2]at f;have ae:=Z1 f;clear f t0 t1 t2 t3 t4 t5 t6 t7 t8;refine(D.o w3 ae.o).mono ?_;rintro e w4 ⟨sv,pv,rfl,t,u,v⟩;have d:=Z3 t u v;have H:=z.o.2.later (af b.o.2 t);have ag:=Z1 H;obtain⟨B1,k1,rfl,_,_⟩:=ak u;obtain⟨B2,k2,rfl,_,_⟩:=ak v;clear t u v H
 go_wp2_with (refine zj gO ag.o ?_;intro w9 ah y)
 have r:=F.o;have bb:=b.o.2.size;have bc:=z.o.2.lt;have ai:=af (by first|exact z.o.1|(have:Below _ _ _:=z.o.1;rw[<-F.o]at this;exact this)) (af b.o.2 d.o.1);refine OH (cx gO rfl ah rfl _ rfl) rfl ⟨_,_,rfl,?_,?_,y.below ai zO⟩
 ·have a:=y.B7.C8 d.o.2.1 λg O e=>p8 d.o.2.1 (show v9<_ by omega) (e▸O);rw[<-A.o.1];exact aP a zO
 ·have a:=y.B7.C8 d.o.2.2 λg O e=>p8 d.o.2.2 (show v9<_ by omega) (e▸O);rw[<-A.o.2];exact aP a zO
def Mc(p:Pl)(l:List Smp)(C0:List Adv)(A A2:Option Addr)(n c n2 c2:Nat)(w:World)(h:wg p l C0 A A2 n n2 w):
  C 84 #[p.val,.slice A n c,.slice A2 n2 c2] w (J (.tuple #[.agg (rt p l C0).arr,I (fW p l)]) w):=by
 by_cases a:fW p l=0
 ·refine(Mb p l C0 A A2 n c n2 c2 w h a).mono ?_;rintro e w' ⟨rfl,b⟩;refine⟨?_,b⟩;rw[a];unfold rt;rw[OB a]
 ·refine(Nq p l C0 A A2 n c n2 c2 w h a).mono ?_;rintro e w' ⟨rfl,b⟩;refine⟨?_,b⟩;unfold rt;rw[Oz a];rfl
def opC(o:Int×Int):List Value:=[I o.1,I o.2]
def d7(l:List (Int×Int)):List Value:=l.flatMap opC
def Dx(o:Int×Int):(opC o).length=2:=rfl
def yc(r:List (Int×Int)):d7 l++d7 r=d7 (l++r):=by simp[d7]
def Ke:∀u∈d7 l,u.oneCell'=true:=by
 intro u b;obtain⟨o,_,a⟩:=QU.1 b;simp[opC]at a
 rcases a with rfl|rfl<;>rfl
def Cg.I0{c:Cg}(hc:c.ok):(c.st:Int)<=64/\0<(c.st:Int):=by have:=Cg.small hc;omega
def s7:cE prog 194 250 (.agg #[I 0,I 0]) 2 16:=⟨underlying194,zR,rfl⟩
def mW{w:World}{t:TypeId}{c:Cg}(hb:Blk w g t c.cells.toArray):w.cell? (Y g 0)=some (I c.st)/\w.cell? (Y g 1)=some (I c.sa)/\w.cell? (Y g 2)=some (I c.lo)/\w.cell? (Y g 3)=some (I c.hi):=⟨hb.cell 0,hb.cell 1,hb.cell 2,hb.cell 3⟩
def ju(c:Cg)(hc:c.ok)(w:World):C 97 #[.agg #[I c.st,I c.sa,I c.lo,I c.hi]] w λe w'=>e=.returned (I ((c.st:Int)+1))/\M w w':=by
 have b:=Cg.I0 hc;have a:=Z1 (zh w (.cells #[I c.st,I c.sa,I c.lo,I c.hi] 23));obtain⟨st,sa,lo,hi⟩:=c;simp only at*;clear hc
 go_in
 go_wp2;go_ret;exact⟨rfl,a.o⟩
def mX(c:Cg)(w:World):C 175 #[.agg #[I c.st,I c.sa,I c.lo,I c.hi]] w (J (I (c.st:Int)) w):=by
 have a:=Z1 (zh w (.cells #[I c.st,I c.sa,I c.lo,I c.hi] 23));obtain⟨st,sa,lo,hi⟩:=c;simp only at*
 go_in
 go_wp2;go_ret;exact⟨rfl,a.o⟩
def pP(c:Cg)(hc:c.ok)(i:ByteArray)(hi:bd i=true)(w:World):C 173 #[.agg #[I c.st,I c.sa,I c.lo,I c.hi],.string i] w (J (I (i7 c i)) w):=by
 have a:=zh w (.cells c.cells.toArray 23);have f:=Blk.A8 w 23 c.cells.toArray rfl;have v:=Z1 (λW=>oA i W hi);have m:=Z1 (λW=>rI (av i) (c.st:Int) W (jh i (dn hi).2.1) (Cg.I6 hc));have n:i7 c i=gg (av i) c.st:=rfl;rw[<-n]at m;generalize i7 c i=B at*;generalize av i=x at*;obtain⟨y,z⟩:=x;have q:=Z2 a f;obtain⟨k,D,F,G⟩:=mW f;obtain⟨st,sa,lo,A⟩:=c;simp only[K2.val,K2.arr,Cg.cells]at*;clear a f n hc hi
 go_in
 go_wp2_with fail;refine zm (v.o _) λr a=>?_;have b:=q.o.2.later a;have s:=Z1 (af q.o.1 a);have k:=b.cell 0;simp at k;have l:=b.lt;clear b a
 go_wp2_with (refine zj lj (cs:=#[E y,E z]) (Blk.A8 r 58 #[E 0,E 0] rfl) ?_;intro H g h;have d:=h.below (zh r (.cells #[E 0,E 0] 58)) (OA _);have t:=Z2 d g;obtain⟨L,N⟩:=ao g;have O:=(OF d (p:=Y w.heap.size 0) l).trans k;clear h g d)
 refine zm (m.o _) λP j=>?_;have u:=Z1 (af s.o (af t.o.1 j));clear j;go_wp2;go_ret;exact⟨rfl,u.o⟩
def jo(a b:Int)(w:World):C 172 #[I a,I b] w λe w'=>∃v,e=.returned v/\aL 2 w w' 250 v 3 (d7 (bK a b)):=by
 go_in
 go_wp2;go_ret;refine⟨_,rfl,eI (Blk.A8 w _ _ rfl) (OA _) rfl (by simp[maxLen]),ae (Oy _ _) _⟩
def yd(c:Cg)(hc:c.ok)(kd:Int)(w:World):C 174 #[.agg #[I c.st,I c.sa,I c.lo,I c.hi],I kd] w λe w'=>∃v,e=.returned v/\aL 2 w w' 250 v c.st (d7 (dr c kd)):=by
 have D:=Cg.I0 hc;have d:=zh w (.cells c.cells.toArray 23);have a:=Blk.A8 w 23 c.cells.toArray rfl;have r:=Z2 d a;obtain⟨H,L,g,l⟩:=mW a;have s:Hid (∀k,k<=c.st->d7 ((dr c kd).take (k+1))=d7 ((dr c kd).take k)++if k<c.st then opC (kd,k)else[]):=Z1 (λk m=>by
  by_cases h:k<c.st
  ·rw[OB h];have t:k<(dr c kd).length:=by simp[dr,h]
   rw[OG t,<-yc];simp[dr,d7]
  ·rw[Oz h,OT (by simp[dr];omega),OT (by simp[dr];omega),PC])
 have u:Hid ((dr c kd).length=c.st):=Z1 (by simp[dr]);generalize dr c kd=x at*;obtain⟨st,sa,lo,F⟩:=c;simp only[Cg.cells]at*;clear d a hc
 go_in
 go_wp2;go_loopw [5,9] (λv i wr=>∃(k:Nat),k<=st/\i=I k/\∃(n:Option Addr) (g:Nat),v=.slice n k g/\Hid (aL 2 w wr 250 v k (d7 (x.take k)))) (λ_ i _=>st-(intOf i).toNat)
 case atStart=>exact⟨0,OK _,rfl,none,0,rfl,Z1 (by rw[OO];exact aL.L8 2 r.o.1 _)⟩
 case round=>
  obtain⟨k,m,rfl,n,g,rfl,b⟩:=hrel;by_cases p:k<st
  ·have G:(k:Int)<(st:Int):=zO;have j:=s.o k m;rw[OB p]at j;have y:=Z1 j;have z:k<=64:=zO;clear j
   go_wp2_with (at_builtin;go_must (refine bZ (w:=wr) s7 zP rfl (.tmp 12) (.tmp 16) rfl zF b.o.own b.o.le rfl zF rfl zV zO zU ?_);intro N w' f q)
   obtain⟨A,l,rfl,_,_⟩:=ak f;go_roundw
   case rel=>exact⟨k+1,zO,by go_num,A,l,rfl,Z1 (by rw[y.o];exact b.o.app q f)⟩
   case measure=>simp[intOf];omega
  ·obtain rfl:k=st:=zO;have B:=Z1 (OT (by rw[u.o];omega));go_wp2;go_ret;exact⟨_,rfl,by have:=b.o;rw[B.o]at this;exact this⟩
structure GIn(w:World)(c:Cg)(T:Nat->Tg)(wp:Nat)(g:Gs)(cs:Array Value)(sp lb:Nat):Prop where
 B0:Blk w wp 165 cs
 size:cs.size=16
 c0:cs[0]?=some (I c.st)
 c1:cs[1]?=some (I c.sa)
 c2:cs[2]?=some (I c.lo)
 c3:cs[3]?=some (I c.hi)
 c4:cs[4]?=some (Z sp 0)
 c5:cs[5]?=some (V lb 0 (c.st+1) (c.st+1))
 tw:T wp=.wld
 G3:eH w c T sp g.mp
 E4:s6 w T lb g.E4
 nl:g.E4.length=c.st+1
 ln:xZ w T wp cs g.ln g.B3
 wq:WqT w T wp cs g.q
 ev:EvT w T cs g.ev
def GAt(w:World)(c:Cg)(T:Nat->Tg)(wp:Nat)(g:Gs):Prop:=∃cs sp lb,GIn w c T wp g cs sp lb
def eN:Tg->Prop
 | .wld=>True
 | .lk _=>True
 | .ln=>True
 | .al=>True
 | .q=>True
 | .ev=>True
 |t=>eE t
def bj(w w':World)(c:Cg)(T:Nat->Tg)(wp:Nat)(g:Gs):Prop:=∃T',aW T T' w.heap.size/\GAt w' c T' wp g/\ag (λb=>eN (T b)) w w'
section
variable {w w' w'':World} {c:Cg} {T T':Nat→Tg} {wp sp lb:Nat} {g g':Gs} {cs:Array Value}
def GIn.up(h:GIn w c T wp g cs sp lb)(hb:M w w'):GIn w' c T wp g cs sp lb:=by
 have hK:ag (λ_=>False) w w':=ag.B5 hb;have a:=h.B0.later hb;exact⟨a,h.size,h.c0,h.c1,h.c2,h.c3,h.c4,h.c5,h.tw,h.G3.up hb,h.E4.D1 hK (λ_ _ _ e=>e) (λ_ _ _=>rfl),h.nl,h.ln.D1 a (λ_ _ _=>rfl) hK (λ_ _ e=>e) (λ_ _ _=>rfl),h.wq.D1 a (λ_ _ _=>rfl) hK (λ_ _ e=>e) (λ_ _ _=>rfl),h.ev.D1 rfl hK (λ_ _ e=>e) λ_ _ _=>rfl⟩
def GAt.up(h:GAt w c T wp g)(hb:M w w'):GAt w' c T wp g:=by
 obtain⟨a,b,d,h⟩:=h;exact⟨a,b,d,h.up hb⟩
def bj.trans(h1:aW T T' w.heap.size)(hK:ag (λb=>eN (T b)) w w')(h2:bj w' w'' c T' wp g'):bj w w'' c T wp g':=by
 obtain⟨d,f,g,h⟩:=h2;refine⟨d,h1.trans f hK.size,g,bL hK h λb i e=>?_⟩
 rcases h1 b i with a|⟨k,a,j⟩
 ·rwa [a]at e
 ·rw[a];trivial
def bj.after(hb:M w w')(h2:bj w' w'' c T wp g'):bj w w'' c T wp g':=bj.trans (aW.refl _ _) (ag.B5 hb) h2
end
def ye:cU prog 23 4:=⟨zR,zR,zR⟩
def gB(w:World)(c:Cg)(T:Nat->Tg)(wp:Nat)(g:Gs)(h:GAt w c T wp g):C 72 #[Z wp 0] w λe w'=>e=.returned (.bool true)/\w=w':=by
 obtain⟨a,b,d,h⟩:=h;have f:=(h.B0.cell 4).trans h.c4;clear h
 go_in
 go_wp2;go_ret;exact⟨rfl,rfl⟩
def kW(w:World)(c:Cg)(T:Nat->Tg)(wp:Nat)(g:Gs)(h:GAt w c T wp g):C 261 #[Z wp 0] w (J c.val w):=by
 have b:=zh w (.cells #[I 0,I 0,I 0,I 0] 23);have j:=Z1 (gB _ c T wp g (h.up b));obtain⟨p,q,r,h⟩:=h;have a:=h.B0.later b;have k:=(a.cell 0).trans h.c0;have l:=(a.cell 1).trans h.c1;have m:=(a.cell 2).trans h.c2;have n:=(a.cell 3).trans h.c3;have d:=Z2 b (Blk.A8 w 23 #[I 0,I 0,I 0,I 0] rfl);obtain⟨s,t,u,v⟩:=c;unfold Cg.val;simp only at k l m n;clear h b a
 go_in
 go_wp2_with fail;refine j.o.mono ?_;rintro e x ⟨rfl,rfl⟩
 go_wp2_with (refine zj ye d.o.2 ?_;intro y f i)
 exact OH (au ye rfl f rfl _ rfl) rfl ⟨rfl,i.below d.o.1 (OA _)⟩
def oR(w:World)(c:Cg)(T:Nat->Tg)(wp:Nat)(g:Gs)(cs:Array Value)(sp lb:Nat)(h:GIn w c T wp g cs sp lb):C 30 #[Z wp 0] w λe w'=>e=.returned (Z sp 0)/\w=w':=by
 have a:=Z1 (gB _ c T wp g ⟨cs,sp,lb,h⟩);have b:=(h.B0.cell 4).trans h.c4;clear h
 go_in
 go_wp2_with fail;refine a.o.mono ?_;rintro e d ⟨rfl,rfl⟩;go_wp2;go_ret;exact⟨rfl,rfl⟩
def gP(w:World)(c:Cg)(T:Nat->Tg)(wp:Nat)(g:Gs)(h:GAt w c T wp g):C 53 #[Z wp 0] w λe w'=>e=.returned (Z wp 10)/\w=w':=by
 have a:=Z1 (gB _ c T wp g h);clear h
 go_in
 go_wp2_with fail;refine a.o.mono ?_;rintro e b ⟨rfl,rfl⟩;go_wp2;go_ret;exact⟨rfl,rfl⟩
def oS(w:World)(c:Cg)(hc:c.ok)(T:Nat->Tg)(wp:Nat)(g:Gs)(h:GAt w c T wp g):C 98 #[Z wp 0] w λe w'=>e=.returned (I ((c.st:Int)+2))/\w=w':=by
 have b:=Cg.I0 hc;have a:=Z1 (gB _ c T wp g h);obtain⟨d,f,i,h⟩:=h;have j:=(h.B0.cell 5).trans h.c5;clear h hc;generalize c.st=n at*
 go_in
 go_wp2_with fail;refine a.o.mono ?_;rintro e k ⟨rfl,rfl⟩;go_wp2;go_ret;exact⟨aC zO,rfl⟩
def jZ(c:Cg)(wp lb:Nat)(n:Nat):Addr:=if n<c.st+1 then(Y lb (n*3))else(Y wp 6)
def pQ(w:World)(c:Cg)(hc:c.ok)(T:Nat->Tg)(wp:Nat)(g:Gs)(cs:Array Value)(sp lb:Nat)(h:GIn w c T wp g cs sp lb)(n:Nat)(hn:n<c.st+2):C 271 #[Z wp 0,I n] w λe w'=>e=.returned (.pointer (some (jZ c wp lb n)))/\w=w':=by
 have i:=Cg.I0 hc;have b:=Z1 (oS _ c hc T wp g ⟨cs,sp,lb,h⟩);have j:=(h.B0.cell 5).trans h.c5;have a:jZ c wp lb n=if n<c.st+1 then(Y lb (n*3))else(Y wp 6):=rfl
 rw[a];clear h hc a;generalize c.st=s at*;by_cases d:n<s+1
 ·rw[OB d];have k:((n:Int)==((s+1:Nat):Int))=false:=zT;have l:decide ((s:Int)+2<=(n:Int))=false:=zT
  go_in
  go_wp2_with fail;refine b.o.mono ?_;rintro e f ⟨rfl,rfl⟩;go_wp2;go_ret;exact⟨rfl,rfl⟩
 ·rw[Oz d];obtain rfl:n=s+1:=zO
  go_in
  go_wp2_with fail;refine b.o.mono ?_;rintro e f ⟨rfl,rfl⟩;go_wp2;go_ret;exact⟨rfl,rfl⟩
section
variable {w w':World} {c:Cg} {T T':Nat→Tg} {wp sp lb:Nat} {g g':Gs} {cs cs':Array Value} {L:Nat→Prop}
def GIn.P5(h:GIn w c T wp g cs sp lb)(hb:Blk w' wp 165 cs')(hs:bF 6 10 cs cs')(hT:T' wp=.wld)(h1:eH w' c T' sp g'.mp)(h2:s6 w' T' lb g'.E4)(h3:g'.E4.length=c.st+1)(h4:xZ w' T' wp cs' g'.ln g'.B3)(h5:WqT w' T' wp cs' g'.q)(h6:EvT w' T' cs' g'.ev):GIn w' c T' wp g' cs' sp lb:=
 ⟨hb,hs.1.trans h.size,(hs.2 0 zO).trans h.c0,(hs.2 1 zO).trans h.c1,(hs.2 2 zO).trans h.c2,(hs.2 3 zO).trans h.c3,(hs.2 4 zO).trans h.c4,(hs.2 5 zO).trans h.c5,hT,h1,h2,h3,h4,h5,h6⟩
def fQ(T:Nat->Tg)(n:Nat)(t:Tg):aW T (ext T n t) n:=λb a=>.inl (br T t a)
def GIn.lk(h:GIn w c T wp g cs sp lb){lcs:Array Value}{sls:Nat->Value}{E4:Nat->Lk}(hl:Lm w T lb lcs sls E4 g.E4)(hn:n<g.E4.length){lcs':Array Value}
  (h1:bt w' lb (n*3) 0 156 lcs' sl' l')(ho:bF (n*3) 3 lcs lcs')(hK:ag (λj=>j=lb\/(sls n).ownBlock=some j) w w')(hs:sl'.ownBlock=(sls n).ownBlock\/∀k,sl'.ownBlock=some k->w.heap.size<=k)(hr:dX l' r'):
  GIn w' c (ext T w.heap.size (.lk n)) wp {g with E4:=g.E4.set n r'} cs sp lb/\ag (λb=>eN (T b)) w w':=by
 have z:∀b,(b=lb\/(sls n).ownBlock=some b)->∃m,T b=.lk m:=λb e=>by
  rcases e with rfl|e
  ·exact⟨_,hl.tl⟩
  ·exact⟨_,hl.tags n hn b e⟩
 have l:∀(P:Tg->Prop),(∀m,¬P (.lk m))->∀b,P (T b)->¬(b=lb\/(sls n).ownBlock=some b):=λP B b a e=>by
  obtain⟨m,f⟩:=z b e;rw[f]at a;exact B m a
 have o:∀b,b<w.heap.size->ext T w.heap.size (.lk n) b=T b:=λb a=>br T _ a;have u:=hK.B0 h.B0 (l (λt=>t=.wld) (λm e=>by cases e) wp h.tw);refine⟨h.P5 u (bF.refl _ _ _) ((o _ h.B0.lt).trans h.tw) ?_ ?_ (by show(g.E4.set n r').length=_;rw[PI];exact h.nl) ?_ ?_ ?_,hK.C3 λb e=>?_⟩
 ·exact h.G3.D1 hK (l (λt=>eE t\/t=.fz) (λm e=>by rcases e with e|e;exact e;cases e)) o
 ·have v:∀m,(g.E4.set n r').getD m .zero=if n=m/\m<g.E4.length then r' else g.E4.getD m .zero:=λm=>by
   rw[OP,Qo,OP];by_cases e:n=m
   ·subst e;simp[hn]
   ·simp[e]
  refine⟨lcs',λm=>if m=n then sl' else sls m,λm=>if m=n then l' else E4 m,h1.B0,?_,λm f=>?_,λm f=>?_,λm f b a=>?_⟩
  ·show ext T _ _ lb=.lk (g.E4.set n r').length;rw[PI,o _ hl.B0.lt];exact hl.tl
  ·have d:m<g.E4.length:=by
    have:m<(g.E4.set n r').length:=f
    rwa [PI]at this
   by_cases e:m=n
   ·subst e;simp only[if_true];exact h1
   ·simp only[e,if_false];have i:=hl.at_ m d;have A:∀k,(sls m).ownBlock=some k->¬(k=lb\/(sls n).ownBlock=some k):=λk y x=>by
     have p:=hl.tags m d k y
     rcases x with rfl|x
     ·rw[hl.tl]at p;injection p with p;omega
     ·rw[hl.tags n hn k x]at p;injection p with p;exact e p.symm
    exact⟨h1.B0,i.line.D3 λk y=>hK.block k (i.line.lt k y).2 (A k y),(ho.2 _ zO).trans i.r,(ho.2 _ zO).trans i.m,(ho.2 _ zO).trans i.s⟩
  ·have d:m<g.E4.length:=by
    have:m<(g.E4.set n r').length:=f
    rwa [PI]at this
   by_cases e:m=n
   ·subst e;show dX (if m=m then l' else E4 m) ((g.E4.set m r').getD m .zero);rw[OB rfl,v,OB ⟨rfl,d⟩];exact hr
   ·show dX (if m=n then l' else E4 m) ((g.E4.set n r').getD m .zero);rw[Oz e,v,Oz λx=>e x.1.symm];exact hl.rel m d
  ·have d:m<g.E4.length:=by
    have:m<(g.E4.set n r').length:=f
    rwa [PI]at this
   by_cases e:m=n
   ·subst e;simp only[if_true]at a
    rcases hs with hs|hs
    ·rw[hs]at a;have i:=hl.at_ m d;rw[o _ (i.line.lt b a).2];exact hl.tags m d b a
    ·exact cC T _ (hs b a)
   ·simp only[e,if_false]at a;have i:=hl.at_ m d;rw[o _ (i.line.lt b a).2];exact hl.tags m d b a
 ·exact h.ln.D1 u (λ_ _ _=>rfl) hK (l (λt=>t=.ln\/t=.al) (λm e=>by rcases e with e|e<;>cases e)) (λb a _=>o b a)
 ·exact h.wq.D1 u (λ_ _ _=>rfl) hK (l (λt=>t=.q) (λm e=>by cases e)) (λb a _=>o b a)
 ·exact h.ev.D1 rfl hK (l (λt=>t=.ev) (λm e=>by cases e)) (λb a _=>o b a)
 ·obtain⟨m,f⟩:=z b e;show eN (T b);rw[f];trivial
def GIn.line(h:GIn w c T wp g cs sp lb){sl al:Value}{l:Lk}{r:Rf}{zs:List Int}(hl:Nz w T wp cs sl al l r zs){al':Value}{zs':List Int}(t:Tg)(ht:t=.ln\/t=.al)
  (h1:cF w' wp 6 0 165 cs' sl' al' l' zs')(ho:bF 6 4 cs cs')(hK:ag (λj=>j=wp\/sl.ownBlock=some j\/al.ownBlock=some j) w w')(hs:sl'.ownBlock=sl.ownBlock\/t=.ln/\∀k,sl'.ownBlock=some k->w.heap.size<=k)(ha:al'.ownBlock=al.ownBlock\/t=.al/\∀k,al'.ownBlock=some k->w.heap.size<=k)(hr:dX l' r'):
  GIn w' c (ext T w.heap.size t) wp {g with ln:=r',B3:=zs'} cs' sp lb/\ag (λb=>eN (T b)) w w':=by
 have m:∀b,(b=wp\/sl.ownBlock=some b\/al.ownBlock=some b)->T b=.wld\/T b=.ln\/T b=.al:=λb e=>by
  rcases e with rfl|e|e
  ·exact .inl h.tw
  ·exact .inr (.inl (hl.L4 b e))
  ·exact .inr (.inr (hl.R8 b e))
 have i:∀(P:Tg->Prop),¬P .wld->¬P .ln->¬P .al->∀b,P (T b)->¬(b=wp\/sl.ownBlock=some b\/al.ownBlock=some b):=λP p s u b a e=>by
  rcases m b e with d|d|d<;>rw[d]at a
  ·exact p a
  ·exact s a
  ·exact u a
 have f:∀b,b<w.heap.size->ext T w.heap.size t b=T b:=λb a=>br T _ a;have o:=h1.lock.B0;refine⟨h.P5 o (ho.more zO zO) ((f _ h.B0.lt).trans h.tw) ?_ ?_ h.nl ⟨sl',al',l',h1,hr,λb e=>?_,λb e=>?_⟩ ?_ ?_,hK.C3 λb e=>?_⟩
 ·exact h.G3.D1 hK (i (λt=>eE t\/t=.fz) (by rintro(e|e);exact e;cases e) (by rintro(e|e);exact e;cases e) (by rintro(e|e);exact e;cases e)) f
 ·exact h.E4.D1 hK (λb n e=>i (λt=>t=.lk n) (by intro e;cases e) (by intro e;cases e) (by intro e;cases e) b e) (λb a _=>f b a)
 ·rcases hs with hs|⟨rfl,hs⟩
  ·rw[hs]at e;rw[f _ (hl.L6.lock.line.lt b e).2];exact hl.L4 b e
  ·exact cC T _ (hs b e)
 ·rcases ha with ha|⟨rfl,ha⟩
  ·rw[ha]at e;rw[f _ (hl.L6.B3.lt b e).2];exact hl.R8 b e
  ·exact cC T _ (ha b e)
 ·exact h.wq.D1 o (λj h1 v=>ho.2 j zO) hK (i (λt=>t=.q) (by intro e;cases e) (by intro e;cases e) (by intro e;cases e)) (λb a _=>f b a)
 ·exact h.ev.D1 (ho.2 15 zO) hK (i (λt=>t=.ev) (by intro e;cases e) (by intro e;cases e) (by intro e;cases e)) (λb a _=>f b a)
 ·show eN (T b)
  rcases m b e with d|d|d<;>rw[d]<;>trivial
end
def pR:393≠156:=zP
def kE:oQ 165:=⟨zP,zP⟩
def mC{g:Gs}{n:Nat}(h:n<g.E4.length):g.lock (n:Int)=g.E4.getD n .zero:=by unfold Gs.lock;simp[h]
def mD{g:Gs}{n:Nat}(h:¬n<g.E4.length):g.lock (n:Int)=g.ln:=by unfold Gs.lock;simp[h]
def qT{g:Gs}{n:Nat}(h:n<g.E4.length)(r:Rf):g.E1 (n:Int) r={g with E4:=g.E4.set n r}:=by unfold Gs.E1;simp[h]
def s8{g:Gs}{n:Nat}(h:¬n<g.E4.length)(r:Rf):g.E1 (n:Int) r={g with ln:=r}:=by unfold Gs.E1;simp[h]
def vC(w:World)(c:Cg)(hc:c.ok)(T:Nat->Tg)(wp:Nat)(g:Gs)(h:GAt w c T wp g)(n:Nat)(hn:n<c.st+2)(t:Int)(ht:aq t):C 260 #[Z wp 0,I n,I t] w λe w'=>e=.returned (I (g.held n t))/\w=w':=by
 obtain⟨f,m,d,h⟩:=h;have p:=Z1 (pQ w c hc T wp g f m d h n hn);have q:Hid (C 272 #[.pointer (some (jZ c wp d n)),I t] w λe w'=>e=.returned (I (g.held n t))/\w=w'):=Z1 (by
  unfold jZ Gs.held;by_cases a:n<g.E4.length
  ·rw[OB (by rw[<-h.nl];exact a),mC a];obtain⟨i,j,k,b⟩:=h.E4;rw[<-(b.rel n a).held t];exact ml d (n*3) 0 _ i (j n) (k n) t w (b.at_ n a) (b.rel n a).ok ht
  ·rw[Oz (by rw[<-h.nl];exact a),mD a];obtain⟨r,u,l,b⟩:=h.ln;rw[<-b.rel.held t];exact ml wp 6 0 _ f r l t w b.L6.lock b.rel.ok ht)
 clear h;generalize jZ c wp d n=v at*
 go_in
 go_wp2_with fail;refine p.o.mono ?_;rintro e s ⟨rfl,rfl⟩;go_wp2_with fail;refine q.o.mono ?_;rintro e s ⟨rfl,rfl⟩;go_wp2;go_ret;exact⟨rfl,rfl⟩
def yf(w:World)(c:Cg)(hc:c.ok)(T:Nat->Tg)(wp:Nat)(g:Gs)(h:GAt w c T wp g)(n:Nat)(hn:n<c.st+2)(t:Int)(ht:aq t)(b:Bool)(hf:(g.lock n).line.length<=900):
  C 273 #[Z wp 0,I n,I t,.bool b] w λe w'=>(∃er:Int,e=.returned (.tuple #[.bool (g.ask n t b).2,I er]))/\bj w w' c T wp (g.ask n t b).1:=by
 obtain⟨y,G,k,h⟩:=h;have H:=Z1 (pQ w c hc T wp g y G k h n hn);have L:Hid (C 281 #[.pointer (some (jZ c wp k n)),I t,.bool b] w λe w'=>(∃er:Int,e=.returned (.tuple #[.bool (g.ask n t b).2,I er]))/\bj w w' c T wp (g.ask n t b).1):=Z1 (by
  unfold jZ Gs.ask;by_cases a:n<g.E4.length
  ·rw[OB (by rw[<-h.nl];exact a),mC a,qT a];rw[mC a]at hf;obtain⟨z,A,B,d⟩:=h.E4;have f:=d.rel n a;refine(ud k (n*3) 0 _ z (A n) (B n) t b w (d.at_ n a) f.ok pR (by rw[f.line];exact hf) (OK _) ht).mono ?_;rintro e r ⟨rfl,N,D,s,m,p,u⟩;have i:=f.ask t b;rw[<-i.2];obtain⟨v,x⟩:=h.lk d a s m p u i.1;exact⟨⟨_,rfl⟩,_,fQ T _ _,⟨_,_,_,v⟩,x⟩
  ·rw[Oz (by rw[<-h.nl];exact a),mD a,s8 a];rw[mD a]at hf;obtain⟨O,S,l,d⟩:=h.ln;have f:=d.rel;refine(ud wp 6 0 _ y O l t b w d.L6.lock f.ok kE.want (by rw[f.line];exact hf) (OK _) ht).mono ?_;rintro e r ⟨rfl,R,D,s,m,p,u⟩;have i:=f.ask t b;rw[<-i.2];have P:=d.L6.asked kE s p m;obtain⟨v,x⟩:=h.line d .ln (.inl rfl) P (m.more (OA _) zO) (p.C3 λj e=>by rcases e with e|e;exact .inl e;exact .inr (.inl e)) (u.imp id λq=>⟨rfl,q⟩) (.inl rfl) i.1;exact⟨⟨_,rfl⟩,_,fQ T _ _,⟨_,_,_,v⟩,x⟩)
 clear h;generalize jZ c wp k n=U at*;generalize (g.ask n t b).2=X at*;generalize (g.ask n t b).1=g2 at*
 go_in
 go_wp2_with fail;refine H.o.mono ?_;rintro e r ⟨rfl,rfl⟩;go_wp2_with fail;refine L.o.mono ?_;rintro e r ⟨⟨er,rfl⟩,F⟩;have Q:=Z1 F;clear F;go_wp2
 go_ret2
 exact⟨⟨er,rfl⟩,Q.o⟩
def vD(w:World)(c:Cg)(hc:c.ok)(T:Nat->Tg)(wp:Nat)(g:Gs)(h:GAt w c T wp g)(n:Nat)(hn:n<c.st+2)(t:Int)(ht:aq t)(hh:g.held n t≠0)(hf:(g.lock n).line.length<=900):
  C 266 #[Z wp 0,I n,I t] w λe w'=>(∃er:Int,e=.returned (I er))/\bj w w' c T wp (g.drop n t):=by
 obtain⟨u,D,f,h⟩:=h;have F:=Z1 (pQ w c hc T wp g u D f h n hn);have G:Hid (C 277 #[.pointer (some (jZ c wp f n)),I t] w λe w'=>(∃v,e=.returned (.tuple #[v,I 0]))/\bj w w' c T wp (g.drop n t)):=Z1 (by
  unfold Gs.held at hh;unfold jZ Gs.drop;by_cases a:n<g.E4.length
  ·rw[OB (by rw[<-h.nl];exact a),mC a,qT a];rw[mC a]at hf hh;obtain⟨x,y,z,d⟩:=h.E4;have b:=d.rel n a;rw[<-b.held]at hh;refine(rP f (n*3) 0 _ x (y n) (z n) t w (d.at_ n a) b.ok pR (by rw[b.line];exact hf) ht hh).mono ?_;rintro e m ⟨v,rfl,_,H,A,p,i,k,q⟩;obtain⟨r,s⟩:=h.lk d a p i (k.C3 λj e=>.inl e) (.inl q) (b.drop t).1;exact⟨⟨_,rfl⟩,_,fQ T _ _,⟨_,_,_,r⟩,s⟩
  ·rw[Oz (by rw[<-h.nl];exact a),mD a,s8 a];rw[mD a]at hf hh;obtain⟨L,Q,l,d⟩:=h.ln;have b:=d.rel;rw[<-b.held]at hh;refine(rP wp 6 0 _ u L l t w d.L6.lock b.ok kE.want (by rw[b.line];exact hf) ht hh).mono ?_;rintro e m ⟨v,rfl,_,P,A,p,i,k,q⟩;have N:=d.L6.dropped kE p k i;obtain⟨r,s⟩:=h.line d .ln (.inl rfl) N (i.more (OA _) zO) (k.C3 λj e=>.inl e) (.inl q) (.inl rfl) (b.drop t).1;exact⟨⟨_,rfl⟩,_,fQ T _ _,⟨_,_,_,r⟩,s⟩)
 clear h hh;generalize jZ c wp f n=R at*;generalize g.drop n t=S at*
 go_in
 go_wp2_with fail;refine F.o.mono ?_;rintro e m ⟨rfl,rfl⟩;go_wp2_with fail;refine G.o.mono ?_;rintro e m ⟨⟨v,rfl⟩,B⟩;have O:=Z1 B;clear B;go_wp2;go_ret;exact⟨⟨_,rfl⟩,O.o⟩
structure Gs.E5(g:Gs):Prop where
 line:g.ln.line.length<=90
 B3:g.B3.length<=90
 tasks:∀t∈g.B3,aq t
 q:g.q.line.length<=1000/\g.q.C5.length<=1000/\g.q.busy.length<=1000
 B9:g.mp.B9.length<=80000
section
variable {w w' W:World} {c:Cg} {T T':Nat→Tg} {wp sp lb:Nat} {g g':Gs} {cs cs':Array Value} {L:Nat→Prop}
def GAt.free(h:GAt w c T wp g):GAt w c (ext T w.heap.size .free) wp g:=by
 obtain⟨f,i,j,h⟩:=h;have hK:ag (λ_=>False) w w:=ag.refl _ w;have d:∀b,b<w.heap.size->ext T w.heap.size .free b=T b:=λb a=>br T _ a;exact⟨f,i,j,h.P5 h.B0 (bF.refl _ _ _) ((d _ h.B0.lt).trans h.tw) (h.G3.D1 hK (λ_ _ e=>e) d) (h.E4.D1 hK (λ_ _ _ e=>e) λb a _=>d b a) h.nl (h.ln.D1 h.B0 (λ_ _ _=>rfl) hK (λ_ _ e=>e) λb a _=>d b a) (h.wq.D1 h.B0 (λ_ _ _=>rfl) hK (λ_ _ e=>e) λb a _=>d b a) (h.ev.D1 rfl hK (λ_ _ e=>e) λb a _=>d b a)⟩
def bj.box(hn:n=w.heap.size)(hb:M w W)(h:bj W w' c (ext T n .free) wp g'):bj w w' c T wp g':=by
 subst hn;obtain⟨d,f,g,i⟩:=h;refine⟨d,λb a=>?_,g,bL (ag.B5 hb) i λb a e=>?_⟩
 ·have j:=f b (OV a hb.size)
  rwa [br T _ a]at j
 ·have k:=e
  rwa [br T _ a]at k
def bj.B0{t:TypeId}{xs:Array Value}(h:bj W w' c (ext T n .free) wp g')(hb:Blk W k t xs)(hk:n<=k):Blk w' k t xs:=by
 obtain⟨b,d,f,a⟩:=h;refine a.B0 hb λe=>?_;rw[cC T _ hk]at e;exact e
def GIn.queue(h:GIn w c T wp g cs sp lb){q':Qm}(hq:lP w w' wp 10 165 cs (λb=>T b=.q) q'):bj w w' c T wp {g with q:=q'}:=by
 obtain⟨l,p,r,hK⟩:=hq;have m:∀b,(b=wp\/T b=.q)->T b=.wld\/T b=.q:=λb e=>by
  rcases e with rfl|e
  ·exact .inl h.tw
  ·exact .inr e
 have d:∀(P:Tg->Prop),¬P .wld->¬P .q->∀b,P (T b)->¬(b=wp\/T b=.q):=λP s u b a e=>by
  rcases m b e with i|i<;>rw[i]at a
  ·exact s a
  ·exact u a
 have f:∀b,b<w.heap.size->ext T w.heap.size .q b=T b:=λb a=>br T _ a;have o:Blk w' wp 165 l:=by
  obtain⟨_,_,_,_,hq,_⟩:=p.line.ex;exact hq.B0
 refine⟨ext T w.heap.size .q,fQ T _ _,⟨l,sp,lb,h.P5 o (r.more zO zO) ((f _ h.B0.lt).trans h.tw) ?_ ?_ h.nl ?_ (p.more λk e=>?_) ?_⟩,hK.C3 λb e=>?_⟩
 ·exact h.G3.D1 hK (d (λt=>eE t\/t=.fz) (by rintro(e|e);exact e;cases e) (by rintro(e|e);exact e;cases e)) f
 ·exact h.E4.D1 hK (λb n e=>d (λt=>t=.lk n) (by intro e;cases e) (by intro e;cases e) b e) (λb a _=>f b a)
 ·exact h.ln.D1 o (λj p x=>r.2 j zO) hK (d (λt=>t=.ln\/t=.al) (by rintro(e|e)<;>cases e) (by rintro(e|e)<;>cases e)) (λb a _=>f b a)
 ·by_cases v:k<w.heap.size
  ·rcases e with e|e
   ·exact(f k v).trans e
   ·omega
  ·exact cC T _ zO
 ·exact h.ev.D1 (r.2 15 zO) hK (d (λt=>t=.ev) (by intro e;cases e) (by intro e;cases e)) (λb a _=>f b a)
 ·show eN (T b)
  rcases m b e with i|i<;>rw[i]<;>trivial
end
def Dy(w:World)(c:Cg)(hc:c.ok)(T:Nat->Tg)(wp:Nat)(g:Gs)(h:GAt w c T wp g)(t:Int)(ht:aq t)(hh:bS g.ln t=2)(hf:g.ln.line.length<=900)(hz:g.B3.length<=900):
  C 351 #[Z wp 0,I t] w λe w'=>(∃er:Int,e=.returned (I er))/\bj w w' c T wp (g.sleep t):=by
 have i:=Z1 (gB w c T wp g h);obtain⟨k,H,L,h⟩:=h;have m:Hid (C 357 #[Z wp 6,I t] w λe w'=>(∃v,e=.returned (.tuple #[v,I 0]))/\bj w w' c T wp (g.sleep t)):=Z1 (by
  unfold Gs.sleep;rw[OB hh];obtain⟨n,p,l,b⟩:=h.ln;have a:=b.rel;refine(Gj wp 6 0 _ k n p l g.B3 t w b.L6 kE a.ok (by rw[a.line];exact hf) hz (OK _) ht (by rw[a.held];exact hh)).mono ?_;rintro e d ⟨⟨v,rfl⟩,D,F,G,r,s,u,x,y⟩;obtain⟨z,A⟩:=h.line b .al (.inr rfl) r s (u.C3 λj e=>by rcases e with e|e;exact .inl e;exact .inr (.inr e)) (.inl x) (y.imp id λq=>⟨rfl,q⟩) (a.drop t).1;exact⟨⟨_,rfl⟩,_,fQ T _ _,⟨_,_,_,z⟩,A⟩)
 clear h hh;generalize g.sleep t=N at*
 go_in
 go_wp2_with fail;refine i.o.mono ?_;rintro e d ⟨rfl,rfl⟩;go_wp2_with fail;refine m.o.mono ?_;rintro e d ⟨⟨v,rfl⟩,f⟩;have B:=Z1 f;clear f;go_wp2;go_ret;exact⟨⟨_,rfl⟩,B.o⟩
def vE(w:World)(c:Cg)(hc:c.ok)(T:Nat->Tg)(wp:Nat)(g:Gs)(h:GAt w c T wp g)(hs:∀t∈g.B3,aq t)(hf:g.ln.line.length<=900)(hz:g.B3.length<=900):
  C 279 #[Z wp 6] w λe w'=>(∃(a:Int) (b:Bool),e=.returned (.tuple #[I a,.bool b]))/\bj w w' c T wp g.F0:=by
 obtain⟨i,o,p,h⟩:=h;obtain⟨m,n,l,f⟩:=h.ln;have k:=f.rel;unfold Gs.F0
 cases hz2:g.B3 with
 |nil=>
  have d:=f.L6;rw[hz2]at d;refine(Gk wp 6 0 _ i m n l w d).mono ?_;rintro e s ⟨rfl,rfl⟩;exact⟨⟨_,_,rfl⟩,T,aW.refl _ _,⟨i,o,p,h⟩,ag.refl _ _⟩
 |cons t r=>
  have d:=f.L6;rw[hz2]at d;refine(xV wp 6 0 _ i m n l t r w d kE k.ok (by rw[k.line];exact hf) (by rw[hz2]at hz;simp at hz;omega) (OK _) (hs t (by rw[hz2];simp))).mono ?_;rintro e s ⟨rfl,D,F,G,u,v,x,y,z⟩;obtain⟨A,B⟩:=h.line f .ln (.inl rfl) u v (x.C3 λj e=>by rcases e with e|e;exact .inl e;exact .inr (.inl e)) (z.imp id λq=>⟨rfl,q⟩) (.inl y) (k.ask t true).1;exact⟨⟨_,_,rfl⟩,_,fQ T _ _,⟨_,_,_,A⟩,B⟩
def Kf(w:World)(c:Cg)(hc:c.ok)(T:Nat->Tg)(wp:Nat)(g:Gs)(h:GAt w c T wp g)(hf:g.E5)(k:K2)(hk:k.ok):
  C 268 #[Z wp 0,k.val] w λe w'=>(∃b:Bool,e=.returned (.bool b))/\bj w w' c T wp (g.add k):=by
 have f:=zh w (.cells #[E k.hi,E k.lo] 58);have l:=Blk.A8 w 58 #[E k.hi,E k.lo] rfl;have A:=h.free.up f;have HQ:=Z1 (λU a=>gP U c (ext T w.heap.size .free) wp g (h.free.up a));have P:Hid (∀U,GAt U c (ext T w.heap.size .free) wp g->C 278 #[Z wp 10,k.val] U λe w'=>e=.returned (.bool (g.q.add k).2)/\bj U w' c (ext T w.heap.size .free) wp {g with q:=(g.q.add k).1}):=Z1 (λU a=>by
  obtain⟨Q,sp,lb,a⟩:=a;refine zm (Kd wp 10 _ Q _ g.q k U a.wq ⟨hf.q.1,hf.q.2.1,hf.q.2.2⟩ hk) λR X=>?_;exact⟨rfl,a.queue X⟩)
 have HW:=Z1 (λU T' (a:GAt U c T' wp {g with q:=(g.q.add k).1})=>vE U c hc T' wp _ a hf.tasks (OJ hf.line zP) (OJ hf.B3 zP));have m:Hid (g.add k=if(g.q.add k).2=true then{g with q:=(g.q.add k).1}.F0 else{g with q:=(g.q.add k).1}):=Z1 rfl;have H:=Z3 A f l;generalize hr:(g.q.add k).2=r at*;obtain⟨B,y⟩:=k;simp only[K2.val,K2.arr]at*;have ag:=l.lt;obtain⟨d0,d1⟩:=ao l;clear h A f l hr
 go_in
 go_upto_region 1 with fail
 generalize hV:w.alloc (.cells #[E B,E y] 58)=V at*;generalize s:w.heap.size=D at*;have z:=Z1 s;clear hV s;have n:=And.intro H.o.2.2.drew trivial;have i:=(zi V);refine zH (S:=λU=>Blk U D 58 #[E B,E y]/\True) n ?_;refine zq 2 ?_ (λW hW=>?_) ?_;rotate_left
 ·have q0:=hW.1.cell 0;have q1:W.cell? (Y D 1)=some (E y):=hW.1.cell 1;exact zf
 refine zo 1 λK hK=>?_;go_simp
 (refine(gP _ c _ wp g (H.o.1.up i)).mono ?_)
 rintro e1 R ⟨rfl,rfl⟩;refine zJ hK n ?_;refine zo 3 λK hK=>?_;go_simp;refine zm (P.o _ (H.o.1.up i)) λw2 j=>?_;have t:=And.intro (j.B0 n.1 (OA _)) trivial;refine zJ hK t ?_;have u:M w V.drew:=by
  have F:=H.o.2.1;try rw[<-z.o]at F
  exact F.drew
 have p:=Z2 j u;clear j n t d0 d1 i u
 cases r with
 |false=>
  have d:=Z1 m.o;rw[Oz zS]at d;clear m;go_wp2;go_ret;rw[d.o];exact⟨⟨_,rfl⟩,bj.box z.o.symm p.o.2 p.o.1⟩
 |true=>
  have d:=Z1 m.o;rw[OB rfl]at d;clear m;go_wp2_with fail;obtain⟨T2,G,L,N⟩:=p.o.1;refine(HW.o _ T2 L).mono ?_;rintro e3 w3 ⟨⟨x,b,rfl⟩,v⟩;have O:=Z1 (bj.trans G N v);clear G L N v;go_wp2;go_ret;rw[d.o];exact⟨⟨_,rfl⟩,bj.box z.o.symm p.o.2 O.o⟩
def mY{x:Cl}(hz:aH x=0)(hk:x.k=1\/x.k=6\/x.k=7):bd x.id=true:=by
 unfold aH at hz
 cases h:bd x.id with
 |true=>rfl
 |false=>rcases hk with hk|hk|hk<;>simp[hk,h,idE]at hz
def ia(w:World)(l:List (Int×Int))(e:Ending)(w':World):Prop:=∃v,e=.returned v/\aL 2 w w' 250 v l.length (d7 l)
def Ki(c:Cg)(hc:c.ok)(x:Cl)(hx:x.ok)(hk:x.k=1)(hz:aH x=0)(w:World):C 138 #[.agg #[I c.st,I c.sa,I c.lo,I c.hi],x.val] w (ia w (cg c x)):=by
 have j:=zh w (.cells c.cells.toArray 23);have z:=ae j (.cells x.arr 73);have i:=(Blk.A8 w 23 c.cells.toArray rfl).alloc (.cells x.arr 73);have l:=Blk.A8 (w.alloc (.cells c.cells.toArray 23)) 73 x.arr (g:=w.heap.size+1) zS;have HB:=Z3 z i l;have bc:=Cg.I0 hc;have A:=mY hz zO;have HH:=Z1 (λW=>pP c hc x.id A W);have HL:=Z1 (λW=>ju c hc W);have B:cg c x=bK 3 (i7 c x.id)++[(3,(c.st:Int)+1),(6,0),(5,(c.st:Int)+1)]:=by unfold cg lineN;rw[OB zO]
 rw[B];generalize i7 c x.id=hm at*;clear B A;obtain⟨xk,id,tk,va,ha,a,b,cc,d,e0,f⟩:=x;simp only at hk;subst hk;obtain⟨st,sa,lo,aj⟩:=c;unfold Cl.val;simp only[Cl.arr,Cg.cells]at*;obtain⟨⟨g0,g1,g2,g3,g4,g5⟩,g6,g7,g8,g9,bd⟩:=bh l;have T:=i.cell 0;have X:=i.cell 1;have c2:=i.cell 2;have c3:=i.cell 3;have e:=i.lt;have ac:=l.lt;clear j z i l hz
 go_in
 go_upto_region 4 with fail
 generalize hV:(w.alloc (.cells #[I st,I sa,I lo,I aj] 23)).alloc (.cells #[I 1,.string id,I tk,I va,I ha,I a,I b,I cc,I d,I e0,I f] 73)=V at*;generalize D:w.heap.size=h at*;have al:=Z1 D;clear hV D;obtain⟨i0,r,F,G,H⟩:=info_parts s7.info;have y:=Z4 r F G H;clear r F G H;have hS:=(zi V);refine zH (S:=λU=>M V U) hS ?_;refine zq 0 ?_ (λW hW=>?_) ?_;rotate_left
 ·have q0:=(OF hW (p:=Y h 0) e).trans T;have q1:=(OF hW (p:=Y h 1) e).trans X;have q2:=(OF hW (p:=Y h 2) e).trans c2;have q3:=(OF hW (p:=Y h 3) e).trans c3;exact zf
 refine zL ?_;refine zq 2 ?_ (λW hW=>?_) ?_;rotate_left
 ·have q1:=(OF hW (p:=Y (h+1) 1) ac).trans g1;exact zf
 refine zq 5 ?_ (λW hW=>?_) ?_;rotate_left
 ·have q0:=(OF hW (p:=Y h 0) e).trans T;have q1:=(OF hW (p:=Y h 1) e).trans X;have q2:=(OF hW (p:=Y h 2) e).trans c2;have q3:=(OF hW (p:=Y h 3) e).trans c3;exact zf
 refine zL ?_;refine zq 9 ?_ (λW hW=>?_) ?_;rotate_left
 ·have q0:=(OF hW (p:=Y h 0) e).trans T;have q1:=(OF hW (p:=Y h 1) e).trans X;have q2:=(OF hW (p:=Y h 2) e).trans c2;have q3:=(OF hW (p:=Y h 3) e).trans c3;exact zf
 refine zo 3 λK hK=>?_;go_simp;refine zm (HH.o _) λw1 j=>?_;have m:=af hS j;refine zJ hK m ?_;refine zo 4 λK hK=>?_;go_simp
 (refine(jo 3 hm _).mono ?_)
 rintro e2 w2 ⟨v2,rfl,n⟩;obtain⟨A2,k2,rfl,_,_⟩:=ak n.own;have L:=af m n.below;refine zJ hK L ?_;refine zo 6 λK hK=>?_;go_simp;refine zm (HL.o _) λw3 s=>?_;have N:=af L s;have aq:=aN n.own s;refine zJ hK N ?_;refine zo 10 λK hK=>?_;go_simp;refine zm (HL.o _) λw4 t=>?_;have O:=af N t;have ar:=aN aq t;refine zJ hK O ?_;refine zo 12 λK hK=>?_;go_simp;have u:=ae O (.cells #[I 3,I ((st:Int)+1),I 6,I 0,I 5,I ((st:Int)+1)] 250);have P:=ar.alloc (.cells #[I 3,I ((st:Int)+1),I 6,I 0,I 5,I ((st:Int)+1)] 250);have au:=dD w4 250 #[I 3,I ((st:Int)+1),I 6,I 0,I 5,I ((st:Int)+1)] 2 3 w4.heap.size (w4.heap.size+1) rfl rfl rfl;refine zJ hK u ?_;refine zo 13 λK hK=>?_;refine dC _ (.tmp 14) (.tmp 22) 194 rfl w1.heap.size 250 i0 _ 2 16 underlying194 y.o.1 y.o.2.1 y.o.2.2.1 y.o.2.2.2 rfl zP (.slice A2 3 k2) 3 (d7 (bK 3 hm)) zF P _ _ 3 3 _ zF au zV zU zO (by have:=n.below.size;have:=s.size;have:=t.size;simp;omega) ?_;intro v7 w7 Q av _;obtain⟨A7,k7,rfl,_,_⟩:=ak Q;have R:=u.grown av u.size λq hq=>OJ m.size (P.lt q hq).1;refine zJ hK R ?_;go_wp2;go_ret;have h9:=al.o;have v:=HB.o.1;try rw[<-h9]at v
 exact⟨_,rfl,aP Q (OJ v.size m.size),af v R⟩
def Kj(c:Cg)(hc:c.ok)(x:Cl)(hx:x.ok)(hk:x.k=6)(hz:aH x=0)(w:World):C 138 #[.agg #[I c.st,I c.sa,I c.lo,I c.hi],x.val] w (ia w (cg c x)):=by
 have j:=zh w (.cells c.cells.toArray 23);have z:=ae j (.cells x.arr 73);have i:=(Blk.A8 w 23 c.cells.toArray rfl).alloc (.cells x.arr 73);have l:=Blk.A8 (w.alloc (.cells c.cells.toArray 23)) 73 x.arr (g:=w.heap.size+1) zS;have HB:=Z3 z i l;have bc:=Cg.I0 hc;have A:=mY hz zO;have HH:=Z1 (λW=>pP c hc x.id A W);have HL:=Z1 (λW=>ju c hc W);have B:cg c x=bK 3 (i7 c x.id)++[(3,(c.st:Int)+1),(6,0),(5,(c.st:Int)+1)]:=by unfold cg lineN;rw[OB zO]
 rw[B];generalize i7 c x.id=hm at*;clear B A;obtain⟨xk,id,tk,va,ha,a,b,cc,d,e0,f⟩:=x;simp only at hk;subst hk;obtain⟨st,sa,lo,aj⟩:=c;unfold Cl.val;simp only[Cl.arr,Cg.cells]at*;obtain⟨⟨g0,g1,g2,g3,g4,g5⟩,g6,g7,g8,g9,bd⟩:=bh l;have T:=i.cell 0;have X:=i.cell 1;have c2:=i.cell 2;have c3:=i.cell 3;have e:=i.lt;have ac:=l.lt;clear j z i l hz
 go_in
 go_upto_region 4 with fail
 generalize hV:(w.alloc (.cells #[I st,I sa,I lo,I aj] 23)).alloc (.cells #[I 6,.string id,I tk,I va,I ha,I a,I b,I cc,I d,I e0,I f] 73)=V at*;generalize D:w.heap.size=h at*;have al:=Z1 D;clear hV D;obtain⟨i0,r,F,G,H⟩:=info_parts s7.info;have y:=Z4 r F G H;clear r F G H;have hS:=(zi V);refine zH (S:=λU=>M V U) hS ?_;refine zq 0 ?_ (λW hW=>?_) ?_;rotate_left
 ·have q0:=(OF hW (p:=Y h 0) e).trans T;have q1:=(OF hW (p:=Y h 1) e).trans X;have q2:=(OF hW (p:=Y h 2) e).trans c2;have q3:=(OF hW (p:=Y h 3) e).trans c3;exact zf
 refine zL ?_;refine zq 2 ?_ (λW hW=>?_) ?_;rotate_left
 ·have q1:=(OF hW (p:=Y (h+1) 1) ac).trans g1;exact zf
 refine zq 5 ?_ (λW hW=>?_) ?_;rotate_left
 ·have q0:=(OF hW (p:=Y h 0) e).trans T;have q1:=(OF hW (p:=Y h 1) e).trans X;have q2:=(OF hW (p:=Y h 2) e).trans c2;have q3:=(OF hW (p:=Y h 3) e).trans c3;exact zf
 refine zL ?_;refine zq 9 ?_ (λW hW=>?_) ?_;rotate_left
 ·have q0:=(OF hW (p:=Y h 0) e).trans T;have q1:=(OF hW (p:=Y h 1) e).trans X;have q2:=(OF hW (p:=Y h 2) e).trans c2;have q3:=(OF hW (p:=Y h 3) e).trans c3;exact zf
 refine zo 3 λK hK=>?_;go_simp;refine zm (HH.o _) λw1 j=>?_;have m:=af hS j;refine zJ hK m ?_;refine zo 4 λK hK=>?_;go_simp
 (refine(jo 3 hm _).mono ?_)
 rintro e2 w2 ⟨v2,rfl,n⟩;obtain⟨A2,k2,rfl,_,_⟩:=ak n.own;have L:=af m n.below;refine zJ hK L ?_;refine zo 6 λK hK=>?_;go_simp;refine zm (HL.o _) λw3 s=>?_;have N:=af L s;have aq:=aN n.own s;refine zJ hK N ?_;refine zo 10 λK hK=>?_;go_simp;refine zm (HL.o _) λw4 t=>?_;have O:=af N t;have ar:=aN aq t;refine zJ hK O ?_;refine zo 12 λK hK=>?_;go_simp;have u:=ae O (.cells #[I 3,I ((st:Int)+1),I 6,I 0,I 5,I ((st:Int)+1)] 250);have P:=ar.alloc (.cells #[I 3,I ((st:Int)+1),I 6,I 0,I 5,I ((st:Int)+1)] 250);have au:=dD w4 250 #[I 3,I ((st:Int)+1),I 6,I 0,I 5,I ((st:Int)+1)] 2 3 w4.heap.size (w4.heap.size+1) rfl rfl rfl;refine zJ hK u ?_;refine zo 13 λK hK=>?_;refine dC _ (.tmp 14) (.tmp 22) 194 rfl w1.heap.size 250 i0 _ 2 16 underlying194 y.o.1 y.o.2.1 y.o.2.2.1 y.o.2.2.2 rfl zP (.slice A2 3 k2) 3 (d7 (bK 3 hm)) zF P _ _ 3 3 _ zF au zV zU zO (by have:=n.below.size;have:=s.size;have:=t.size;simp;omega) ?_;intro v7 w7 Q av _;obtain⟨A7,k7,rfl,_,_⟩:=ak Q;have R:=u.grown av u.size λq hq=>OJ m.size (P.lt q hq).1;refine zJ hK R ?_;go_wp2;go_ret;have h9:=al.o;have v:=HB.o.1;try rw[<-h9]at v
 exact⟨_,rfl,aP Q (OJ v.size m.size),af v R⟩
def Kk(c:Cg)(hc:c.ok)(x:Cl)(hx:x.ok)(hk:x.k=4)(hz:aH x=0)(w:World):C 138 #[.agg #[I c.st,I c.sa,I c.lo,I c.hi],x.val] w (ia w (cg c x)):=by
 have h:=zh w (.cells c.cells.toArray 23);have j:=ae h (.cells x.arr 73);have e:=(Blk.A8 w 23 c.cells.toArray rfl).alloc (.cells x.arr 73);have i:=Blk.A8 (w.alloc (.cells c.cells.toArray 23)) 73 x.arr (g:=w.heap.size+1) zS;have u:=Z3 j e i;have O:=Cg.I0 hc;have v:=Z1 (λW=>mX c W);have l:cg c x=bK 3 ((c.st:Int)):=by unfold cg;simp[hk,lineN]
 rw[l];clear l;obtain⟨Q,y,z,A,B,a,b,D,d,F,f⟩:=x;simp only at hk;subst hk;obtain⟨st,sa,lo,q⟩:=c;unfold Cl.val;simp only[Cl.arr,Cg.cells]at*;obtain⟨⟨R,S,T,U,X,g5⟩,g6,g7,g8,g9,P⟩:=bh i;have c0:=e.cell 0;have c1:=e.cell 1;have c2:=e.cell 2;have c3:=e.cell 3;have G:=e.lt;have H:=i.lt;clear h j e i hz
 go_in
 go_wp2_with fail;generalize L:(w.alloc (.cells #[I st,I sa,I lo,I q] 23)).alloc (.cells #[I 4,.string y,I z,I A,I B,I a,I b,I D,I d,I F,I f] 73)=V at*;generalize m:w.heap.size=v9 at*;have r:=Z1 m;clear L m;refine zm (v.o _) λw1 h=>?_;have s:=Z1 h;clear h;go_wp2_with fail;refine(jo 3 (st:Int) _).mono ?_;rintro e2 w2 ⟨v2,rfl,n⟩;have t:=Z1 n;clear n;go_wp2;go_ret;have N:=r.o;have p:=u.o.1;try rw[<-N]at p
 exact⟨_,rfl,t.o.lower (af p s.o)⟩
def Kl(c:Cg)(hc:c.ok)(x:Cl)(hx:x.ok)(hk:x.k=5)(hz:aH x=0)(w:World):C 138 #[.agg #[I c.st,I c.sa,I c.lo,I c.hi],x.val] w (ia w (cg c x)):=by
 have h:=zh w (.cells c.cells.toArray 23);have j:=ae h (.cells x.arr 73);have e:=(Blk.A8 w 23 c.cells.toArray rfl).alloc (.cells x.arr 73);have i:=Blk.A8 (w.alloc (.cells c.cells.toArray 23)) 73 x.arr (g:=w.heap.size+1) zS;have u:=Z3 j e i;have O:=Cg.I0 hc;have v:=Z1 (λW=>mX c W);have l:cg c x=bK 2 ((c.st:Int)):=by unfold cg;simp[hk,lineN]
 rw[l];clear l;obtain⟨Q,y,z,A,B,a,b,D,d,F,f⟩:=x;simp only at hk;subst hk;obtain⟨st,sa,lo,q⟩:=c;unfold Cl.val;simp only[Cl.arr,Cg.cells]at*;obtain⟨⟨R,S,T,U,X,g5⟩,g6,g7,g8,g9,P⟩:=bh i;have c0:=e.cell 0;have c1:=e.cell 1;have c2:=e.cell 2;have c3:=e.cell 3;have G:=e.lt;have H:=i.lt;clear h j e i hz
 go_in
 go_wp2_with fail;generalize L:(w.alloc (.cells #[I st,I sa,I lo,I q] 23)).alloc (.cells #[I 5,.string y,I z,I A,I B,I a,I b,I D,I d,I F,I f] 73)=V at*;generalize m:w.heap.size=v9 at*;have r:=Z1 m;clear L m;refine zm (v.o _) λw1 h=>?_;have s:=Z1 h;clear h;go_wp2_with fail;refine(jo 2 (st:Int) _).mono ?_;rintro e2 w2 ⟨v2,rfl,n⟩;have t:=Z1 n;clear n;go_wp2;go_ret;have N:=r.o;have p:=u.o.1;try rw[<-N]at p
 exact⟨_,rfl,t.o.lower (af p s.o)⟩
def Km(c:Cg)(hc:c.ok)(x:Cl)(hx:x.ok)(hk:x.k=8)(hz:aH x=0)(w:World):C 138 #[.agg #[I c.st,I c.sa,I c.lo,I c.hi],x.val] w (ia w (cg c x)):=by
 have h:=zh w (.cells c.cells.toArray 23);have j:=ae h (.cells x.arr 73);have e:=(Blk.A8 w 23 c.cells.toArray rfl).alloc (.cells x.arr 73);have i:=Blk.A8 (w.alloc (.cells c.cells.toArray 23)) 73 x.arr (g:=w.heap.size+1) zS;have u:=Z3 j e i;have O:=Cg.I0 hc;have v:=Z1 (λW=>ju c hc W);have l:cg c x=bK 3 ((c.st:Int)+1):=by unfold cg;simp[hk,lineN]
 rw[l];clear l;obtain⟨Q,y,z,A,B,a,b,D,d,F,f⟩:=x;simp only at hk;subst hk;obtain⟨st,sa,lo,q⟩:=c;unfold Cl.val;simp only[Cl.arr,Cg.cells]at*;obtain⟨⟨R,S,T,U,X,g5⟩,g6,g7,g8,g9,P⟩:=bh i;have c0:=e.cell 0;have c1:=e.cell 1;have c2:=e.cell 2;have c3:=e.cell 3;have G:=e.lt;have H:=i.lt;clear h j e i hz
 go_in
 go_wp2_with fail;generalize L:(w.alloc (.cells #[I st,I sa,I lo,I q] 23)).alloc (.cells #[I 8,.string y,I z,I A,I B,I a,I b,I D,I d,I F,I f] 73)=V at*;generalize m:w.heap.size=v9 at*;have r:=Z1 m;clear L m;refine zm (v.o _) λw1 h=>?_;have s:=Z1 h;clear h;go_wp2_with fail;refine(jo 3 ((st:Int)+1) _).mono ?_;rintro e2 w2 ⟨v2,rfl,n⟩;have t:=Z1 n;clear n;go_wp2;go_ret;have N:=r.o;have p:=u.o.1;try rw[<-N]at p
 exact⟨_,rfl,t.o.lower (af p s.o)⟩
def Kn(c:Cg)(hc:c.ok)(x:Cl)(hx:x.ok)(hk:x.k=7)(hz:aH x=0)(w:World):C 138 #[.agg #[I c.st,I c.sa,I c.lo,I c.hi],x.val] w (ia w (cg c x)):=by
 have h:=zh w (.cells c.cells.toArray 23);have j:=ae h (.cells x.arr 73);have e:=(Blk.A8 w 23 c.cells.toArray rfl).alloc (.cells x.arr 73);have i:=Blk.A8 (w.alloc (.cells c.cells.toArray 23)) 73 x.arr (g:=w.heap.size+1) zS;have v:=Z3 j e i;have Q:=Cg.I0 hc;have q:=mY hz zO;have y:=Z1 (λW=>pP c hc x.id q W);have l:cg c x=bK 2 (i7 c x.id):=by unfold cg;simp[hk,lineN]
 rw[l];generalize i7 c x.id=z at*;clear l;obtain⟨S,A,B,D,F,a,b,G,d,H,f⟩:=x;simp only at hk;subst hk;obtain⟨st,sa,lo,r⟩:=c;unfold Cl.val;simp only[Cl.arr,Cg.cells]at*;obtain⟨⟨T,U,X,g3,g4,g5⟩,g6,g7,g8,g9,R⟩:=bh i;have c0:=e.cell 0;have c1:=e.cell 1;have c2:=e.cell 2;have c3:=e.cell 3;have L:=e.lt;have N:=i.lt;clear h j e i hz
 go_in
 go_wp2_with fail;generalize O:(w.alloc (.cells #[I st,I sa,I lo,I r] 23)).alloc (.cells #[I 7,.string A,I B,I D,I F,I a,I b,I G,I d,I H,I f] 73)=V at*;generalize m:w.heap.size=v9 at*;have s:=Z1 m;clear O m;refine zm (y.o _) λw1 h=>?_;have t:=Z1 h;clear h;go_wp2_with fail;refine(jo 2 z _).mono ?_;rintro e2 w2 ⟨v2,rfl,n⟩;have u:=Z1 n;clear n;go_wp2;go_ret;have P:=s.o;have p:=v.o.1;try rw[<-P]at p
 exact⟨_,rfl,u.o.lower (af p t.o)⟩
def dU:cU prog 73 11:=⟨zR,zR,zR⟩
def dV{w:World}{o:Oper}(s x:Operand)(ho:o.op=.call {callee:=.builtin .append,args:=#[s,x],argTypes:=#[194,194]})
  {m k2:Nat}{l r:List (Int×Int)}{A A2:Option Addr}(hs:a.eval s=.slice A n k)(hm:w.ownsRow B 250 2 (.slice A n k) n (d7 l))(hx:a.eval x=.slice A2 m k2)(hr:an w w.heap.size 2 A2 m (d7 r))(hlen:n+m<=1000)(hB:B<=w.heap.size)
  (h:∀A' k' w',w'.ownsRow B 250 2 (.slice A' (n+m) k') (n+m) (d7 (l++r))->(∀V:World,M V w->V.heap.size<=B->M V w')->K (a.put o.dst (.slice A' (n+m) k')) w'):o.wp prog a w K Q:=by
 obtain⟨p,c,d,e,f⟩:=info_parts s7.info;refine dC w s x 194 ho B 250 p _ 2 16 underlying194 c d e f rfl zP (.slice A n k) n (d7 l) hs hm w.heap.size A2 m k2 (d7 r) hx hr (Ke r) zU zO hB ?_;intro u w' b g _;obtain⟨A',k',rfl,_,_⟩:=ak b;rw[yc]at b;exact h A' k' w' b λV i j=>i.grown g i.size λq t=>OJ j (hm.lt q t).1
def Ko(c:Cg)(hc:c.ok)(x:Cl)(hx:x.ok)(hk:x.k=3)(hz:aH x=0)(w:World):C 138 #[.agg #[I c.st,I c.sa,I c.lo,I c.hi],x.val] w (ia w (cg c x)):=by
 have v:=zh w (.cells c.cells.toArray 23);have j:=ae v (.cells x.arr 73);have i:=(Blk.A8 w 23 c.cells.toArray rfl).alloc (.cells x.arr 73);have l:=Blk.A8 (w.alloc (.cells c.cells.toArray 23)) 73 x.arr (g:=w.heap.size+1) zS;have HB:=Z3 j i l;have a6:=Cg.I0 hc;have R:=Z1 (λu W=>yd c hc u W);have HC:=Z1 (λW=>mX c W);have y:cg c x=dr c 2++bK 3 c.st++dr c 5:=by unfold cg;simp[hk]
 have z:∀u,(dr c u).length=c.st:=λu=>by simp[dr]
 have A:=Z1 z;rw[y];clear y z;generalize dr c=T at*;obtain⟨xk,id,tk,va,ha,a,b,cc,d,e0,f⟩:=x;simp only at hk;subst hk;obtain⟨st,sa,lo,X⟩:=c;unfold Cl.val;simp only[Cl.arr,Cg.cells]at*;obtain⟨⟨g0,g1,g2,g3,g4,g5⟩,g6,g7,g8,g9,a7⟩:=bh l;have L:=i.cell 0;have N:=i.cell 1;have O:=i.cell 2;have P:=i.cell 3;have e:=i.lt;have a3:=l.lt;clear v j i l hz
 go_in
 go_upto_region 8 with fail
 generalize hV:(w.alloc (.cells #[I st,I sa,I lo,I X] 23)).alloc (.cells #[I 3,.string id,I tk,I va,I ha,I a,I b,I cc,I d,I e0,I f] 73)=V at*;generalize B:w.heap.size=h at*;have aa:=Z1 B;clear hV B;have au:st<=64:=zO;have Q:=(zi V);refine zH (S:=λU=>M V U) Q ?_;refine zq 0 ?_ (λW hW=>?_) ?_;rotate_left
 ·have q0:=(OF hW (p:=Y h 0) e).trans L;have q1:=(OF hW (p:=Y h 1) e).trans N;have q2:=(OF hW (p:=Y h 2) e).trans O;have q3:=(OF hW (p:=Y h 3) e).trans P;exact zf
 refine zq 2 ?_ (λW hW=>?_) ?_;rotate_left
 ·have q0:=(OF hW (p:=Y h 0) e).trans L;have q1:=(OF hW (p:=Y h 1) e).trans N;have q2:=(OF hW (p:=Y h 2) e).trans O;have q3:=(OF hW (p:=Y h 3) e).trans P;exact zf
 refine zq 6 ?_ (λW hW=>?_) ?_;rotate_left
 ·have q0:=(OF hW (p:=Y h 0) e).trans L;have q1:=(OF hW (p:=Y h 1) e).trans N;have q2:=(OF hW (p:=Y h 2) e).trans O;have q3:=(OF hW (p:=Y h 3) e).trans P;exact zf
 refine zo 1 λK hK=>?_;go_simp
 (refine(R.o 2 _).mono ?_)
 rintro e1 w1 ⟨v1,rfl,q⟩;obtain⟨A1,k1,rfl,_,_⟩:=ak q.own;have D:=af Q q.below;have ah:=aP q.own Q.size;refine zJ hK D ?_;refine zo 3 λK hK=>?_;go_simp;refine zm (HC.o _) λw2 j=>?_;have F:=af D j;have ai:=aN ah j;refine zJ hK F ?_;refine zo 4 λK hK=>?_;go_simp
 (refine(jo 3 st _).mono ?_)
 rintro e3 w3 ⟨v3,rfl,m⟩;obtain⟨A3,k3,rfl,_,_⟩:=ak m.own;have r:=af F m.below;have aj:=aN ai m.below;refine zJ hK r ?_;refine zo 5 λK hK=>?_;refine dV (.tmp 37) (.tmp 40) rfl zF aj zF (an.C4 m.own) zO r.size ?_;intro A4 k4 w4 am ao;have G:=ao V r (OA _);refine zJ hK G ?_;refine zo 7 λK hK=>?_;go_simp
 (refine(R.o 5 _).mono ?_)
 rintro e5 w5 ⟨v5,rfl,n⟩;obtain⟨A5,k5,rfl,_,_⟩:=ak n.own;have s:=af G n.below;have ap:=aN am n.below;refine zJ hK s ?_;refine zo 8 λK hK=>?_;refine dV (.tmp 41) (.tmp 43) rfl zF ap zF (an.C4 n.own) zO s.size ?_;intro A6 k6 w6 aq ar;have H:=ar V s (OA _);refine zJ hK H ?_;go_wp2;go_ret;have h9:=aa.o;have t:=HB.o.1;try rw[<-h9]at t
 refine⟨_,rfl,?_,af t H⟩;rw[show(T 2++bK 3 (st:Int)++T 5).length=st+3+st by rw[OS,OS,A.o,A.o];rfl];exact aP aq t.size
def Kq(c:Cg)(hc:c.ok)(x:Cl)(hx:x.ok)(hk:x.k=2)(hz:aH x=0)(w:World):C 138 #[.agg #[I c.st,I c.sa,I c.lo,I c.hi],x.val] w (ia w (cg c x)):=by
 have P:=zh w (.cells c.cells.toArray 23);have Q:=ae P (.cells x.arr 73);have m:=(Blk.A8 w 23 c.cells.toArray rfl).alloc (.cells x.arr 73);have A:=Blk.A8 (w.alloc (.cells c.cells.toArray 23)) 73 x.arr (g:=w.heap.size+1) zS;have HB:=Z3 Q m A;have bi:=Cg.I0 hc;have N:=Z1 (λO W=>yd c hc O W);have R:cg c x=dr c 3++[(4,0)]++dr c 5:=by unfold cg;simp[hk]
 have T:∀O,(dr c O).length=c.st:=λO=>by simp[dr]
 have B:=Z1 T;rw[R];clear R T;generalize dr c=l at*;obtain⟨xk,id,tk,va,ha,a,b,cc,d,e0,f⟩:=x;simp only at hk;subst hk;obtain⟨st,sa,lo,ad⟩:=c;unfold Cl.val;simp only[Cl.arr,Cg.cells]at*;obtain⟨⟨g0,g1,g2,g3,g4,g5⟩,g6,g7,g8,g9,bj⟩:=bh A;have c0:=m.cell 0;have c1:=m.cell 1;have c2:=m.cell 2;have c3:=m.cell 3;have h:=m.lt;have aw:=A.lt;clear P Q m A hz
 go_in
 go_upto_region 6 with fail
 generalize hV:(w.alloc (.cells #[I st,I sa,I lo,I ad] 23)).alloc (.cells #[I 2,.string id,I tk,I va,I ha,I a,I b,I cc,I d,I e0,I f] 73)=V at*;generalize X:w.heap.size=s at*;have aa:=Z1 X;clear hV X;have am:st<=64:=zO;have e:=(zi V);refine ay (S:=λU=>M V U) zR e ?_;generalize V.drew=U at*;simp only[zD,zE,Nat.reduceAdd,zG];refine zq 0 ?_ (λW hW=>?_) ?_;rotate_left
 ·have q0:=(OF hW (p:=Y s 0) h).trans c0;have q1:=(OF hW (p:=Y s 1) h).trans c1;have q2:=(OF hW (p:=Y s 2) h).trans c2;have q3:=(OF hW (p:=Y s 3) h).trans c3;exact zf
 refine zL ?_;refine zq 5 ?_ (λW hW=>?_) ?_;rotate_left
 ·have q0:=(OF hW (p:=Y s 0) h).trans c0;have q1:=(OF hW (p:=Y s 1) h).trans c1;have q2:=(OF hW (p:=Y s 2) h).trans c2;have q3:=(OF hW (p:=Y s 3) h).trans c3;exact zf
 refine nQ 1 3 zR rfl rfl zF zF (λK hK=>?_) (λK hK=>?_)
 ·skip
  go_simp
  (refine(N.o 3 _).mono ?_)
  rintro e1 U ⟨v1,rfl,i⟩;obtain⟨A1,k1,rfl,_,_⟩:=ak i.own;have y:=aP i.own e.size;try have z:=z.up i.below
  have e:=af e i.below;clear i;refine zJ hK e ?_;refine zo 3 λK hK=>?_;go_simp;have e:=ae e (.cells #[I 4,I 0] 250);have z:=(dD U 250 #[I 4,I 0] 2 1 U.heap.size (U.heap.size+1) rfl rfl rfl).more (B':=(U.alloc (.cells #[I 4,I 0] 250)).heap.size) zS;try have y:=y.alloc (.cells #[I 4,I 0] 250)
  refine zJ hK e ?_;refine zo 4 λK hK=>?_;refine dV (r:=[(4,0)]) (.tmp 27) (.tmp 29) rfl zF y zF z zO e.size ?_;intro A4 k4 U D F;have t:=F V e (OA _);refine zJ hK t ?_;refine zo 6 λK hK=>?_;go_simp
  (refine(N.o 5 _).mono ?_)
  rintro e5 w5 ⟨v5,rfl,j⟩;obtain⟨A5,k5,rfl,_,_⟩:=ak j.own;have n:=af t j.below;have G:=aN D j.below;refine zJ hK n ?_;refine zo 7 λK hK=>?_;refine dV (.tmp 30) (.tmp 32) rfl zF G zF (an.C4 j.own) zO n.size ?_;intro A6 k6 w6 u H;have v:=H V n (OA _);refine zJ hK v ?_;go_wp2;go_ret;have h9:=aa.o;have q:=HB.o.1;try rw[<-h9]at q
  refine⟨_,rfl,?_,af q v⟩;have L:l 3++[(4,0)]++l 5=l 3++(4,0)::l 5:=zS;rw[L]at u;rw[show(l 3++(4,0)::l 5).length=st+1+st by rw[<-L,OS,OS,B.o,B.o];rfl];exact aP u q.size
 ·skip
  go_simp;have e:=ae e (.cells #[I 4,I 0] 250);have z:=(dD U 250 #[I 4,I 0] 2 1 U.heap.size (U.heap.size+1) rfl rfl rfl).more (B':=(U.alloc (.cells #[I 4,I 0] 250)).heap.size) zS;try have y:=y.alloc (.cells #[I 4,I 0] 250)
  refine zJ hK e ?_;refine zo 1 λK hK=>?_;go_simp
  (refine(N.o 3 _).mono ?_)
  rintro e1 U ⟨v1,rfl,i⟩;obtain⟨A1,k1,rfl,_,_⟩:=ak i.own;have y:=aP i.own e.size;try have z:=z.up i.below
  have e:=af e i.below;clear i;refine zJ hK e ?_;refine zo 4 λK hK=>?_;refine dV (r:=[(4,0)]) (.tmp 27) (.tmp 29) rfl zF y zF z zO e.size ?_;intro A4 k4 U D F;have t:=F V e (OA _);refine zJ hK t ?_;refine zo 6 λK hK=>?_;go_simp
  (refine(N.o 5 _).mono ?_)
  rintro e5 w5 ⟨v5,rfl,j⟩;obtain⟨A5,k5,rfl,_,_⟩:=ak j.own;have n:=af t j.below;have G:=aN D j.below;refine zJ hK n ?_;refine zo 7 λK hK=>?_;refine dV (.tmp 30) (.tmp 32) rfl zF G zF (an.C4 j.own) zO n.size ?_;intro A6 k6 w6 u H;have v:=H V n (OA _);refine zJ hK v ?_;go_wp2;go_ret;have h9:=aa.o;have q:=HB.o.1;try rw[<-h9]at q
  refine⟨_,rfl,?_,af q v⟩;have L:l 3++[(4,0)]++l 5=l 3++(4,0)::l 5:=zS;rw[L]at u;rw[show(l 3++(4,0)::l 5).length=st+1+st by rw[<-L,OS,OS,B.o,B.o];rfl];exact aP u q.size
def DA(c:Cg)(hc:c.ok)(x:Cl)(hx:x.ok)(hz:aH x=0)(w:World):C 138 #[.agg #[I c.st,I c.sa,I c.lo,I c.hi],x.val] w (ia w (cg c x)):=by
 rcases uX hz with a|a|a|a|a|a|a|a
 ·exact Ki c hc x hx a hz w
 ·exact Kq c hc x hx a hz w
 ·exact Ko c hc x hx a hz w
 ·exact Kk c hc x hx a hz w
 ·exact Kl c hc x hx a hz w
 ·exact Kj c hc x hx a hz w
 ·exact Kn c hc x hx a hz w
 ·exact Km c hc x hx a hz w
def vF{c:Cg}(hc:c.ok)(x:Cl):(cg c x).length<=200:=by
 have h:=(Cg.small hc).2.1;unfold cg dr bK;split
 ·simp
 split
 ·simp;omega
 split
 ·simp;omega
 split
 ·simp
 split
 ·simp
 split<;>simp
def yk(c:Cg)(hc:c.ok)(x:Cl)(hx:x.ok)(w:World):C 94 #[c.val,x.val] w (ia w (aF c x)):=by
 have d:=zh w (.cells c.cells.toArray 23);have e:=ae d (.cells x.arr 73);have z:=(Blk.A8 w 23 c.cells.toArray rfl).alloc (.cells x.arr 73);have S:=Blk.A8 (w.alloc (.cells c.cells.toArray 23)) 73 x.arr (g:=w.heap.size+1) zS;have HB:=Z3 e z S;have hR:=λW=>gH c.st c.sa c.lo c.hi W;have hE:pu c.st c.sa c.lo c.hi=0:=by exact OB hc
 rw[hE]at hR;have HR:=Z1 hR;have a3:=Z1 (λW=>oy x hx.L7 W);have T:aF c x=(1,0)::((if aH x=0 then cg c x else[])++[(7,0)]):=rfl;have U:=Z1 T;have a4:=Z1 (vF hc x);have a5:=Z1 (λ(h:aH x=0) W=>DA c hc x hx h W);generalize X:x.val=xv at*;have a6:xv=.agg x.arr:=by rw[<-X];rfl
 have aa:x.arr.size=11:=rfl;have ab:x.arr.all (·.oneCell')=true:=by simp[Cl.arr,Value.oneCell']
 generalize x.arr=xa at*;subst a6;have ac:=Z2 aa ab;obtain⟨c0,c1,c2,c3⟩:=mW z;generalize a7:aH x=ce at*;obtain⟨st,sa,lo,A⟩:=c;simp only[Cg.val,Cg.cells]at*;clear hR hE d e z S hc hx T X aa ab a7
 go_in
 go_wp2_with fail;generalize hV:(w.alloc (.cells #[I st,I sa,I lo,I A] 23)).alloc (.cells xa 73)=V at*;generalize D:w.heap.size=v9 at*;have F:=HB.o.1;try rw[<-D]at F
 have HV:=Z2 D F;clear hV D F;refine zm (HR.o _) λf d=>?_;have G:=HB.o.2.1.later d;have H:=HB.o.2.2.later d;have k:=Z3 d G H;clear G H d c0 c1 c2 c3;have L:=eI (B:=f.heap.size) (s:=2) (n:=1) (Blk.A8 f 250 #[I 1,I 0] rfl) (OA _) rfl (by simp[maxLen]);have N:=zh f (.cells #[I 1,I 0] 250);have bb:=Z1 (bQ (k.o.2.2.later N));have HO:=Z2 L N;clear L N
 go_wp2_with (refine aG dU rfl (.tmp 3) rfl (Y (v9+1) 0) zF xa ac.o.1 bb.o ?_)
 generalize bd:f.alloc (.cells #[I 1,I 0] 250)=W2 at*;generalize O:f.heap.size=g2 at*;refine zm (a3.o _) λw2 e=>?_;have ad:=aN HO.o.1 e;have ag:=Z2 ad e;have j:M f w2:=by
  have h:=HO.o.2;rw[<-O]at h;exact af h e
 have i:=Z3 j (k.o.2.1.later j) (k.o.2.2.later j);have a:=Z1 O;clear ad e bd j O;have be:=Z1 (mW (c:=⟨st,sa,lo,A⟩) i.o.2.1);by_cases R:ce=0
 ·subst R;have P:=Z1 U.o;rw[OB rfl]at P;obtain⟨c0,c1,c2,c3⟩:=be.o;have bf:=Z1 (bQ i.o.2.2)
  go_wp2_with (refine aG dU rfl (.tmp 3) rfl (Y (v9+1) 0) zF xa ac.o.1 bf.o ?_)
  refine(a5.o (by first|rfl|trivial) _).mono ?_;rintro e3 w3 ⟨v3,rfl,v⟩;obtain⟨A3,k3,rfl,_,_⟩:=ak v.own;generalize bg:cg ⟨st,sa,lo,A⟩ x=m at*;generalize ah:m.length=nl at*;have bm:=a4.o;have p:=Z3 v (aN ag.o.1 v.below) ah;clear c0 c1 c2 c3 v bg ah;go_upto_region 6 with(at_builtin;refine wpList_plain rfl ?_;intro K' b;refine dV (l:=[(1,0)]) (.tmp 14) (.tmp 17) rfl zF p.o.2.1 zF (an.C4 p.o.1.own) zO (by have:=a.o;have:=i.o.1.size;have:=p.o.1.below.size;omega) ?_;intro A4 k4 w4 y ai;have y:=(by simpa using y:w4.ownsRow g2 250 2 (.slice A4 (1+nl) k4) (1+nl) (d7 ((1,0)::m)));have H4:=Z2 y (ai f (af i.o.1 p.o.1.below) (by have:=a.o;omega));clear y ai;refine b _ _ ?_;clear b)
  go_wp2_with (at_builtin;refine wpList_plain rfl ?_;intro K' b;refine dV (l:=(1,0)::m) (r:=[(7,0)]) (.tmp 19) (.tmp 21) rfl zF (H4.o.1.alloc (.cells #[I 7,I 0] 250)) zF ((dD w4 250 #[I 7,I 0] 2 1 w4.heap.size _ rfl rfl rfl).more zS) zO (by have:=a.o;have:=H4.o.2.size;simp;omega) ?_;intro A6 k6 w6 q t;have Q:=Z2 q (t f (ae H4.o.2 _) (by have:=a.o;omega));clear q t;refine b _ _ ?_;clear b)
  go_ret;have u:=af HV.o.2 k.o.1;refine⟨_,rfl,?_,af u Q.o.2⟩;rw[P.o];have e9:(1,0)::(m++[(7,0)])=[(1,0)]++m++[(7,0)]:=zS;rw[e9,OS,OS,p.o.2.2];have h6:=aP Q.o.1 (show w.heap.size<=g2 by have:=a.o;have:=u.size;omega);exact h6
 ·have P:=Z1 U.o;rw[Oz R]at P;have bt:(ce==0)=false:=by simpa using R
  clear R
  go_wp2_with (at_builtin;refine wpList_plain rfl ?_;intro K' b;refine dV (l:=[(1,0)]) (r:=[(7,0)]) (.tmp 19) (.tmp 21) rfl zF (ag.o.1.alloc (.cells #[I 7,I 0] 250)) zF ((dD w2 250 #[I 7,I 0] 2 1 w2.heap.size _ rfl rfl rfl).more zS) zO (by have:=a.o;have:=i.o.1.size;simp;omega) ?_;intro A6 k6 w6 q t;have Q:=Z2 q (t f (ae i.o.1 _) (by have:=a.o;omega));clear q t;refine b _ _ ?_;clear b)
  go_ret;have u:=af HV.o.2 k.o.1;refine⟨_,rfl,?_,af u Q.o.2⟩;rw[P.o];have h6:=aP Q.o.1 (show w.heap.size<=g2 by have:=a.o;have:=u.size;omega);exact h6
end Go.Fw
