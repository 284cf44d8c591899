/- Lemmas of this claim. Conditions: as each says. -/
import Derived.Test.YtpfmpaolgmoajaaGreatD19
set_option linter.unusedVariables false
set_option linter.unusedSimpArgs false
set_option maxHeartbeats 4000000
set_option maxRecDepth 20000
set_option linter.defProp false
open Go.Proofs.Tryz
namespace Go.Fw
open Go.RowKit open Go.Proofs hiding intOf
def SH(a:Adv)(now:Int):Bool:=if a.I8=2 then decide (now<a.V1)else if a.I8=3 then decide (a.V1<now)else if a.I8=1 then decide (a.V1=now)else true
def SW(p:Pl)(held:Bool)(op now th:Int):1<=pw p held op now th/\pw p held op now th<=6/\(pw p held op now th==4)=held/\∀a:Adv,a.I8=pw p held op now th->a.V1=th->SH a now=true:=by
 unfold pw SH
 cases held with
 |true=>
  rw[OB rfl];exact⟨zP,zP,rfl,λa b c=>by rw[b];rfl⟩
 |false=>
  rw[Oz zP];by_cases b:p.mx<op
  ·rw[OB b];exact⟨zP,zP,rfl,λa b c=>by rw[b];rfl⟩
  rw[Oz b];by_cases c:op<p.mn
  ·rw[OB c];exact⟨zP,zP,rfl,λa b c=>by rw[b];rfl⟩
  rw[Oz c];by_cases d:now<th
  ·rw[OB d];exact⟨zP,zP,rfl,λa b c=>by rw[b,c];simpa using d⟩
  rw[Oz d];by_cases e:th<now
  ·rw[OB e];exact⟨zP,zP,rfl,λa b c=>by rw[b,c];simpa using e⟩
  rw[Oz e];exact⟨zP,zP,rfl,λa b c=>by rw[b,c];simp;omega⟩
structure AuW(p:Pl)(a:Array Value)(w W:World):Prop where
 D8:Blk W w.heap.size 51 #[I p.mn,I p.mx,I p.tg,I p.G9,I p.G5,I p.hold]
 E0:Blk W (w.heap.size+1) 62 a
 below:M w W
def AuW.up{p:Pl}{a:Array Value}{w W W':World}(h:AuW p a w W)(hb:M W W'):AuW p a w W':=⟨h.D8.later hb,h.E0.later hb,af h.below hb⟩
def AuW.start(p:Pl)(a:Array Value)(w:World):AuW p a w ((w.alloc (.cells p.arr 51)).alloc (.cells a 62)):=
 ⟨(iY p w).1.alloc _,Blk.A8 _ _ _ zS,ae (iY p w).2 _⟩
def SL(p:Pl)(n:Int)(w:World)(hr:p.right=true)(h1:p.mn<=n)(h2:n<=p.mx):
  C 38 #[p.val,I n] w (J (.bool true) w):=by
 have d:=Z1 (λW=>jK p W hr);have a:=Z1 (iY p w);obtain⟨f,g,h,i,j,k⟩:=bi a.o.1;unfold Pl.val Pl.arr at*
 go_in
 go_wp2_with (go_at_call 85;refine(d.o _).mono ?_;rintro e l ⟨rfl,b⟩;have c:=Z2 b (a.o.1.later b);clear b;obtain⟨m,q,r,s,t,u⟩:=bi c.o.2)
 go_ret;exact⟨by first|rfl|(simp;done)|(simp;omega),af a.o.2 c.o.1⟩
def SX(p:Pl)(a:Adv)(now:Int)(w:World):
  C 90 #[p.val,.agg a.arr,I now] w (J (.bool (SH a now)) w):=by
 have c:=Z1 (AuW.start p a.arr w);obtain⟨q,r,s,t,u,v⟩:=bi c.o.D8;have b:Hid (SH a now=if a.I8=2 then decide (now<a.V1)else if a.I8=3 then decide (a.V1<now)else if a.I8=1 then decide (a.V1=now)else true):=Z1 rfl;obtain⟨j,k,l,i,d⟩:=a;obtain⟨⟨x,y,z,A,B⟩,_⟩:=eO c.o.E0;unfold Pl.val Pl.arr Adv.arr at*;simp only at*;generalize m:SH ⟨j,k,l,i,d⟩ now=D at*;by_cases f:d=2
 ·subst f;rw[OB rfl]at b
  go_in
  go_wp2;go_ret;exact⟨cN b.o.symm,c.o.below⟩
 ·have F:(d==2)=false:=by simpa using f
  rw[Oz f]at b;by_cases g:d=3
  ·subst g;rw[OB rfl]at b
   go_in
   go_wp2;go_ret;exact⟨cN b.o.symm,c.o.below⟩
  ·have G:(d==3)=false:=by simpa using g
   rw[Oz g]at b;by_cases h:d=1
   ·subst h;rw[OB rfl]at b
    go_in
    go_wp2;go_ret;refine⟨cN ?_,c.o.below⟩;rw[b.o];by_cases n:i=now<;>simp[n]
   ·have H:(d==1)=false:=by simpa using h
    rw[Oz h]at b
    go_in
    go_wp2;go_ret;exact⟨cN b.o.symm,c.o.below⟩
def SS(p:Pl)(l:List Smp)(C0:List Adv)(A A2:Option Addr)(n n2 c2:Nat)(w:World)(h:wg p l C0 A A2 n n2 w)(he:fW p l=0):
  C 39 #[p.val,.slice A2 n2 c2,.agg (od p l C0).arr] w (J (I 0) w):=by
 have X:p.right=true:=by
  unfold fW at he;by_cases hq:p.right=false
  ·rw[OB hq]at he;omega
  ·simpa using hq
 have ht:=sN h.S6;have ai:l.length<=100000:=by have:=iB h.rl;have:=h.nl;omega
 have aa:=Np h.S6 ai (dg l) p.G5;have aj:=Ma h.ok h.S7;have ak:=Z1 (λW (a:M w W)=>Jt p C0 A2 c2 n2 W (h.rp.up a) h.np);have HD:Hid (od p l C0=⟨dg l,(atF l (dg l) p.G5).F3,kq p (atF l (dg l) p.G5).F3 (jG p C0),eW p (ofS C0 (dg l) p.hold (kq p (atF l (dg l) p.G5).F3 (jG p C0))).1,
  pw p (ofS C0 (dg l) p.hold (kq p (atF l (dg l) p.G5).F3 (jG p C0))).2 (su p (atF l (dg l) p.G5).F3 (jG p C0)) (jG p C0) (eW p (ofS C0 (dg l) p.hold (kq p (atF l (dg l) p.G5).F3 (jG p C0))).1)⟩):=Z1 rfl
 rw[HD.o];generalize (atF l (dg l) p.G5).F3=b at*;generalize jG p C0=j at*;have HR:=Z1 (λW=>Js p b j W X h.ok aa aj);have ad:=Z1 (λW (a:M w W)=>Ng C0 A2 c2 n2 p.mn p.mx p.tg p.G9 p.G5 p.hold (dg l) (kq p b j) W (h.rp.up a) h.np ht h.ok.2.2.2.2.2 λk hk=>⟨(h.S7 _ (OR hk)).tick,(h.S7 _ (OR hk)).want⟩);generalize dg l=D at*;generalize kq p b j=F at*;generalize ofS C0 D p.hold F=s at*;obtain⟨s1,G⟩:=s;simp only at ad ⊢;have ae:=Z1 (λW=>oi p s1 W X);have ag:p.mn<=eW p s1/\eW p s1<=p.mx:=SB (uA X h.ok).2.2.2.1;generalize eW p s1=O at*;have HH:=Z1 (λW=>SL p O W X ag.1 ag.2);obtain⟨a0,a1,a2,ao⟩:=SW p G (su p b j) j O;generalize pw p G (su p b j) j O=wy at*;have HY:=Z1 (λW=>SX p ⟨D,b,F,O,wy⟩ j W);rw[ao _ rfl rfl]at HY;have H:=Z1 (AuW.start p (Adv.arr ⟨D,b,F,O,wy⟩) w);have a3:¬wy<1:=zO;have a4:¬6<wy:=zO;have ap:p.val=.agg p.arr:=rfl;rw[ap]at*;obtain⟨r,t,u,v,x,y⟩:=bi H.o.D8;unfold Pl.arr Adv.arr at*;simp only at*;obtain⟨⟨c,d,f,g,i⟩,_⟩:=eO H.o.E0
 go_in
 go_upto_block 0 with(first|(go_at_call 86;(refine(ak.o _ H.o.below).mono ?_);rintro e w1 ⟨rfl,a⟩;have L:=Z1 (H.o.up a);clear a r t u v x y c d f g i;obtain⟨r,t,u,v,x,y⟩:=bi L.o.D8;obtain⟨⟨c,d,f,g,i⟩,_⟩:=eO L.o.E0)|(go_at_call 87;(refine(ad.o _ L.o.below).mono ?_);rintro e w2 ⟨rfl,a⟩;have P:=Z1 (L.o.up a);clear a r t u v x y c d f g i;obtain⟨r,t,u,v,x,y⟩:=bi P.o.D8;obtain⟨⟨c,d,f,g,i⟩,_⟩:=eO P.o.E0))
 go_upto_region 7 with(go_at_call 38;(refine(HH.o _).mono ?_);rintro e Q ⟨rfl,a⟩;have N:=Z1 (P.o.up a);clear a r t u v x y c d f g i)
 have z:M Q Q.drew:=(Oy _ _).drew;refine zH (S:=λW=>M Q W) z ?_;refine zq 1 ?_ (λW hW=>?_) ?_;rotate_left
 ·obtain⟨⟨c,d,f,g,i⟩,_⟩:=eO (N.o.up hW).E0;exact zf
 refine zq 2 ?_ (λW hW=>?_) ?_;rotate_left
 ·obtain⟨r,t,u,v,x,y⟩:=bi (N.o.up hW).D8;exact zf
 refine zL ?_;refine zq 4 ?_ (λW hW=>?_) ?_;rotate_left
 ·obtain⟨⟨c,d,f,g,i⟩,_⟩:=eO (N.o.up hW).E0;exact zf
 refine zL ?_;refine zo 6 λK hK=>?_;go_simp;refine zm (HR.o _) λR aq=>?_;have ah:=af z aq;refine zJ hK ah ?_;have m:=Z1 (N.o.up ah);go_upto_region 9 with fail
 have z:M R R.drew:=(Oy _ _).drew;refine ay (S:=λW=>M R W) zR z ?_
 cases G with
 |true=>
  simp only[zD,zE,Nat.reduceAdd,zG];refine zL ?_;refine zq 1 ?_ (λW hW=>?_) ?_;rotate_left
  ·obtain⟨⟨c,d,f,g,i⟩,_⟩:=eO (m.o.up hW).E0;exact zf
  refine zq 2 ?_ (λW hW=>?_) ?_;rotate_left
  ·obtain⟨r,t,u,v,x,y⟩:=bi (m.o.up hW).D8;exact zf
  refine zL ?_;refine zo 4 λK hK=>?_;go_simp;refine zm (ae.o _) λw5 T=>?_;have B:=af z T;refine zJ hK B ?_;refine zq 9 ?_ (λW hW=>?_) ?_;rotate_left
  ·obtain⟨⟨c,d,f,g,i⟩,_⟩:=eO (m.o.up hW).E0;exact zf
  refine zL ?_;have q:=Z1 (m.o.up B);obtain⟨r,t,u,v,x,y⟩:=bi q.o.D8;obtain⟨⟨c,d,f,g,i⟩,_⟩:=eO q.o.E0
  go_wp2_with (go_at_call 90;(refine(HY.o _).mono ?_);rintro e w6 ⟨rfl,a⟩;have U:=Z1 (q.o.up a);clear a)
  go_ret;exact⟨rfl,U.o.below⟩
 |false=>
  simp only[zD,zE,Nat.reduceAdd,zG];refine zL ?_;refine zq 1 ?_ (λW hW=>?_) ?_;rotate_left
  ·obtain⟨⟨c,d,f,g,i⟩,_⟩:=eO (m.o.up hW).E0;exact zf
  refine zq 2 ?_ (λW hW=>?_) ?_;rotate_left
  ·obtain⟨r,t,u,v,x,y⟩:=bi (m.o.up hW).D8;exact zf
  refine zL ?_;refine zo 4 λK hK=>?_;go_simp;refine zm (ae.o _) λw5 T=>?_;have B:=af z T;refine zJ hK B ?_;refine zq 9 ?_ (λW hW=>?_) ?_;rotate_left
  ·obtain⟨⟨c,d,f,g,i⟩,_⟩:=eO (m.o.up hW).E0;exact zf
  refine zL ?_;have q:=Z1 (m.o.up B);obtain⟨r,t,u,v,x,y⟩:=bi q.o.D8;obtain⟨⟨c,d,f,g,i⟩,_⟩:=eO q.o.E0
  go_wp2_with (go_at_call 90;(refine(HY.o _).mono ?_);rintro e w6 ⟨rfl,a⟩;have U:=Z1 (q.o.up a);clear a)
  go_ret;exact⟨rfl,U.o.below⟩
end Go.Fw
