/- Lemmas of this claim. Conditions: as each says. -/
import Derived.Test.YtpfmpaolgmoajaaGreatS08
import Derived.Test.YtpfmpaolgmoajaaGreatS06
import Derived.Test.YtpfmpaolgmoajaaGreatS09
import Derived.Test.YtpfmpaolgmoajaaGreatS10
set_option linter.unusedVariables false
set_option linter.unusedSimpArgs false
set_option maxHeartbeats 4000000
set_option maxRecDepth 20000
set_option linter.defProp false
open Go.Proofs.Tryz
namespace Go.Fw
open Go.Proofs Go.RowKit
variable {L:Nat->Prop}{i n:Nat}{A:Option Addr}{ps:List (List Cl)}{cs:List Value}(w:World)(c:Cg)(p:Nat)(x:Ld)(st sa:Int)(fz:Bool)(lo wk hi:Int)(F:Nat->Prop)
def jJ(x:Ld)(C7:Int)(sb qb:Nat)(fz:Bool):Array Value:=#[I x.D8.mn,I x.D8.mx,I x.D8.tg,I x.D8.G9,I x.D8.G5,I x.D8.hold,.bool x.E9,I C7,Z sb 0,Z qb 0,.bool fz]
structure dO(w:World)(c:Cg)(p:Nat)(x:Ld)(fz:Bool)(F:Nat->Prop)(C7:Int)(sb:Nat)(sl:Value)(qb rb:Nat)(rl:Value)(r:Rg Adv):Prop where
 B0:Blk w p 238 (jJ x C7 sb qb fz)
 I3:eC w sb sl x.D2 c.sa
 G7:HAt w qb rb 0 rl r
 C0:r.list=x.C0
 room:r.room=c.hi
 tp:F p
 ts:F sb
 tq:F qb
 tr:F rb
 L4:∀k,sl.ownBlock=some k->F k
 N6:∀k,rl.ownBlock=some k->F k
def bC(w:World)(c:Cg)(p:Nat)(x:Ld)(fz:Bool)(F:Nat->Prop):Prop:=∃C7 sb sl qb rb rl r,dO w c p x fz F C7 sb sl qb rb rl r
section
variable {w w':World} {F G:Nat→Prop} {c:Cg} {p:Nat} {x:Ld} {fz:Bool} {C7:Int} {sb:Nat} {sl:Value} {qb rb:Nat} {rl:Value} {r:Rg Adv}
def dO.B7(h:dO w c p x fz F C7 sb sl qb rb rl r)(hK:ag L w w')(hL:∀k,F k->¬L k):dO w' c p x fz F C7 sb sl qb rb rl r:=
 ⟨hK.B0 h.B0 (hL _ h.tp),⟨hK.B0 h.I3.B0 (hL _ h.ts),hK.C8 h.I3.own λk a=>hL _ (h.L4 k a)⟩,
  ⟨hK.B0 h.G7.box (hL _ h.tq),ej.B7 h.G7.rg hK (hL _ h.tr) λk a=>hL _ (h.N6 k a),OK _,OK _⟩,h.C0,h.room,h.tp,h.ts,h.tq,h.tr,h.L4,h.N6⟩
def dO.lts(h:dO w c p x fz F C7 sb sl qb rb rl r):p<w.heap.size/\sb<w.heap.size/\qb<w.heap.size/\rb<w.heap.size/\(∀k,sl.ownBlock=some k->k<w.heap.size)/\∀k,rl.ownBlock=some k->k<w.heap.size:=
 ⟨h.B0.lt,h.I3.B0.lt,h.G7.box.lt,h.G7.rg.B0.lt,λk a=>(h.I3.own.lt k a).2,λk a=>(h.G7.rg.own.lt k a).2⟩
def dO.more(h:dO w c p x fz F C7 sb sl qb rb rl r)(hF:∀k,k<w.heap.size->F k->G k):dO w c p x fz G C7 sb sl qb rb rl r:=by
 obtain⟨b,d,e,f,g,i⟩:=h.lts;exact⟨h.B0,h.I3,h.G7,h.C0,h.room,hF _ b h.tp,hF _ d h.ts,hF _ e h.tq,hF _ f h.tr,λk a=>hF _ (g k a) (h.L4 k a),λk a=>hF _ (i k a) (h.N6 k a)⟩
def bC.B7(h:bC w c p x fz F)(hK:ag L w w')(hL:∀k,F k->¬L k):bC w' c p x fz F:=by
 obtain⟨_,_,_,_,_,_,_,h⟩:=h;exact⟨_,_,_,_,_,_,_,h.B7 hK hL⟩
def bC.more(h:bC w c p x fz F)(hF:∀k,k<w.heap.size->F k->G k):bC w c p x fz G:=by
 obtain⟨_,_,_,_,_,_,_,h⟩:=h;exact⟨_,_,_,_,_,_,_,h.more hF⟩
def bC.up(h:bC w c p x fz F)(hb:M w w'):bC w' c p x fz F:=h.B7 (L:=λ_=>False) (ag.B5 hb) λ_ _ e=>e
def bC.lt(h:bC w c p x fz F):p<w.heap.size:=by obtain⟨_,_,_,_,_,_,_,h⟩:=h;exact h.B0.lt
def bC.own(h:bC w c p x fz F):F p:=by obtain⟨_,_,_,_,_,_,_,h⟩:=h;exact h.tp
def dO.apart(h:dO w c p x fz F C7 sb sl qb rb rl r):p≠sb/\p≠qb/\p≠rb/\sb≠qb/\sb≠rb/\qb≠rb/\(∀k,sl.ownBlock=some k->k≠p/\k≠sb/\k≠qb/\k≠rb)/\(∀k,rl.ownBlock=some k->k≠p/\k≠sb/\k≠qb/\k≠rb)/\∀k,sl.ownBlock=some k->rl.ownBlock≠some k:=by
 refine⟨fq h.B0 h.I3.B0 zP,fq h.B0 h.G7.box zP,fq h.B0 h.G7.rg.B0 zP,fq h.I3.B0 h.G7.box zP,fq h.I3.B0 h.G7.rg.B0 zP,fq h.G7.box h.G7.rg.B0 zP,λk a=>?_,λk a=>?_,λk a b=>?_⟩
 ·exact⟨λe=>aB h.I3.own h.B0 zP (by rw[a,e]),λe=>aB h.I3.own h.I3.B0 zP (by rw[a,e]),λe=>aB h.I3.own h.G7.box zP (by rw[a,e]),λe=>aB h.I3.own h.G7.rg.B0 zP (by rw[a,e])⟩
 ·exact⟨λe=>aB h.G7.rg.own h.B0 zP (by rw[a,e]),λe=>aB h.G7.rg.own h.I3.B0 zP (by rw[a,e]),λe=>aB h.G7.rg.own h.G7.box zP (by rw[a,e]),λe=>aB h.G7.rg.own h.G7.rg.B0 zP (by rw[a,e])⟩
 ·rcases h.I3.own.2 with⟨rfl,_⟩|⟨d,g,i,rfl,_,f,_⟩
  ·cases a
  ·have:k=d:=by simpa[Value.ownBlock]using a.symm
   subst this;exact aB h.G7.rg.own f zP b
end
def dh(w w':World)(c:Cg)(p:Nat)(fz:Bool)(F:Nat->Prop)(p':Nat)(x':Ld):Prop:=
 ∃G,(fz=false->p'=p/\∀k,G k->F k\/w.heap.size<=k)/\(fz=true->∀k,G k->w.heap.size<=k)/\bC w' c p' x' false G/\ag G w w'
def dh.step{w w1 w2:World}{c:Cg}{p:Nat}{fz:Bool}{F:Nat->Prop}{p':Nat}{x':Ld}{G:Nat->Prop}(h1:fz=false->p'=p/\∀k,G k->F k\/w.heap.size<=k)(h2:fz=true->∀k,G k->w.heap.size<=k)(hK:ag G w w1)
  (h3:bC w2 c p' x' false λk=>G k\/w1.heap.size<=k)(hK2:ag G w1 w2):dh w w2 c p fz F p' x':=by
 have d:=hK.size;refine⟨λk=>G k\/w1.heap.size<=k,λa=>⟨(h1 a).1,λk b=>b.elim ((h1 a).2 k) λe=>.inr zO⟩,λa k b=>b.elim (h2 a k) λe=>zO,h3,(hK.C3 λk h=>.inl h).trans (hK2.C3 λk h=>.inl h)⟩
def Ex{w:World}{p B:Nat}{sl:Value}{r:Rg Adv}(h:RgV w p B sl r):RgV w p 0 sl r:=⟨h.B0,aP h.own (OK _),h.ok⟩
def fX(w:World)(F:Nat->Prop)(c:Cg)(p:Nat)(x:Ld)(fz:Bool)(h:bC w c p x fz F):C 128 #[Z p 0] w λe w'=>e=.returned (.bool true)/\w=w':=by
 obtain⟨b,d,f,g,i,j,r,h⟩:=h;have a:=h.B0.cell 8;simp[jJ]at a;clear h
 go_in
 go_wp2;go_ret;exact⟨rfl,rfl⟩
def wS(c:Cg)(hc:c.ok)(w:World):C 309 #[c.val] w λe w'=>∃p,e=.returned (Z p 0)/\bC w' c p .new false (λk=>w.heap.size<=k)/\M w w':=by
 have m:=zh w (.cells c.cells.toArray 23);have n:=Blk.A8 w 23 c.cells.toArray rfl;have q:1<=c.sa/\c.sa<=256/\1<=c.hi/\c.hi<=64:=by
  unfold Cg.ok cA at hc;simp only[OY,decide_eq_true_eq]at hc;omega
 have t:=λW=>gH c.st c.sa c.lo c.hi W;have x:pu c.st c.sa c.lo c.hi=0:=by exact OB hc
 rw[x]at t;have l:=Z3 t m n;have i:=Z1 q;obtain⟨st,O,lo,y⟩:=c;simp only at i;clear t m n q x hc;unfold Cg.val;simp only[Cg.cells]at l
 go_in
 go_wp2_with fail;refine zm (l.o.1 _) λd f=>?_;have a:=l.o.2.2.later f;have g:=af l.o.2.1 f;have z:=Z1 g;have A:=a.cell 1;have B:=a.cell 3;simp at A B;have r:=a.lt;clear a f g;go_wp2;have D:=(zi d);refine zH (S:=λV=>M d V) D ?_;refine zq 1 ?_ (λW hW=>?_) ?_;rotate_left
 ·have P:=(OF hW (p:=Y w.heap.size 1) r).trans A;exact zf
 refine zL ?_;refine zq 4 ?_ (λW hW=>?_) ?_;rotate_left
 ·have P:=(OF hW (p:=Y w.heap.size 3) r).trans B;exact zf
 refine zo 2 λK hK=>?_;go_simp;refine(wJ O d.drew i.o.1 i.o.2.1).mono ?_;rintro e Q ⟨rfl,F,G,f⟩;have j:=af D f;refine zJ hK j ?_;refine zo 5 λK hK=>?_;go_simp;refine(Il y Q i.o.2.2.1 i.o.2.2.2).mono ?_;rintro e H ⟨L,R,rfl,h,g⟩;have b:=af j g;refine zJ hK b ?_;refine zo 7 λK hK=>?_;go_simp;have u:=ae b (.cells (jJ .new 0 d.heap.size L false) 238);refine zJ hK u ?_;go_wp2;go_ret;have s:=af z.o b;have N:=z.o.size;have T:=b.size;have U:d.drew.heap.size=d.heap.size:=rfl;refine⟨H.heap.size,rfl,?_,ae s _⟩;have X:=G;refine⟨0,d.heap.size,.slice none 0 0,L,R,.slice none 0 0,⟨[],0,y⟩,Blk.A8 H _ _ rfl,(F.up g).up (ae (Oy _ _) _),⟨(h.up (ae (Oy _ _) _)).box,Ex (h.up (ae (Oy _ _) _)).rg,OK _,OK _⟩,rfl,rfl,s.size,N,by have:=h.Bq;omega,by have:=h.Bp;omega,λk v=>by simp[Value.ownBlock]at v,λk v=>by simp[Value.ownBlock]at v⟩
def bh{w:World}{g:Nat}{t:TypeId}{a b c d e f h i j k l:Value}(hb:Blk w g t #[a,b,c,d,e,f,h,i,j,k,l]):
  (w.cell? (Y g 0)=some a/\w.cell? (Y g 1)=some b/\w.cell? (Y g 2)=some c/\w.cell? (Y g 3)=some d/\w.cell? (Y g 4)=some e/\w.cell? (Y g 5)=some f)/\w.cell? (Y g 6)=some h/\w.cell? (Y g 7)=some i/\w.cell? (Y g 8)=some j/\w.cell? (Y g 9)=some k/\w.cell? (Y g 10)=some l:=
 ⟨⟨hb.cell 0,hb.cell 1,hb.cell 2,hb.cell 3,hb.cell 4,hb.cell 5⟩,hb.cell 6,hb.cell 7,hb.cell 8,hb.cell 9,hb.cell 10⟩
def Ey(h:bC w c p x false F):
  C 314 #[Z p 0] w λe w'=>∃p',e=.returned (Z p' 0)/\dh w w' c p false F p' x:=by
 obtain⟨b,f,g,i,l,m,r,h⟩:=h;have n:=h.B0.cell 7;have d:=h.B0.cell 10;have z:=h.B0.frozen 7;simp[jJ]at n d;have H:=Z1 h;clear h
 go_in
 go_wp2;go_ret;obtain⟨q,s,t,A,B,D,u,y,G⟩:=H.o.apart;have hK:∀v,ag (λj=>j=p) w (w.setCell (Y p 7) v):=λv=>(ag.refl (λj=>j=p) w).setCell (p:=Y p 7) (.inl rfl) v;refine⟨p,rfl,F,λ_=>⟨rfl,λk a=>.inl a⟩,λe=>absurd e zP,⟨wrap64 (b+1),f,g,i,l,m,r,?_⟩,(hK _).C3 λk e=>by rw[e];exact H.o.tp⟩;refine⟨H.o.B0.B4 7 _,⟨(hK _).B0 H.o.I3.B0 (Pc q),(hK _).C8 H.o.I3.own λk a=>(u k a).1⟩,⟨(hK _).B0 H.o.G7.box (Pc s),ej.B7 H.o.G7.rg (hK _) (Pc t) λk a=>(y k a).1,OK _,OK _⟩,H.o.C0,H.o.room,H.o.tp,H.o.ts,H.o.tq,H.o.tr,H.o.L4,H.o.N6⟩
def Ae(h:bC w c p x true F)(hx:x.D2.length<=1000):
  C 314 #[Z p 0] w λe w'=>∃p',e=.returned (Z p' 0)/\dh w w' c p true F p' x:=by
 obtain⟨d,sb,sl,qb,rb,rl,r,h⟩:=h;have H:=Z1 h;have B:=h.B0;unfold jJ at B;obtain⟨⟨X,c1,c2,c3,c4,c5⟩,c6,c7,c8,c9,ay⟩:=bh B;have b:=B.lt;obtain⟨⟨O,P,Q,t,u,l⟩,R⟩:∃q:Pl,q=x.D8:=⟨_,rfl⟩;rw[<-R]at X c1 c2 c3 c4 c5;simp only at X c1 c2 c3 c4 c5;have az:=Z1 R;clear h B R;generalize aj:x.E9=y at*;have a0:Hid (x=⟨x.D2,x.C0,x.D8,y⟩):=Z1 (by rw[<-aj]);clear aj
 go_in
 go_wp2;have hS:=(zi w);refine zH (S:=λV=>M w V) hS ?_;refine zq 3 ?_ (λW hW=>?_) ?_;rotate_left
 ·have q0:=(OF hW (p:=Y p 8) b).trans c8;exact zf
 refine zL ?_;refine zq 8 ?_ (λW hW=>?_) ?_;rotate_left
 ·have q0:=(OF hW (p:=Y p 9) b).trans c9;exact zf
 refine zL ?_;refine zq 13 ?_ (λW hW=>?_) ?_;rotate_left
 ·have q0:=(OF hW (p:=Y p 0) b).trans X;have q1:=(OF hW (p:=Y p 1) b).trans c1;have q2:=(OF hW (p:=Y p 2) b).trans c2;have q3:=(OF hW (p:=Y p 3) b).trans c3;have q4:=(OF hW (p:=Y p 4) b).trans c4;have q5:=(OF hW (p:=Y p 5) b).trans c5;have q6:=(OF hW (p:=Y p 6) b).trans c6;have q7:=(OF hW (p:=Y p 7) b).trans c7;exact zf
 refine zo 4 λK hK=>?_;go_simp;refine(Cc sb sl x.D2 c.sa w.drew (H.o.I3.up hS) hx).mono ?_;rintro e w2 ⟨f,ak,rfl,al,D,G,am⟩;have m:=af hS am;refine zJ hK m ?_;refine zo 9 λK hK=>?_;go_simp;refine(Cf qb rb 0 rl r w2 (H.o.G7.up m)).mono ?_;rintro e T ⟨g,an,ao,rfl,ap,U⟩;have s:=af m U;refine zJ hK s ?_;refine zo 15 λK hK=>?_;go_simp;have n:=ae s (.cells #[I O,I P,I Q,I t,I u,I l,.bool y,I d,Z f 0,Z g 0,.bool false] 238);refine zJ hK n ?_;have L:=Blk.A8 T 238 #[I O,I P,I Q,I t,I u,I l,.bool y,I d,Z f 0,Z g 0,.bool false] rfl;have N:=(al.up U).up (ae (Oy _ T) (.cells #[I O,I P,I Q,I t,I u,I l,.bool y,I d,Z f 0,Z g 0,.bool false] 238));have i:=ap.up (ae (Oy _ T) (.cells #[I O,I P,I Q,I t,I u,I l,.bool y,I d,Z f 0,Z g 0,.bool false] 238));have aq:=s.size;have bp:=m.size;have HH:=Z6 L N i n D G;clear L N i n D G al ap s m am U hS X c1 c2 c3 c4 c5 c6 c7 c8 c9 ay;generalize bq:T.heap.size=z at*;generalize T.alloc (.cells #[I O,I P,I Q,I t,I u,I l,.bool y,I d,Z f 0,Z g 0,.bool false] 238)=V at*;have k7:=HH.o.1.cell 7;have f7:=HH.o.1.frozen 7;go_wp2;go_ret;obtain⟨L,N,i,n,D,G⟩:=HH.o;have hp:=az.o;have bb:Blk V z 238 (jJ ⟨x.D2,x.C0,x.D8,y⟩ d f g false):=by rw[<-hp];exact L
 have a:dO V c z ⟨x.D2,x.C0,x.D8,y⟩ false (λk=>w.heap.size<=k) d f ak g an ao r:=
  ⟨bb,N,⟨i.box,Ex i.rg,OK _,OK _⟩,H.o.C0,H.o.room,aq,D,by have:=i.Bq;omega,by have:=i.Bp;omega,G,λk A=>by have:=(i.rg.own.lt k A).1;omega⟩
 obtain⟨a1,a2,a3,a4,a5,a6,a7,a8,a9⟩:=a.apart;have hK:∀v,ag (λj=>j=z) V (V.setCell (Y z 7) v):=λv=>(ag.refl (λj=>j=z) V).setCell (p:=Y z 7) (.inl rfl) v;refine⟨z,rfl,λk=>w.heap.size<=k,λe=>absurd e zP,λ_ k A=>A,⟨wrap64 (d+1),f,ak,g,an,ao,r,?_⟩,((ag.B5 n).setCell (p:=Y z 7) (.inl aq) _)⟩;refine⟨by rw[a0.o];exact a.B0.B4 7 _,⟨(hK _).B0 a.I3.B0 (Pc a1),(hK _).C8 a.I3.own λk A=>(a7 k A).1⟩,⟨(hK _).B0 a.G7.box (Pc a2),ej.B7 a.G7.rg (hK _) (Pc a3) λk A=>(a8 k A).1,OK _,OK _⟩,H.o.C0,H.o.room,a.tp,a.ts,a.tq,a.tr,a.L4,a.N6⟩
def og(h:bC w c p x fz F)(hx:x.D2.length<=1000):
  C 314 #[Z p 0] w λe w'=>∃p',e=.returned (Z p' 0)/\dh w w' c p fz F p' x:=by
 cases fz
 ·exact Ey w c p x F h
 ·exact Ae w c p x F h hx
def nj(x:Ld)(t:Int):Bool:=match x.D2 with
 |[]=>false
 |s::_=>decide (s.tick<t)
def rx(x:Ld)(t:Int):Ld:={x with D2:=x.D2.drop (placeF x.D2 t)}
section
variable {w:World} {c:Cg} {p:Nat} {x:Ld} {fz:Bool} {F:Nat→Prop} {C7:Int} {sb:Nat} {sl:Value} {qb rb:Nat} {rl:Value} {r:Rg Adv}
def dO.c8(h:dO w c p x fz F C7 sb sl qb rb rl r):w.cell? (Y p 8)=some (Z sb 0):=h.B0.cell 8
def dO.c9(h:dO w c p x fz F C7 sb sl qb rb rl r):w.cell? (Y p 9)=some (Z qb 0):=h.B0.cell 9
def dO.F9(h:dO w c p x fz F C7 sb sl qb rb rl r):w.cell? (Y p 10)=some (.bool fz):=h.B0.cell 10
end
def dO.D3{w w':World}{c:Cg}{p:Nat}{x x':Ld}{fz fz':Bool}{F:Nat->Prop}{C7:Int}{sb:Nat}{sl:Value}{qb rb:Nat}{rl:Value}{r:Rg Adv}(h:dO w c p x fz F C7 sb sl qb rb rl r)(hK:ag (λj=>j=p) w w')(hb:Blk w' p 238 (jJ x' C7 sb qb fz'))(h1:x'.D2=x.D2)(h2:x'.C0=x.C0):dO w' c p x' fz' F C7 sb sl qb rb rl r:=by
 obtain⟨b,d,e,i,l,m,f,g,n⟩:=h.apart;exact⟨hb,⟨by rw[show x'.D2=x.D2 from h1]at*;exact hK.B0 h.I3.B0 (Pc b),by rw[h1];exact hK.C8 h.I3.own λk a=>(f k a).1⟩,⟨hK.B0 h.G7.box (Pc d),ej.B7 h.G7.rg hK (Pc e) λk a=>(g k a).1,OK _,OK _⟩,by rw[h2];exact h.C0,h.room,h.tp,h.ts,h.tq,h.tr,h.L4,h.N6⟩
def Ag(w:World)(c:Cg)(p:Nat)(x:Ld)(fz:Bool)(F:Nat->Prop)(h:bC w c p x fz F):
  C 325 #[Z p 0] w λe w'=>e=.returned (.bool fz)/\w=w':=by
 have a:=Z1 (fX w F c p x fz h);obtain⟨b,f,g,i,j,k,r,h⟩:=h;have d:=h.F9;clear h
 go_in
 go_wp2_with fail;refine a.o.mono ?_;rintro e l ⟨rfl,rfl⟩;go_wp2;go_ret;exact⟨rfl,rfl⟩
def px(w:World)(c:Cg)(p:Nat)(x:Ld)(fz:Bool)(F:Nat->Prop)(h:bC w c p x fz F)(hx:x.D2.length<=1000):
  C 81 #[Z p 0] w λe w'=>∃v,e=.returned v/\aL 2 w w' 66 v x.D2.length (smps x.D2):=by
 have b:=Z1 (fX w F c p x fz h);obtain⟨j,d,f,k,l,m,r,h⟩:=h;have n:=h.c8;have g:=Z1 (jq d f x.D2 c.sa w h.I3 hx);clear h
 go_in
 go_wp2_with fail;refine b.o.mono ?_;rintro e q ⟨rfl,rfl⟩;go_wp2_with fail;refine g.o.mono ?_;rintro e s ⟨v,rfl,a⟩;have i:=Z1 a;clear a;go_wp2;go_ret;exact⟨v,rfl,i.o⟩
def uC(w:World)(c:Cg)(p:Nat)(x:Ld)(fz:Bool)(F:Nat->Prop)(h:bC w c p x fz F):
  C 80 #[Z p 0] w λe w'=>∃v,e=.returned v/\aL 5 w w' 62 v x.C0.length (advs x.C0):=by
 have d:=Z1 (fX w F c p x fz h);obtain⟨l,m,n,f,g,i,r,h⟩:=h;have q:=h.c9;have a:=Ej f g 0 i r w h.G7;rw[h.C0]at a;have j:=Z1 a;clear h a
 go_in
 go_wp2_with fail;refine d.o.mono ?_;rintro e s ⟨rfl,rfl⟩;go_wp2_with fail;refine j.o.mono ?_;rintro e t ⟨v,rfl,b⟩;have k:=Z1 b;clear b;go_wp2;go_ret;exact⟨v,rfl,k.o⟩
def Ix(w:World)(c:Cg)(hc:c.ok)(p:Nat)(x:Ld)(fz:Bool)(F:Nat->Prop)(h:bC w c p x fz F)(hs:ea x.D2)(hx:x.D2.length<=c.sa)(t v:Int)(ht:0<=t)(hv:0<=v):
  C 302 #[Z p 0,I t,I v] w λe w'=>∃p',e=.returned (.tuple #[Z p' 0,I 0])/\dh w w' c p fz F p' (mg c x t v):=by
 have f:1<=c.sa/\c.sa<=256:=by
  unfold Cg.ok cA at hc;simp only[OY,decide_eq_true_eq]at hc;omega
 have j:=λW=>iC t v W;rw[show bG t v=0 by unfold bG;rw[Oz zO,Oz zO]]at j;have A:=Z1 j;have B:=Z1 (fX w F c p x fz h);have D:=Z1 (og w c p x fz F h zO);have d:=Z5 hs hx f ht hv;clear h j hs hx f hc ht hv
 go_in
 go_wp2_with fail;refine(A.o _).mono ?_;rintro e l ⟨rfl,rfl⟩;go_wp2_with fail;refine B.o.mono ?_;rintro e l ⟨rfl,rfl⟩;go_wp2_with fail;refine D.o.mono ?_;rintro e l ⟨p',rfl,G,g,i,L,hK⟩;have m:=Z3 g i hK;obtain⟨s,u,N,O,P,Q,r,h⟩:=L;have c8:=h.c8;have H:=Z1 h;clear h g i hK;go_wp2_with fail;refine(wE u N x.D2 c.sa ⟨t,v⟩ l H.o.I3 d.o.1 (by have:=d.o;omega) d.o.2.2.1.1 (by have:=d.o;omega) d.o.2.2.2.1 d.o.2.2.2.2).mono ?_;rintro e w2 ⟨rfl,y,n,b,z⟩;go_wp2
 go_ret2
 obtain⟨R,a2,a3,S,T,a6,q,U,X⟩:=H.o.apart;refine⟨p',rfl,dh.step m.o.1 m.o.2.1 m.o.2.2 ⟨s,u,y,O,P,Q,r,?_⟩ (b.C3 λk e=>e.elim (λe=>e▸H.o.ts) λe=>H.o.L4 k e)⟩;refine⟨b.B0 H.o.B0 (λe=>e.elim R λe=>(q _ e).1 rfl),n,⟨b.B0 H.o.G7.box (λe=>e.elim (Pc S) λe=>(q _ e).2.2.1 rfl),ej.B7 H.o.G7.rg b (λe=>e.elim (Pc T) λe=>(q _ e).2.2.2 rfl) λk a e=>e.elim (U k a).2.1 λe=>X k e a,OK _,OK _⟩,H.o.C0,H.o.room,.inl H.o.tp,.inl H.o.ts,.inl H.o.tq,.inl H.o.tr,λk a=>?_,λk a=>.inl (H.o.N6 k a)⟩
 rcases z with e|e
 ·exact .inl (H.o.L4 k (e▸a))
 ·exact .inr (e k a)
def Cr{r:Rg Adv}(h:r.ok)(a:Adv):(r.push a).list=jH r.room r.list a:=by
 unfold jH;have c:=Rg.length r;by_cases b:r.items.length<r.room
 ·rw[Rg.N3 h b,Oz zO]
 ·rw[Rg.M7 h b,OB zO];have d:=h.pos
  cases hr:r.list with
  |nil=>rw[hr]at c;simp at c;omega
  |cons x l=>simp
def EA(h:bC w c p x fz F)(hx:x.D2.length<=1000)(a:Adv):
  C 358 #[Z p 0,a.val] w λe w'=>∃p',e=.returned (Z p' 0)/\dh w w' c p fz F p' (jI c x a):=by
 have s:=zh w (.cells a.arr 62);have P:=Blk.A8 w 62 a.arr rfl;have HM:=Z1 (fX _ F c p x fz (h.up s));have HO:=Z1 (og _ c p x fz (λk=>F k/\k<w.heap.size) ((h.more (G:=λk=>F k/\k<w.heap.size) λk b t=>⟨t,b⟩).up s) hx);have T:=Z2 s P;obtain⟨v,y,z,A,B⟩:=a;have HP:=Z1 (λq p' g r w (hh:HAt w q p' 0 g r)=>Im q p' 0 g r ⟨v,y,z,A,B⟩ w hh (OK _));unfold Adv.val Adv.arr at*;simp only at*;clear h s P
 go_in
 go_wp2_with fail;refine HM.o.mono ?_;rintro e i ⟨rfl,rfl⟩;go_wp2_with fail;refine HO.o.mono ?_;rintro e i ⟨p',rfl,G,D,L,hn,hK⟩;have N:(w.alloc (.cells #[I v,I y,I z,I A,I B] 62)).heap.size=w.heap.size+1:=zS;have Q:¬G w.heap.size:=λe=>by
  cases fz
  ·rcases(D rfl).2 _ e with h|h
   ·exact Qn _ h.2
   ·omega
  ·have:=L rfl _ e;omega
 have n:=hK.B0 T.o.2 Q;have O:=Z4 D L hK N;obtain⟨U,sb,sl,X,u,g,r,h⟩:=hn;have c9:=h.c9;have aa:=h.B0.lt;have l:=n.lt;have H:=Z1 h;obtain⟨⟨k0,k1,k2,k3,k4⟩,_⟩:=eO n;clear h D L hK n N;generalize f:w.heap.size=d at*;have ab:=Z1 f;clear f;go_wp2;have hS:=(zi i);have ac:ag (λj=>j=u\/g.ownBlock=some j) i i.drew:=(ag.refl _ i).drew;refine zH (S:=λV=>ag (λj=>j=u\/g.ownBlock=some j) i V) ac ?_;refine zq 3 ?_ (λW hW=>?_) ?_;rotate_left
 ·have ad:¬(p'=u\/g.ownBlock=some p'):=λe=>e.elim H.o.apart.2.2.1 λe=>(H.o.apart.2.2.2.2.2.2.2.1 _ e).1 rfl;have q0:=(OI (a:=Y p' 9) (hW.block p' aa ad)).trans c9;exact zf
 refine zq 4 ?_ (λW hW=>?_) ?_;rotate_left
 ·have f:¬(d=u\/g.ownBlock=some d):=λe=>Q (e.elim (λe=>e▸H.o.tr) λe=>H.o.N6 _ e);have q0:=(OI (a:=Y d 0) (hW.block d l f)).trans k0;have q1:=(OI (a:=Y d 1) (hW.block d l f)).trans k1;have q2:=(OI (a:=Y d 2) (hW.block d l f)).trans k2;have q3:=(OI (a:=Y d 3) (hW.block d l f)).trans k3;have q4:=(OI (a:=Y d 4) (hW.block d l f)).trans k4;exact zf
 refine zo 5 λK hK=>?_;go_simp;refine(HP.o X u g r i.drew ((H.o.G7.up hS))).mono ?_;rintro e w2 ⟨rfl,ae,af,ah,R⟩;have m:=(ag.refl _ i).drew.trans ah;refine zJ hK m ?_;go_wp2;go_ret;have h9:=ab.o;obtain⟨a1,a2,a3,a4,a5,a6,a7,a8,a9⟩:=H.o.apart;have aj:dh (w.alloc (.cells #[I v,I y,I z,I A,I B] 62)) w2 c p fz (λk=>F k/\k<d) p' (jI c x ⟨v,y,z,A,B⟩):=by
  refine dh.step O.o.1 O.o.2.1 O.o.2.2.1 ⟨U,sb,sl,X,u,ae,r.push ⟨v,y,z,A,B⟩,?_⟩ (m.C3 λk e=>e.elim (λe=>e▸H.o.tr) λe=>H.o.N6 k e);refine⟨m.B0 H.o.B0 (λe=>e.elim a3 λe=>(a8 _ e).1 rfl),⟨m.B0 H.o.I3.B0 (λe=>e.elim a5 λe=>(a8 _ e).2.1 rfl),m.C8 H.o.I3.own λk b e=>e.elim (a7 k b).2.2.2 λe=>a9 k b e⟩,af,?_,?_,.inl H.o.tp,.inl H.o.ts,.inl H.o.tq,.inl H.o.tr,λk b=>.inl (H.o.L4 k b),λk b=>?_⟩
  ·rw[Cr H.o.G7.rg.ok,H.o.C0,H.o.room];rfl
  ·rw[Rg.M6];exact H.o.room
  ·rcases R with e|e
   ·exact .inl (H.o.N6 k (e▸b))
   ·exact .inr (e k b)
 obtain⟨G2,j1,j2,j3,j4⟩:=aj;have bm:=O.o.2.2.2;refine⟨p',rfl,G2,λt=>⟨(j1 t).1,λk b=>((j1 t).2 k b).imp (λe=>e.1) λe=>zO⟩,λt k b=>by have:=j2 t k b;omega,j3,?_⟩;have al:=T.o.1;exact(ag.B5 (by rwa [<-h9]at al)).trans j4
def fY(p:Pl):Int:=if p.right=true then 0 else 7
def LC(p:Pl):tK p.mn p.mx p.tg p.G9 p.G5 p.hold=fY p:=by
 unfold tK fY;by_cases h:p.right=true
 ·rw[OB h,OB ((js p).1 h)]
 ·rw[Oz h,Oz λe=>h ((js p).2 e)]
def tL(q:Pl)(w:World):C 85 #[.agg #[I q.mn,I q.mx,I q.tg,I q.G9,I q.G5,I q.hold]] w λx w'=>x=.returned (I (fY q))/\M w w':=by
 rw[<-LC];exact uz _ _ _ _ _ _ w
def Iy(h:bC w c p x fz F)(hx:x.D2.length<=1000)(q:Pl)(hq:q.right=true):
  C 310 #[Z p 0,q.val] w λe w'=>∃p',e=.returned (.tuple #[Z p' 0,I 0])/\dh w w' c p fz F p' (mh x q):=by
 have D:=zh w (.cells q.arr 51);have L:=Blk.A8 w 51 q.arr rfl;have HN:=Z1 (h.more (G:=λk=>F k/\k<w.heap.size) λk g f=>⟨f,g⟩);have Q:=Z1 (λW=>tL q W);rw[show fY q=0 by unfold fY;rw[hq];rfl]at Q;have R:=Z2 D L;obtain⟨t,u,v,y,z,A⟩:=q;unfold Pl.val Pl.arr at*;simp only at*;clear h D L hq
 go_in
 go_wp2_with fail;refine zm (Q.o _) λO i=>?_;have d:=af R.o.1 i;have b:=R.o.2.later i;have l:=HN.o.up d;have HM:=Z1 (fX O _ c p x fz l);have HO:=Z1 (og O c p x fz _ l hx);have N:=Z2 d b;have aq:=d.size;have ar:=b.lt;clear i l d b;go_wp2_with fail;refine HM.o.mono ?_;rintro e B ⟨rfl,rfl⟩;go_wp2_with fail;refine HO.o.mono ?_;rintro e B ⟨p',rfl,G,m,n,hn,hK⟩;have S:¬G w.heap.size:=λe=>by
  cases fz
  ·rcases(m rfl).2 _ e with h|h
   ·exact Qn _ h.2
   ·omega
  ·have:=n rfl _ e;omega
 have s:=hK.B0 N.o.2 S;have P:=Z3 m n hK;obtain⟨T,sb,sl,qb,rb,rl,r,h⟩:=hn;have a:=h.B0;unfold jJ at a;obtain⟨⟨c0,c1,c2,c3,c4,c5⟩,c6,c7,c8,c9,au⟩:=bh a;have f0:=a.frozen 0;have f1:=a.frozen 1;have f2:=a.frozen 2;have f3:=a.frozen 3;have f4:=a.frozen 4;have f5:=a.frozen 5;have f6:=a.frozen 6;obtain⟨k0,k1,k2,k3,k4,k5⟩:=bi s;have H:=Z1 h;clear h m n hK a s;go_wp2
 go_ret2
 have hK:ag (λj=>j=p') B (((((((B.setCell (Y p' 0) (I t)).setCell (Y p' 1) (I u)).setCell (Y p' 2) (I v)).setCell (Y p' 3) (I y)).setCell (Y p' 4) (I z)).setCell (Y p' 5) (I A)).setCell (Y p' 6) (.bool true)):=
  (((((((ag.refl (λj=>j=p') B).setCell (p:=Y p' 0) (.inl rfl) _).setCell (p:=Y p' 1) (.inl rfl) _).setCell (p:=Y p' 2) (.inl rfl) _).setCell (p:=Y p' 3) (.inl rfl) _).setCell (p:=Y p' 4) (.inl rfl) _).setCell (p:=Y p' 5) (.inl rfl) _).setCell (p:=Y p' 6) (.inl rfl) _
 have U:=((((((H.o.B0.B4 0 (I t)).B4 1 (I u)).B4 2 (I v)).B4 3 (I y)).B4 4 (I z)).B4 5 (I A)).B4 6 (.bool true);have X:dh O _ c p fz (λk=>F k/\k<w.heap.size) p' (mh x ⟨t,u,v,y,z,A⟩):=
  dh.step P.o.1 P.o.2.1 P.o.2.2 (bC.more ⟨T,sb,sl,qb,rb,rl,r,H.o.D3 (x':=mh x ⟨t,u,v,y,z,A⟩) hK U rfl rfl⟩ λk _ e=>.inl e) (hK.C3 λk e=>e▸H.o.tp)
 obtain⟨G2,j1,j2,j3,j4⟩:=X;refine⟨p',rfl,G2,λf=>⟨(j1 f).1,λk g=>((j1 f).2 k g).imp (λe=>e.1) λe=>zO⟩,λf k g=>by have:=j2 f k g;omega,j3,(ag.B5 N.o.1).trans j4⟩
def Ah(h:bC w c p x fz F):
  C 352 #[Z p 0] w (J (.tuple #[x.D8.val,.bool x.E9]) w):=by
 have k:=zh w (.cells #[I 0,I 0,I 0,I 0,I 0,I 0] 51);have g:=Blk.A8 w 51 #[I 0,I 0,I 0,I 0,I 0,I 0] rfl;have l:=h.up k;have G:=Z1 (fX _ F c p x fz l);obtain⟨T,sb,sl,qb,rb,rl,r,l⟩:=l;have m:=l.B0;unfold jJ at m;have U:=h.lt;have i:=Z3 k g m;obtain⟨x1,x2,⟨s,t,u,v,y,z⟩,x4⟩:=x;unfold Pl.val Pl.arr;simp only at*;clear h l k g m
 go_in
 go_wp2_with fail;refine G.o.mono ?_;rintro e w1 ⟨rfl,rfl⟩;generalize n:w.heap.size=b at*;generalize w.alloc (.cells #[I 0,I 0,I 0,I 0,I 0,I 0] 51)=V at*;have q:=Z1 n;clear n;obtain⟨⟨H,L,N,O,P,Q⟩,R,c7,c8,c9,X⟩:=bh i.o.2.2;obtain⟨z0,z1,z2,z3,z4,z5⟩:=bi i.o.2.1;have g:=i.o.2.1;have aa:=g.frozen 0;have ab:=g.frozen 1;have ac:=g.frozen 2;have ad:=g.frozen 3;have ae:=g.frozen 4;have af:=g.frozen 5;clear g;go_wp2;have A:ag (λj=>j=b) V V.drew:=(ag.refl _ V).drew;have ah:=q.o;have d:p<V.heap.size:=by
  have:=i.o.1.size;omega
 have f:¬p=b:=zO;refine zH (S:=λW=>ag (λj=>j=b) V W) A ?_;refine zq 4 ?_ (λW hW=>?_) ?_;rotate_left
 ·have d0:=(OI (a:=Y p 0) (hW.block p d f)).trans H;have d1:=(OI (a:=Y p 1) (hW.block p d f)).trans L;have d2:=(OI (a:=Y p 2) (hW.block p d f)).trans N;have d3:=(OI (a:=Y p 3) (hW.block p d f)).trans O;have d4:=(OI (a:=Y p 4) (hW.block p d f)).trans P;have d5:=(OI (a:=Y p 5) (hW.block p d f)).trans Q;exact zf
 refine zL ?_;refine zq 9 ?_ (λW hW=>?_) ?_;rotate_left
 ·have d6:=(OI (a:=Y p 6) (hW.block p d f)).trans R;exact zf
 refine zo 10 λK hK=>?_;go_simp;have B:ag (λj=>j=b) V ((((((V.setCell (Y b 0) (I s)).setCell (Y b 1) (I t)).setCell (Y b 2) (I u)).setCell (Y b 3) (I v)).setCell (Y b 4) (I y)).setCell (Y b 5) (I z)).drew:=(((((((ag.refl (λj=>j=b) V).setCell (p:=Y b 0) (.inl rfl) _).setCell (p:=Y b 1) (.inl rfl) _).setCell (p:=Y b 2) (.inl rfl) _).setCell (p:=Y b 3) (.inl rfl) _).setCell (p:=Y b 4) (.inl rfl) _).setCell (p:=Y b 5) (.inl rfl) _).drew;refine zJ hK B ?_;have D:=((((((i.o.2.1.B4 0 (I s)).B4 1 (I t)).B4 2 (I u)).B4 3 (I v)).B4 4 (I y)).B4 5 (I z)).drew;go_wp2;refine OH (cx wR rfl (cs:=#[I s,I t,I u,I v,I y,I z]) D rfl _ rfl) rfl ⟨rfl,?_⟩;rw[q.o];exact((((((i.o.1.setCell (p:=Y b 0) (OA _) _).setCell (p:=Y b 1) (OA _) _).setCell (p:=Y b 2) (OA _) _).setCell (p:=Y b 3) (OA _) _).setCell (p:=Y b 4) (OA _) _).setCell (p:=Y b 5) (OA _) _).drew
def Iz(h:bC w c p x fz F)(hx:x.D2.length<=1000)(t:Int)(ho:nj x t=false):
  C 305 #[Z p 0,I t] w (J (.tuple #[Z p 0,I 0]) w):=by
 have d:=Z1 (fX w F c p x fz h);obtain⟨m,f,i,y,z,B,r,h⟩:=h;have D:=h.c8;have j:=Z1 (jq f i x.D2 c.sa w h.I3 hx);obtain⟨D2,G,H,L⟩:=x;simp only at*;clear h
 go_in
 go_wp2_with fail;refine d.o.mono ?_;rintro e N ⟨rfl,rfl⟩;go_wp2_with fail;refine j.o.mono ?_;rintro e k ⟨v,rfl,a⟩
 cases D2 with
 |nil=>
  obtain⟨A,c,rfl,_,_,_⟩:=a.form;have b:=Z1 a.below;clear a;simp only[OE]at*;go_wp2
  go_ret2
  exact⟨rfl,b.o⟩
 |cons s l=>
  obtain⟨g,q,rfl,_,_⟩:=a.own.form (RC _);have O:k.cell? (Y g 0)=some (I s.tick):=a.own.cells (g:=g) rfl 0 (I s.tick) rfl;have b:=Z1 a.below;clear a;have P:(t<=s.tick):=by
   unfold nj at ho;simp only[decide_eq_false_iff_not]at ho;omega
  have Q:0<(s::l).length:=RC _;generalize (s::l).length=n at*;have u:((n:Int)==0)=false:=zT;go_wp2
  go_ret2
  exact⟨rfl,b.o⟩
def EB(hsa:c.sa<=500)(p:Nat)(x:Ld)(fz:Bool)(F:Nat->Prop)(h:bC w c p x fz F)(hs:ea x.D2)(hx:x.D2.length<=c.sa)(t:Int)(ho:nj x t=true):
  C 305 #[Z p 0,I t] w λe w'=>∃p',e=.returned (.tuple #[Z p' 0,I (placeF x.D2 t:Nat)])/\dh w w' c p fz F p' (rx x t):=by
 have HM:=Z1 (fX w F c p x fz h);have O:=h;obtain⟨q,i,B,P,Q,R,r,h⟩:=h;have c8:=h.c8;have HL:=Z1 (jq i B x.D2 c.sa w h.I3 zO);have j:=Z3 hs hx hsa;obtain⟨D2,S,T,U⟩:=x
 cases D2 with
 |nil=>cases ho
 |cons s l=>
 have u:¬t<=s.tick:=by
  unfold nj at ho;simp only[decide_eq_true_eq]at ho;omega
 have H0:=Z1 (O.more (G:=λk=>F k/\k<w.heap.size) λk a d=>⟨d,a⟩);clear h hs hx hsa ho O;simp only at*
 go_in
 go_wp2_with fail;refine HM.o.mono ?_;rintro e w1 ⟨rfl,rfl⟩;go_wp2_with fail;refine HL.o.mono ?_;rintro e X ⟨v,rfl,m⟩;obtain⟨g,ba,rfl,_,_⟩:=m.own.form (RC _);have c0:X.cell? (Y g 0)=some (I s.tick):=m.own.cells (g:=g) rfl 0 (I s.tick) rfl;have f:=m.below;have HO:=Z1 (og _ c p ⟨s::l,S,T,U⟩ fz _ (H0.o.up f) (by have:=j.o;simp only at this ⊢;omega));have HB:=Z1 f;clear m f;have hn:0<(s::l).length:=RC _;generalize y:(s::l).length=n at*;have HN:=Z1 y;clear y;have bb:((n:Int)==0)=false:=zT;go_wp2_with fail;refine HO.o.mono ?_;rintro e w3 ⟨p',rfl,G,z,A,hn,hK⟩;have D:=Z3 z A hK;obtain⟨q,i,B,P,Q,R,r,h⟩:=hn;have bc:=h.c8;have H:=Z1 h;have HT:=Z1 (λW hW=>Ed i B (s::l) c.sa t W hW j.o.1 (by have h1:=j.o.2.1;have h2:=j.o.2.2;exact HN.o.symm▸OJ h1 h2));have HW:=Z1 h.I3;clear h z A hK;go_wp2_with fail;refine(HT.o _ HW.o).mono ?_;rintro e w4 ⟨rfl,ac,L,b,ad⟩;go_wp2
 go_ret2
 obtain⟨a1,a2,a3,a4,a5,a6,N,a8,a9⟩:=H.o.apart;have u:dh X w4 c p fz (λk=>F k/\k<w.heap.size) p' (rx ⟨s::l,S,T,U⟩ t):=by
  refine dh.step D.o.1 D.o.2.1 D.o.2.2 ⟨q,i,ac,P,Q,R,r,?_⟩ (b.C3 λk e=>e.elim (λe=>e▸H.o.ts) λe=>H.o.L4 k e);refine⟨b.B0 H.o.B0 (λe=>e.elim a1 λe=>(N _ e).1 rfl),L,⟨b.B0 H.o.G7.box (λe=>e.elim (Pc a4) λe=>(N _ e).2.2.1 rfl),ej.B7 H.o.G7.rg b (λe=>e.elim (Pc a5) λe=>(N _ e).2.2.2 rfl) λk a e=>e.elim (a8 k a).2.1 λe=>a9 k e a,OK _,OK _⟩,H.o.C0,H.o.room,.inl H.o.tp,.inl H.o.ts,.inl H.o.tq,.inl H.o.tr,λk a=>.inl (H.o.L4 k (ad▸a)),λk a=>.inl (H.o.N6 k a)⟩
 obtain⟨G2,j1,j2,j3,j4⟩:=u;have bd:=HB.o.size;exact⟨p',rfl,G2,λd=>⟨(j1 d).1,λk a=>((j1 d).2 k a).imp (λe=>e.1) λe=>zO⟩,λd k a=>by have:=j2 d k a;omega,j3,(ag.B5 HB.o).trans j4⟩
def dv(w:World)(A:Option Addr)(n:Nat)(ps:List (List Cl)):Prop:=
 ∃vs:List Value,an w w.heap.size 1 A n vs/\n=ps.length/\∀(i:Nat) (h:i<ps.length),∃A' c,vs[i]?=some (.slice A' ps[i].length c)/\ps[i].length<=c/\c<=maxLen/\an w w.heap.size 11 A' ps[i].length (cls ps[i])
def dv.up{w w':World}(h:dv w A n ps)(hb:M w w'):dv w' A n ps:=by
 obtain⟨a,b,d,e⟩:=h;refine⟨a,b.up hb,d,λi f=>?_⟩;obtain⟨g,c,j,k,l,m⟩:=e i f;exact⟨g,c,j,k,l,m.up hb⟩
def dv.len{w:World}(h:dv w A n ps):n=ps.length:=by
 obtain⟨b,c,a,d⟩:=h;exact a
def dv.at_{w:World}(h:dv w A n ps)(hi:i<ps.length):
  ∃ad A' c,A=some ad/\ad.block<w.heap.size/\w.cell? (ad.add i)=some (.slice A' ps[i].length c)/\ps[i].length<=c/\c<=maxLen/\an w w.heap.size 11 A' ps[i].length (cls ps[i]):=by
 obtain⟨p,b,q,d⟩:=h;obtain⟨A',c,e,f,g,j⟩:=d i hi;obtain⟨ad,u,l,m,a,o⟩:=b.at_ (k:=i) zO;rw[e]at a;injection a with a;subst a;exact⟨ad,A',c,l,m,o,f,g,j⟩
def cj(st sa lo hi:Int)(ps:List (List Cl))(wk:Int):Int:=
 if cA st sa lo hi=false\/wk<0\/32<wk\/(ps.length:Int)+wk<1\/32<(ps.length:Int)+wk then 1 else if ps.all (λp=>decide (p.length<=256))=true then 0 else 12
def qW(ps:List (List Cl))(wk:Int):(cA st sa lo hi=false/\cj st sa lo hi ps wk=1)\/(cA st sa lo hi=true/\wk<0/\cj st sa lo hi ps wk=1)\/
  (cA st sa lo hi=true/\¬wk<0/\32<wk/\cj st sa lo hi ps wk=1)\/(cA st sa lo hi=true/\¬wk<0/\¬32<wk/\(ps.length:Int)+wk<1/\cj st sa lo hi ps wk=1)\/
  (cA st sa lo hi=true/\¬wk<0/\¬32<wk/\¬(ps.length:Int)+wk<1/\32<(ps.length:Int)+wk/\cj st sa lo hi ps wk=1)\/
  (cA st sa lo hi=true/\¬wk<0/\¬32<wk/\¬(ps.length:Int)+wk<1/\¬32<(ps.length:Int)+wk/\cj st sa lo hi ps wk=if ps.all (λp=>decide (p.length<=256))=true then 0 else 12):=by
 unfold cj
 cases h0:cA st sa lo hi with
 |false=>exact .inl ⟨rfl,OB (.inl rfl)⟩
 |true=>
  refine .inr ?_;by_cases a:wk<0
  ·exact .inl ⟨rfl,a,OB (.inr (.inl a))⟩
  refine .inr ?_;by_cases b:32<wk
  ·exact .inl ⟨rfl,a,b,OB (.inr (.inr (.inl b)))⟩
  refine .inr ?_;by_cases c:(ps.length:Int)+wk<1
  ·exact .inl ⟨rfl,a,b,c,OB (.inr (.inr (.inr (.inl c))))⟩
  refine .inr ?_;by_cases d:32<(ps.length:Int)+wk
  ·exact .inl ⟨rfl,a,b,c,d,OB (.inr (.inr (.inr (.inr d))))⟩
  ·refine .inr ⟨rfl,a,b,c,d,Oz ?_⟩;rintro(h|h|h|h|h)
   ·cases h
   all_goals contradiction
def GL{k:Nat}(hk:k<ps.length)(h:¬ps[k].length<=256):ps.all (λp=>decide (p.length<=256))=false:=by
 cases h2:ps.all (λp=>decide (p.length<=256))
 ·rfl
 ·rw[QT]at h2;have:=h2 _ (OR hk);simp at this;omega
def BN(h:∀(j:Nat) (hj:j<ps.length),ps[j].length<=256):ps.all (λp=>decide (p.length<=256))=true:=by
 rw[QT];intro x a;obtain⟨j,hj,rfl⟩:=PJ a;exact decide_eq_true (h j hj)
def oU(ps:List (List Cl))(A:Option Addr)(n c:Nat)(wk:Int)(w:World)(hP:dv w A n ps)(hn:n<=1000000)(hwk:aq wk):
  C 45 #[.agg #[I st,I sa,I lo,I hi],.slice A n c,I wk] w λx w'=>x=.returned (I (cj st sa lo hi ps wk))/\M w w':=by
 have z:=qW st sa lo hi ps wk;have g:=hP.len;rw[<-g]at z;have B:=Z1 g;clear g;unfold aq at hwk;have t:=Z1 (ae (Oy _ w) (.cells #[I st,I sa,I lo,I hi] 23));have l:Hid (∀W,C 66 #[.agg #[I st,I sa,I lo,I hi]] W λx w'=>x=.returned (I (if cA st sa lo hi=true then 0 else 1))/\M W w'):=Z1 (λW=>gH st sa lo hi W);have O:=Z1 (hP.up t.o);clear hP
 rcases z with⟨a,b⟩|⟨a,m,b⟩|⟨a,m,u,b⟩|⟨a,m,u,v,b⟩|⟨a,m,u,v,D,b⟩|⟨a,m,u,v,D,b⟩
 case inr.inr.inr.inr.inr=>
  rw[a]at l;have F:=Z1 b;clear a b;have P:=v;have Q:=D
  go_in
  go_wp2_with fail;refine zm (l.o _) λR f=>?_;have e:=af t.o f;have G:=Z1 (O.o.up f);clear f;simp only[if_true];go_wp2;go_loop [37] (λi=>∃(k:Nat),k<=n/\i=I k/\Hid (∀(j:Nat) (p:j<ps.length),j<k->ps[j].length<=256)) (λi=>n-(intOf i).toNat)
  case atStart=>exact⟨0,zO,rfl,Z1 λj _ h=>zO⟩
  case round=>
   obtain⟨k,hk,rfl,H⟩:=hrel;by_cases U:k<n
   ·have r:k<ps.length:=by have:=B.o;omega
    obtain⟨ad,A',c',rfl,S,hc,X,L,s⟩:=G.o.at_ r;unfold maxLen at L;by_cases d:ps[k].length<=256
    ·have q:¬(256:Int)<(ps[k].length:Int):=zO;have T:=Z1 d;clear d s;go_wp2;go_round
     case rel=>
      refine⟨k+1,zO,by go_num,Z1 λj p aa=>?_⟩;by_cases N:j=k
      ·subst N;exact T.o
      ·exact H.o j p zO
     case measure=>simp[intOf];omega
    ·have q:(256:Int)<(ps[k].length:Int):=zO;have y:Hid (cj st sa lo hi ps wk=12):=Z1 (by rw[F.o,GL r d];rfl);clear d s;go_wp2;go_ret;exact⟨aC y.o.symm,e⟩
   ·have y:Hid (cj st sa lo hi ps wk=0):=Z1 (by rw[F.o,BN λj p=>H.o j p (by have:=B.o;omega)];rfl);go_wp2;go_ret;exact⟨aC y.o.symm,e⟩
 all_goals
  rw[a]at l;rw[b];clear a b
  go_in
  go_wp2_with fail;refine zm (l.o _) λR f=>?_;have e:=af t.o f;clear f;try simp only[if_true,Bool.false_eq_true,if_false]
  go_wp2;go_ret;exact⟨rfl,e⟩
section
open Go.WideShapes Go.ChangeShapes Go.Deep Go.Joins
section
variable {H:Type} {enc:TypeId×Value→H} {P:Program} {W:World} {base:Nat} {sp:Nat→Bool} {held:Bool}
def KV{m:Nat}{t:TypeId}{e:TypeId}(hl:p9 P m t i=some e)(he:P.underlying e=some .string)(hk:P.keyTypeAt 1 e=true){x:DataW H×List MemPlace}(hx:DataW.trod enc P W base sp held n t cs=some x):
  ∃s:ByteArray,cs[i]?=some (.string s)/\s.size<=maxLen:=by
 obtain⟨u,d,y,f,b⟩:=tD m t i e hl n cs x hx;have a:=(keyLits_of_trod 1 e hk d [u] y b).1;obtain⟨z,c,_⟩:=DataW.trod_string he b;simp at c;subst c;refine⟨z,f,?_⟩;simp only[Program.keyLits,he]at a;split at a
 ·assumption
 ·cases a
def BP{α:Type}(f:α->List Value)(s:Nat)(hf:∀x,(f x).length=s)(hs:0<s)(Q:α->Prop){t e:TypeId}(ht:P.underlying t=some (.slice e))(hC:P.cellsOf e=s)
  (each:∀(n:Nat) (cs:List Value) (x:DataW H×List MemPlace),cs.length=s->DataW.trod enc P W base sp held n e cs=some x->∃a,Q a/\f a=cs)
  {fuel:Nat}{x:DataW H×List MemPlace}(h:DataW.trod enc P W base sp held fuel t cs=some x):
  ∃(A:Option Addr) (c:Nat) (l:List α),cs=[.slice A l.length c]/\l.length<=c/\c<=maxLen/\(∀a∈l,Q a)/\an W W.heap.size s A l.length (l.flatMap f):=by
 rcases open_slice ht h with⟨o,_⟩|⟨a,b,G,m,n,D,Pl,o,hb,hl,hm,O,hx,g⟩
 ·exact⟨none,0,[],o,zS,by simp[maxLen],zS,⟨zS,λh=>by simp at h⟩⟩
 ·have ao:b<=m:=by rw[O];split<;>omega
  rw[hC]at g;have R:∀i,i<b->∃y:α,Q y/\∀j u,(f y)[j]?=some u->W.cell? (a.add (i*s+j))=some u:=by
   intro i ap;obtain⟨S,hc,T⟩:=g i zO;obtain⟨_,U,X⟩:=World.cells?_some hc;obtain⟨y,p,hy⟩:=each n S _ U T;refine⟨y,p,λj u d=>?_⟩;rw[hy]at d;have hj:j<s:=by have:=(OZ.1 d).1;omega
   rw[<-rY,X j hj,d]
  have aa:∀k,k<=b->∃l:List α,l.length=k/\(∀y∈l,Q y)/\∀i (g:i<l.length) j u,(f l[i])[j]?=some u->W.cell? (a.add (i*s+j))=some u:=by
   intro k;induction k with
   |zero=>intro _;exact⟨[],rfl,zS,λi g=>by simp at g⟩
   |succ k ih=>
    intro hk;obtain⟨l,r,L,v⟩:=ih zO;obtain⟨y,g1,g2⟩:=R k zO;refine⟨l++[y],by simp[r],λz w=>?_,λi g j u d=>?_⟩
    ·rw[Po,Py]at w
     rcases w with w|rfl
     ·exact L z w
     ·exact g1
    ·by_cases B:i<l.length
     ·rw[PK B]at d;exact v i B j u d
     ·obtain rfl:i=k:=by simp at g;omega
      rw[Qi zO]at d;simp only[r,QY,QW]at d;exact g2 j u d
  obtain⟨l,r,L,v⟩:=aa b (OA _);subst r;refine⟨some a,G,l,o,hl,hm,L,db f s hf l,λN=>⟨a,rfl,?_,λq u p=>?_⟩⟩
  ·have h0:=N;have ab:0<(f l[0]).length:=by rw[hf];exact hs
   have:=World.block_lt_of_cell? W _ (v 0 h0 0 _ (OL ab))
   rwa [gk]at this
  ·have ac:q<l.length*s:=by rw[<-db f s hf l];exact(OZ.1 p).1
   have F:=Nat.div_lt_of_lt_mul (by rw[Qk];exact ac);have hd:q/s*s+q%s=q:=by rw[Qk];exact Nat.div_add_mod q s
   have hg:=kc f s hf l (q/s) (q%s) F (Rj _ hs);rw[hd,p]at hg;have:=v _ F (q%s) u hg.symm
   rwa [hd]at this
end
end
section
open Go.WideShapes Go.ChangeShapes Go.Deep
section
variable {H:Type} {enc:TypeId×Value→H} {W:World}
def eT{n:Int}(h:(Lit.int .i64 n).wf=true):aq n:=by simpa[aq,Lit.wf,IntKind.min,IntKind.max,IntKind.signed,IntKind.bits]using h
def Ok{base:Nat}{sp:Nat->Bool}{held:Bool}(n:Nat)(cs:List Value)(x:DataW H×List MemPlace)(hl:cs.length=11)(h:DataW.trod enc prog W base sp held n 73 cs=some x):∃c:Cl,c.ok/\c.cells=cs:=by
 obtain⟨u,b,v⟩:=ek (m:=5) (i:=0) (e:=3) (k:=.i64) zR underlying3 h;obtain⟨w,d,y⟩:=KV (m:=5) (i:=1) (e:=9) zR underlying9 zR h;obtain⟨z,f,A⟩:=ek (m:=5) (i:=2) (e:=2) (k:=.i64) zR underlying2 h;obtain⟨B,g,D⟩:=ek (m:=5) (i:=3) (e:=2) (k:=.i64) zR underlying2 h;obtain⟨F,j,G⟩:=ek (m:=5) (i:=4) (e:=3) (k:=.i64) zR underlying3 h;obtain⟨L,l,N⟩:=ek (m:=5) (i:=5) (e:=2) (k:=.i64) zR underlying2 h;obtain⟨O,o,P⟩:=ek (m:=5) (i:=6) (e:=2) (k:=.i64) zR underlying2 h;obtain⟨Q,p,R⟩:=ek (m:=5) (i:=7) (e:=2) (k:=.i64) zR underlying2 h;obtain⟨S,q,T⟩:=ek (m:=5) (i:=8) (e:=2) (k:=.i64) zR underlying2 h;obtain⟨U,r,X⟩:=ek (m:=5) (i:=9) (e:=2) (k:=.i64) zR underlying2 h;obtain⟨s,a,t⟩:=ek (m:=5) (i:=10) (e:=2) (k:=.i64) zR underlying2 h;refine⟨⟨u,w,z,B,F,L,O,Q,S,U,s⟩,⟨eT v,eT A,eT D,eT G,⟨eT N,eT P,eT R,eT T,eT X,eT t⟩,y⟩,?_⟩
 match cs,hl with
 |[a0,a1,a2,a3,a4,a5,a6,a7,a8,a9,a10],_=>
  simp at b d f g j l o p q r a;simp[Cl.cells,Cl.arr,b,d,f,g,j,l,o,p,q,r,a]
structure NR(W:World)(q:Value×List Cl):Prop where
 ex:∃A c,q.1=.slice A q.2.length c/\q.2.length<=c/\c<=maxLen/\an W W.heap.size 11 A q.2.length (cls q.2)
 cl:∀x∈q.2,x.ok
def Ol{base:Nat}{sp:Nat->Bool}{held:Bool}(n:Nat)(cs:List Value)(x:DataW H×List MemPlace)(hl:cs.length=1)(h:DataW.trod enc prog W base sp held n 40 cs=some x):∃q:Value×List Cl,NR W q/\[q.1]=cs:=by
 obtain⟨A,c,l,rfl,a,b,d,e⟩:=BP (enc:=enc) Cl.cells 11 Cl.C2 zP Cl.ok underlying40 zR (λn cs x hl h=>Ok n cs x hl h) h;exact⟨(_,l),⟨⟨A,c,rfl,a,b,e⟩,d⟩,rfl⟩
def KW{α:Type}(f:α->Value)(l:List α):(l.flatMap λx=>[f x])=l.map f:=by
 induction l with
 |nil=>rfl
 |cons x l ih=>simp;exact ih
def MV{base:Nat}{v:Value}{d:DataW H}{p:List MemPlace}(hv:Value.okWide prog W .any base 23 v)(h:DataW.Trod enc prog W 0 (λ_=>true) true 23 v d p):
  ∃st sa lo hi:Int,v=.agg #[I st,I sa,I lo,I hi]/\(aq st/\aq sa/\aq lo/\aq hi):=by
 obtain⟨b,rfl,f⟩:=okWide_struct underlying23 hv;obtain⟨c,u⟩:=h;have w:prog.cellsOf 23=4:=zR;have a:DataW.trod enc prog W 0 (λ_=>true) true c 23 b.toList=some (d,p):=by simpa[Value.cells]using u
 have x:b.toList.length=4:=by rw[QQ];exact f.trans w
 obtain⟨g,j,y⟩:=ek (m:=5) (i:=0) (e:=3) (k:=.i64) zR underlying3 a;obtain⟨l,n,z⟩:=ek (m:=5) (i:=1) (e:=3) (k:=.i64) zR underlying3 a;obtain⟨o,q,A⟩:=ek (m:=5) (i:=2) (e:=3) (k:=.i64) zR underlying3 a;obtain⟨r,s,B⟩:=ek (m:=5) (i:=3) (e:=3) (k:=.i64) zR underlying3 a;refine⟨g,l,o,r,?_,eT y,eT z,eT A,eT B⟩;have t:b.toList=(#[I g,I l,I o,I r]:Array Value).toList:=by
  generalize b.toList=L at*
  match L,x with
  |[a0,a1,a2,a3],_=>
   simp at j n q s;simp[j,n,q,s]
 rw[Su.1 t]
def MW{base:Nat}{v:Value}{d:DataW H}{p:List MemPlace}(hv:Value.okWide prog W .any base 24 v)(h:DataW.Trod enc prog W 0 (λ_=>true) true 24 v d p):
  ∃(A:Option Addr) (c n:Nat) (ps:List (List Cl)),v=.slice A n c/\dv W A n ps/\∀p∈ps,∀x∈p,x.ok:=by
 obtain⟨m,o,f,rfl⟩:=okWide_slice underlying24 hv;obtain⟨r,s⟩:=h;obtain⟨A,c,a,k,N,O,l,t⟩:=BP (enc:=enc) (λq:Value×List Cl=>[q.1]) 1 (λ_=>rfl) zP (NR W) underlying24 zR (λn u x w h=>Ol n u x w h) s;simp[Value.cells]at k;obtain⟨rfl,rfl,rfl⟩:=k;refine⟨m,f,a.length,a.map Prod.snd,rfl,⟨a.map Prod.fst,by rw[<-KW];exact t,zS,λi hi=>?_⟩,λp y x z=>?_⟩
 ·have b:i<a.length:=by simpa using hi
  obtain⟨g,j,B,D,F,G⟩:=(l a[i] (OR b)).ex;have e:(a.map Prod.snd)[i]'hi=a[i].2:=zS;refine⟨g,j,?_,?_,F,?_⟩
  ·show(a.map Prod.fst)[i]?=some (.slice g ((a.map Prod.snd)[i]'hi).length j);rw[e,<-B];simp[b]
  ·show((a.map Prod.snd)[i]'hi).length<=j;rw[e];exact D
  ·show an W W.heap.size 11 g ((a.map Prod.snd)[i]'hi).length (cls ((a.map Prod.snd)[i]'hi));rw[e];exact G
 ·obtain⟨q,L,rfl⟩:=Pa.1 y;exact(l q L).cl x z
def Hn{len c:Nat}{d:DataW H}{p:List MemPlace}(h:DataW.Trod enc prog W 0 (λ_=>true) true 24 (.slice A len c) d p)
  (hs:∀elems spare,d=.slice elems spare->(elems.length+spare.length)*24<=reachBytes):len<=10000000000000:=by
 obtain⟨f,g⟩:=h
 rcases open_slice underlying24 g with⟨b,_⟩|⟨a,i,k,m,n,D,Pl,b,o,q,r,l,e,s⟩
 ·simp[Value.cells]at b;obtain⟨_,rfl,_⟩:=b;omega
 ·simp[Value.cells]at b;obtain⟨_,rfl,_⟩:=b;injection e with e _;have j:=hs _ _ e;have t:=reachBytes_lt;simp at j;have u:len*24<=(len+(m-len))*24:=Pr _ zO;omega
end
end
end Go.Fw
