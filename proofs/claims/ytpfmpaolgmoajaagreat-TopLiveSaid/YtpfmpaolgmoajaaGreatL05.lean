/- Lemmas of this claim. Conditions: as each says. -/
import Derived.Test.YtpfmpaolgmoajaaGreatL02
import Derived.Test.YtpfmpaolgmoajaaGreatL04
import Derived.Test.YtpfmpaolgmoajaaGreatL03
import Derived.Test.YtpfmpaolgmoajaaGreatL07
set_option linter.unusedVariables false
set_option linter.unusedSimpArgs false
set_option maxHeartbeats 4000000
set_option maxRecDepth 20000
set_option linter.defProp false
open Go.Proofs.Tryz
namespace Go.Fw
open Go.Proofs Go.RowKit
variable {t:Int}{L:Nat->Prop}{g i s m:Nat}{ps:List (List Cl)}{cs:List Value}(p:Pl)(l:List Smp)(st load sa:Int)(C0:List Adv)(A:Option Addr)(lo a now:Int)(c:Nat)(b wk:Int)(w:World)(then_:Int)(n:Nat)(k:K2)(hi:Int)(A2:Option Addr)
def js:p.right=true↔lh p.mn p.mx p.tg p.G9 p.G5 p.hold:=by simp[Pl.right,lh]
def lL(a b:Int):Int:=if 0<a%b then a/b+1 else a/b
def iX(n lo hi:Int):Int:=if n<lo\/hi<lo then lo else if hi<n then hi else n
def kn(x:Int):Int:=if x<0 then 0 else x
def kL(p:Pl)(load:Int):Int:=lL (kn load) p.tg
def eW(p:Pl)(n:Int):Int:=iX n p.mn p.mx
def gW(x y z:K2):Bool:=!(fk y z).2||decide (bM x (fk y z).1<=0)
def ni(load:Int):K2:=me (kn load) 1000
def gX(p:Pl)(now:Int):K2:=me (now*1000) p.tg
def li(p:Pl)(now:Int):K2:=me (wrW (now*p.G9)) p.tg
def qc(p:Pl)(load now:Int):Bool:=(ni load==gX p now)||(gW (ni load) (gX p now) (li p now)&&gW (gX p now) (ni load) (li p now))
def jF(p:Pl)(load now:Int):Bool:=if now<1\/1073741824<now then false else qc p load now
def kq(p:Pl)(load now:Int):Int:=if jF p load now=true then eW p now else eW p (kL p load)
def dg(l:List Smp):Int:=match l with
 |[]=>0
 |x::r=>r.foldl (λb s=>if b<s.tick then s.tick else b) x.tick
def jG(p:Pl)(C0:List Adv):Int:=match C0.getLast? with
 |none=>p.mn
 |some a=>a.reps
def pw(p:Pl)(held:Bool)(open_ now then_:Int):Int:=
 if held=true then 4 else if p.mx<open_ then 6 else if open_<p.mn then 5 else if now<then_ then 2 else if then_<now then 3 else 1
def su(p:Pl)(load now:Int):Int:=if jF p load now=true then now else kL p load
def od(p:Pl)(l:List Smp)(C0:List Adv):Adv:=
 let a:=dg l
 let b:=(atF l a p.G5).F3
 let d:=jG p C0
 let e:=kq p b d
 let s:=Go.Fw.ofS C0 a p.hold e
 let c:=eW p s.1
 ⟨a,b,e,c,pw p s.2 (su p b d) d c⟩
def fW(p:Pl)(l:List Smp):Int:=if p.right=false then 7 else if l=[]then 5 else 0
def rt(p:Pl)(l:List Smp)(C0:List Adv):Adv:=if fW p l=0 then od p l C0 else az
def Bl{x:Int}(h:aq x):0<=kn x/\kn x<=9223372036854775807:=by unfold kn aq at*;split<;>omega
def Iv{a b:Int}(ha:0<=a/\a<=9223372036854775807)(hb:1<=b):0<=lL a b/\lL a b<=9223372036854775807:=by
 have c:0<=a/b:=Int.ediv_nonneg ha.1 zO;have d:a/b<=a:=Int.ediv_le_self _ ha.1;unfold lL;split
 ·rename_i h;have e:=Int.mul_ediv_add_emod a b;have f:a/b<=b*(a/b):=by
   have:=Int.mul_le_mul_of_nonneg_right hb c
   rwa [Int.one_mul]at this
  omega
 ·omega
def uA{p:Pl}(h:p.right=true)(ho:p.ok):0<=p.mn/\1<=p.mx/\p.mx<=1073741824/\p.mn<=p.mx/\1<=p.tg/\0<=p.G9/\p.G9<=999/\1<=p.G5/\0<=p.hold:=(js p).1 h
structure Cg where
 st:Nat
 sa:Nat
 lo:Nat
 hi:Nat
 deriving DecidableEq
def Cg.ok(c:Cg):Prop:=cA c.st c.sa c.lo c.hi=true
def Cg.cells(c:Cg):List Value:=[I c.st,I c.sa,I c.lo,I c.hi]
def Cg.val(c:Cg):Value:=.agg #[I c.st,I c.sa,I c.lo,I c.hi]
structure Ld where
 D2:List Smp
 C0:List Adv
 D8:Pl
 E9:Bool
 deriving DecidableEq
def Ld.new:Ld:=⟨[],[],.zero,false⟩
structure Mp where
 ls:List (K2×Ld)
 B9:List (Option (List (K2×Ld)))
 over:Bool
 deriving DecidableEq
def Mp.new:Mp:=⟨[],[],false⟩
def aH(x:Cl):Int:=
 if x.k=1 then(if bd x.id=true then bG x.tick x.value else 2)
 else if x.k=2 then bG x.tick 0
 else if x.k=5 then idE x.id
 else if x.k=6 then(if bd x.id=true then(if x.D8.right=true then 0 else 7)else 2)
 else if x.k=7 then idE x.id
 else if x.k=3\/x.k=4\/x.k=8 then 0 else 14
def sA{α:Type}(c:Cg)(l:List (K2×α))(k:K2):Nat:=(l.filter λe=>gg e.1 c.st==gg k c.st).length
def dR(c:Cg)(m:Mp)(k:K2):Option Ld:=
 match ap m.ls k with
 |some x=>some x
 |none=>if c.lo<=sA c m.ls k then none else some .new
def liveN{α:Type}(l:List (Option α)):Nat:=(l.filter Option.isSome).length
def findE{α:Type}(l:List (Option α))(n:Int):Int:=if n<1\/(l.length:Int)<n then 5 else if(l.getD (n.toNat-1) none).isNone=true then 8 else 0
def eP(t:Int)(x:Ld):Ld:={x with D2:=x.D2.filter λs=>decide (t<=s.tick)}
def mg(c:Cg)(x:Ld)(t v:Int):Ld:={x with D2:=fV c.sa x.D2 ⟨t,v⟩}
def mh(x:Ld)(p:Pl):Ld:={x with D8:=p,E9:=true}
def iF(l:List Adv):Adv:=l.getLast?.getD az
def jH(h:Nat)(l:List Adv)(a:Adv):List Adv:=if h<l.length+1 then(l++[a]).drop 1 else l++[a]
def jI(c:Cg)(x:Ld)(a:Adv):Ld:={x with C0:=jH c.hi x.C0 a}
def doM(c:Cg)(m:Mp)(x:Cl):Mp×Rp:=
 if aH x≠0 then(m,.of (aH x))
 else if x.k=1 then
  match dR c m (av x.id)with
  |none=>(m,.of 6)
  |some y=>({m with ls:=aR m.ls (av x.id) (mg c y x.tick x.value)},.zero)
 else if x.k=2 then({m with ls:=m.ls.map λe=>(e.1,eP x.tick e.2)},.zero)
 else if x.k=3 then
  if 64<=liveN m.B9 then(m,.of 6)else({m with B9:=m.B9++[some m.ls]},⟨0,m.B9.length+1,m.B9.length+1,.zero,az⟩)
 else if x.k=4 then
  if findE m.B9 x.handle=0 then({m with B9:=m.B9.set (x.handle.toNat-1) none},.zero)else(m,.of (findE m.B9 x.handle))
 else if x.k=5 then
  if findE m.B9 x.handle=0 then
   match ap ((m.B9.getD (x.handle.toNat-1) none).getD []) (av x.id)with
   |none=>(m,.of 5)
   |some y=>(m,⟨0,x.handle,0,atF y.D2 x.tick x.value,az⟩)
  else(m,.of (findE m.B9 x.handle))
 else if x.k=6 then
  match dR c m (av x.id)with
  |none=>(m,.of 6)
  |some y=>({m with ls:=aR m.ls (av x.id) (mh y x.D8)},.zero)
 else if x.k=7 then
  match ap m.ls (av x.id)with
  |none=>(m,.of 5)
  |some y=>(m,⟨0,0,0,.zero,iF y.C0⟩)
 else if m.over=true then(m,.of 9)else({m with over:=true},.zero)
def eo(c:Cg)(m:Mp)(k:K2)(a:Adv):Mp×Bool:=
 match ap m.ls k with
 |none=>(m,false)
 |some y=>({m with ls:=aR m.ls k (jI c y a)},true)
def cd(c:Cg)(m:Mp)(e:Vt):Mp×Bool:=
 if e.kind=2 then((doM c m e.call).1,decide ((doM c m e.call).2=e.rep))
 else if e.kind=6 then eo c m e.key e.E0
 else(m,true)
def fK(c:Cg)(l:List Vt):Mp:=l.foldl (λm e=>(cd c m e).1) .new
structure Ld.C6(c:Cg)(x:Ld):Prop where
 sorted:ea x.D2
 E5:x.D2.length<=c.sa
 right:∀s∈x.D2,(0<=s.tick/\s.tick<=9223372036854775807)/\(0<=s.value/\s.value<=9223372036854775807)
 C0:x.C0.length<=c.hi
 advs:∀a∈x.C0,a.ok
 L0:x.D8.ok
 D8:x.E9=true->x.D8.right=true
def jJ(x:Ld)(C7:Int)(sb qb:Nat)(fz:Bool):Array Value:=#[I x.D8.mn,I x.D8.mx,I x.D8.tg,I x.D8.G9,I x.D8.G5,I x.D8.hold,.bool x.E9,I C7,Z sb 0,Z qb 0,.bool fz]
structure dO(w:World)(c:Cg)(p:Nat)(x:Ld)(fz:Bool)(F:Nat->Prop)(C7:Int)(sb:Nat)(sl:Value)(qb rb:Nat)(rl:Value)(r:Rg Adv):Prop where
 B0:Blk w p 238 (jJ x C7 sb qb fz)
 I3:eC w sb sl x.D2 c.sa
 G7:HAt w qb rb 0 rl r
 C0:r.list=x.C0
 room:r.room=c.hi
 tp:F p
 ts:F sb
 tq:F qb
 tr:F rb
 L4:∀k,sl.ownBlock=some k->F k
 N6:∀k,rl.ownBlock=some k->F k
def bC(w:World)(c:Cg)(p:Nat)(x:Ld)(fz:Bool)(F:Nat->Prop):Prop:=∃C7 sb sl qb rb rl r,dO w c p x fz F C7 sb sl qb rb rl r
section
variable {w w':World} {F G:Nat→Prop} {c:Cg} {p:Nat} {x:Ld} {fz:Bool} {C7:Int} {sb:Nat} {sl:Value} {qb rb:Nat} {rl:Value} {r:Rg Adv}
def dO.B7(h:dO w c p x fz F C7 sb sl qb rb rl r)(hK:ag L w w')(hL:∀k,F k->¬L k):dO w' c p x fz F C7 sb sl qb rb rl r:=
 ⟨hK.B0 h.B0 (hL _ h.tp),⟨hK.B0 h.I3.B0 (hL _ h.ts),hK.C8 h.I3.own λk a=>hL _ (h.L4 k a)⟩,
  ⟨hK.B0 h.G7.box (hL _ h.tq),ej.B7 h.G7.rg hK (hL _ h.tr) λk a=>hL _ (h.N6 k a),OK _,OK _⟩,h.C0,h.room,h.tp,h.ts,h.tq,h.tr,h.L4,h.N6⟩
def dO.lts(h:dO w c p x fz F C7 sb sl qb rb rl r):p<w.heap.size/\sb<w.heap.size/\qb<w.heap.size/\rb<w.heap.size/\(∀k,sl.ownBlock=some k->k<w.heap.size)/\∀k,rl.ownBlock=some k->k<w.heap.size:=
 ⟨h.B0.lt,h.I3.B0.lt,h.G7.box.lt,h.G7.rg.B0.lt,λk a=>(h.I3.own.lt k a).2,λk a=>(h.G7.rg.own.lt k a).2⟩
def dO.more(h:dO w c p x fz F C7 sb sl qb rb rl r)(hF:∀k,k<w.heap.size->F k->G k):dO w c p x fz G C7 sb sl qb rb rl r:=by
 obtain⟨b,d,e,f,g,i⟩:=h.lts;exact⟨h.B0,h.I3,h.G7,h.C0,h.room,hF _ b h.tp,hF _ d h.ts,hF _ e h.tq,hF _ f h.tr,λk a=>hF _ (g k a) (h.L4 k a),λk a=>hF _ (i k a) (h.N6 k a)⟩
def bC.B7(h:bC w c p x fz F)(hK:ag L w w')(hL:∀k,F k->¬L k):bC w' c p x fz F:=by
 obtain⟨_,_,_,_,_,_,_,h⟩:=h;exact⟨_,_,_,_,_,_,_,h.B7 hK hL⟩
def bC.more(h:bC w c p x fz F)(hF:∀k,k<w.heap.size->F k->G k):bC w c p x fz G:=by
 obtain⟨_,_,_,_,_,_,_,h⟩:=h;exact⟨_,_,_,_,_,_,_,h.more hF⟩
def bC.up(h:bC w c p x fz F)(hb:M w w'):bC w' c p x fz F:=h.B7 (L:=λ_=>False) (ag.B5 hb) λ_ _ e=>e
def bC.lt(h:bC w c p x fz F):p<w.heap.size:=by obtain⟨_,_,_,_,_,_,_,h⟩:=h;exact h.B0.lt
def bC.own(h:bC w c p x fz F):F p:=by obtain⟨_,_,_,_,_,_,_,h⟩:=h;exact h.tp
def dO.apart(h:dO w c p x fz F C7 sb sl qb rb rl r):p≠sb/\p≠qb/\p≠rb/\sb≠qb/\sb≠rb/\qb≠rb/\(∀k,sl.ownBlock=some k->k≠p/\k≠sb/\k≠qb/\k≠rb)/\(∀k,rl.ownBlock=some k->k≠p/\k≠sb/\k≠qb/\k≠rb)/\∀k,sl.ownBlock=some k->rl.ownBlock≠some k:=by
 refine⟨fq h.B0 h.I3.B0 zP,fq h.B0 h.G7.box zP,fq h.B0 h.G7.rg.B0 zP,fq h.I3.B0 h.G7.box zP,fq h.I3.B0 h.G7.rg.B0 zP,fq h.G7.box h.G7.rg.B0 zP,λk a=>?_,λk a=>?_,λk a b=>?_⟩
 ·exact⟨λe=>aB h.I3.own h.B0 zP (by rw[a,e]),λe=>aB h.I3.own h.I3.B0 zP (by rw[a,e]),λe=>aB h.I3.own h.G7.box zP (by rw[a,e]),λe=>aB h.I3.own h.G7.rg.B0 zP (by rw[a,e])⟩
 ·exact⟨λe=>aB h.G7.rg.own h.B0 zP (by rw[a,e]),λe=>aB h.G7.rg.own h.I3.B0 zP (by rw[a,e]),λe=>aB h.G7.rg.own h.G7.box zP (by rw[a,e]),λe=>aB h.G7.rg.own h.G7.rg.B0 zP (by rw[a,e])⟩
 ·rcases h.I3.own.2 with⟨rfl,_⟩|⟨d,g,i,rfl,_,f,_⟩
  ·cases a
  ·have:k=d:=by simpa[Value.ownBlock]using a.symm
   subst this;exact aB h.G7.rg.own f zP b
end
def dh(w w':World)(c:Cg)(p:Nat)(fz:Bool)(F:Nat->Prop)(p':Nat)(x':Ld):Prop:=
 ∃G,(fz=false->p'=p/\∀k,G k->F k\/w.heap.size<=k)/\(fz=true->∀k,G k->w.heap.size<=k)/\bC w' c p' x' false G/\ag G w w'
def dh.step{w w1 w2:World}{c:Cg}{p:Nat}{fz:Bool}{F:Nat->Prop}{p':Nat}{x':Ld}{G:Nat->Prop}(h1:fz=false->p'=p/\∀k,G k->F k\/w.heap.size<=k)(h2:fz=true->∀k,G k->w.heap.size<=k)(hK:ag G w w1)
  (h3:bC w2 c p' x' false λk=>G k\/w1.heap.size<=k)(hK2:ag G w1 w2):dh w w2 c p fz F p' x':=by
 have d:=hK.size;refine⟨λk=>G k\/w1.heap.size<=k,λa=>⟨(h1 a).1,λk b=>b.elim ((h1 a).2 k) λe=>.inr zO⟩,λa k b=>b.elim (h2 a k) λe=>zO,h3,(hK.C3 λk h=>.inl h).trans (hK2.C3 λk h=>.inl h)⟩
def Ex{w:World}{p B:Nat}{sl:Value}{r:Rg Adv}(h:RgV w p B sl r):RgV w p 0 sl r:=⟨h.B0,aP h.own (OK _),h.ok⟩
def fX(w:World)(F:Nat->Prop)(c:Cg)(p:Nat)(x:Ld)(fz:Bool)(h:bC w c p x fz F):C 128 #[Z p 0] w λe w'=>e=.returned (.bool true)/\w=w':=by
 obtain⟨b,d,f,g,i,j,r,h⟩:=h;have a:=h.B0.cell 8;simp[jJ]at a;clear h
 go_in
 go_wp2;go_ret;exact⟨rfl,rfl⟩
def wS(c:Cg)(hc:c.ok)(w:World):C 309 #[c.val] w λe w'=>∃p,e=.returned (Z p 0)/\bC w' c p .new false (λk=>w.heap.size<=k)/\M w w':=by
 have m:=zh w (.cells c.cells.toArray 23);have n:=Blk.A8 w 23 c.cells.toArray rfl;have q:1<=c.sa/\c.sa<=256/\1<=c.hi/\c.hi<=64:=by
  unfold Cg.ok cA at hc;simp only[OY,decide_eq_true_eq]at hc;omega
 have t:=λW=>gH c.st c.sa c.lo c.hi W;have x:pu c.st c.sa c.lo c.hi=0:=by exact OB hc
 rw[x]at t;have l:=Z3 t m n;have i:=Z1 q;obtain⟨st,O,lo,y⟩:=c;simp only at i;clear t m n q x hc;unfold Cg.val;simp only[Cg.cells]at l
 go_in
 go_wp2_with fail;refine zm (l.o.1 _) λd f=>?_;have a:=l.o.2.2.later f;have g:=af l.o.2.1 f;have z:=Z1 g;have A:=a.cell 1;have B:=a.cell 3;simp at A B;have r:=a.lt;clear a f g;go_wp2;have D:=(zi d);refine zH (S:=λV=>M d V) D ?_;refine zQ 1 _ ?_ (hy:=λW hW=>by have P:=(OF hW (p:=Y w.heap.size 1) r).trans A;exact zf);refine zq 4 _ ?_ (hy:=λW hW=>by have P:=(OF hW (p:=Y w.heap.size 3) r).trans B;exact zf);refine zo 2 λK hK=>?_;go_simp;refine(wJ O d.drew i.o.1 i.o.2.1).mono ?_;rintro e Q ⟨rfl,F,G,f⟩;have j:=af D f;refine zJ hK j ?_;refine zo 5 λK hK=>?_;go_simp;refine(Il y Q i.o.2.2.1 i.o.2.2.2).mono ?_;rintro e H ⟨L,R,rfl,h,g⟩;have b:=af j g;refine zJ hK b ?_;refine zo 7 λK hK=>?_;go_simp;have u:=ae b (.cells (jJ .new 0 d.heap.size L false) 238);refine zJ hK u ?_;go_wp2;go_ret;have s:=af z.o b;have N:=z.o.size;have T:=b.size;have U:d.drew.heap.size=d.heap.size:=rfl;refine⟨H.heap.size,rfl,?_,ae s _⟩;have X:=G;refine⟨0,d.heap.size,.slice none 0 0,L,R,.slice none 0 0,⟨[],0,y⟩,Blk.A8 H _ _ rfl,(F.up g).up (ae (Oy _ _) _),⟨(h.up (ae (Oy _ _) _)).box,Ex (h.up (ae (Oy _ _) _)).rg,OK _,OK _⟩,rfl,rfl,s.size,N,by have:=h.Bq;omega,by have:=h.Bp;omega,λk v=>by simp[Value.ownBlock]at v,λk v=>by simp[Value.ownBlock]at v⟩
def bh{w:World}{t:TypeId}{a b c d e f h i j k l:Value}(hb:Blk w g t #[a,b,c,d,e,f,h,i,j,k,l]):
  (w.cell? (Y g 0)=some a/\w.cell? (Y g 1)=some b/\w.cell? (Y g 2)=some c/\w.cell? (Y g 3)=some d/\w.cell? (Y g 4)=some e/\w.cell? (Y g 5)=some f)/\w.cell? (Y g 6)=some h/\w.cell? (Y g 7)=some i/\w.cell? (Y g 8)=some j/\w.cell? (Y g 9)=some k/\w.cell? (Y g 10)=some l:=
 ⟨⟨hb.cell 0,hb.cell 1,hb.cell 2,hb.cell 3,hb.cell 4,hb.cell 5⟩,hb.cell 6,hb.cell 7,hb.cell 8,hb.cell 9,hb.cell 10⟩
def Ey(c:Cg)(p:Nat)(x:Ld)(F:Nat->Prop)(h:bC w c p x false F):
  C 314 #[Z p 0] w λe w'=>∃p',e=.returned (Z p' 0)/\dh w w' c p false F p' x:=by
 obtain⟨b,f,g,i,l,m,r,h⟩:=h;have n:=h.B0.cell 7;have d:=h.B0.cell 10;have z:=h.B0.frozen 7;simp[jJ]at n d;have H:=Z1 h;clear h
 go_in
 go_wp2;go_ret;obtain⟨q,s,t,A,B,D,u,y,G⟩:=H.o.apart;have hK:∀v,ag (λj=>j=p) w (w.setCell (Y p 7) v):=λv=>(ag.refl (λj=>j=p) w).setCell (p:=Y p 7) (.inl rfl) v;refine⟨p,rfl,F,λ_=>⟨rfl,λk a=>.inl a⟩,λe=>absurd e zP,⟨wrap64 (b+1),f,g,i,l,m,r,?_⟩,(hK _).C3 λk e=>by rw[e];exact H.o.tp⟩;refine⟨H.o.B0.B4 7 _,⟨(hK _).B0 H.o.I3.B0 (Pc q),(hK _).C8 H.o.I3.own λk a=>(u k a).1⟩,⟨(hK _).B0 H.o.G7.box (Pc s),ej.B7 H.o.G7.rg (hK _) (Pc t) λk a=>(y k a).1,OK _,OK _⟩,H.o.C0,H.o.room,H.o.tp,H.o.ts,H.o.tq,H.o.tr,H.o.L4,H.o.N6⟩
def Ae(c:Cg)(p:Nat)(x:Ld)(F:Nat->Prop)(h:bC w c p x true F)(hx:x.D2.length<=1000):
  C 314 #[Z p 0] w λe w'=>∃p',e=.returned (Z p' 0)/\dh w w' c p true F p' x:=by
 obtain⟨d,sb,sl,qb,rb,rl,r,h⟩:=h;have H:=Z1 h;have B:=h.B0;unfold jJ at B;obtain⟨⟨X,c1,c2,c3,c4,c5⟩,c6,c7,c8,c9,ay⟩:=bh B;have b:=B.lt;obtain⟨⟨O,P,Q,t,u,l⟩,R⟩:∃q:Pl,q=x.D8:=⟨_,rfl⟩;rw[<-R]at X c1 c2 c3 c4 c5;simp only at X c1 c2 c3 c4 c5;have az:=Z1 R;clear h B R;generalize aj:x.E9=y at*;have a0:Hid (x=⟨x.D2,x.C0,x.D8,y⟩):=Z1 (by rw[<-aj]);clear aj
 go_in
 go_wp2;have hS:=(zi w);refine zH (S:=λV=>M w V) hS ?_;refine zQ 3 _ ?_ (hy:=λW hW=>by have q0:=(OF hW (p:=Y p 8) b).trans c8;exact zf);refine zQ 8 _ ?_ (hy:=λW hW=>by have q0:=(OF hW (p:=Y p 9) b).trans c9;exact zf);refine zq 13 _ ?_ (hy:=λW hW=>by have q0:=(OF hW (p:=Y p 0) b).trans X;have q1:=(OF hW (p:=Y p 1) b).trans c1;have q2:=(OF hW (p:=Y p 2) b).trans c2;have q3:=(OF hW (p:=Y p 3) b).trans c3;have q4:=(OF hW (p:=Y p 4) b).trans c4;have q5:=(OF hW (p:=Y p 5) b).trans c5;have q6:=(OF hW (p:=Y p 6) b).trans c6;have q7:=(OF hW (p:=Y p 7) b).trans c7;exact zf);refine zo 4 λK hK=>?_;go_simp;refine(Cc sb sl x.D2 c.sa w.drew (H.o.I3.up hS) hx).mono ?_;rintro e w2 ⟨f,ak,rfl,al,D,G,am⟩;have m:=af hS am;refine zJ hK m ?_;refine zo 9 λK hK=>?_;go_simp;refine(Cf qb rb 0 rl r w2 (H.o.G7.up m)).mono ?_;rintro e T ⟨g,an,ao,rfl,ap,U⟩;have s:=af m U;refine zJ hK s ?_;refine zo 15 λK hK=>?_;go_simp;have n:=ae s (.cells #[I O,I P,I Q,I t,I u,I l,.bool y,I d,Z f 0,Z g 0,.bool false] 238);refine zJ hK n ?_;have L:=Blk.A8 T 238 #[I O,I P,I Q,I t,I u,I l,.bool y,I d,Z f 0,Z g 0,.bool false] rfl;have N:=(al.up U).up (ae (Oy _ T) (.cells #[I O,I P,I Q,I t,I u,I l,.bool y,I d,Z f 0,Z g 0,.bool false] 238));have i:=ap.up (ae (Oy _ T) (.cells #[I O,I P,I Q,I t,I u,I l,.bool y,I d,Z f 0,Z g 0,.bool false] 238));have aq:=s.size;have bp:=m.size;have HH:=Z6 L N i n D G;clear L N i n D G al ap s m am U hS X c1 c2 c3 c4 c5 c6 c7 c8 c9 ay;generalize bq:T.heap.size=z at*;generalize T.alloc (.cells #[I O,I P,I Q,I t,I u,I l,.bool y,I d,Z f 0,Z g 0,.bool false] 238)=V at*;have k7:=HH.o.1.cell 7;have f7:=HH.o.1.frozen 7;go_wp2;go_ret;obtain⟨L,N,i,n,D,G⟩:=HH.o;have hp:=az.o;have bb:Blk V z 238 (jJ ⟨x.D2,x.C0,x.D8,y⟩ d f g false):=by rw[<-hp];exact L
 have a:dO V c z ⟨x.D2,x.C0,x.D8,y⟩ false (λk=>w.heap.size<=k) d f ak g an ao r:=
  ⟨bb,N,⟨i.box,Ex i.rg,OK _,OK _⟩,H.o.C0,H.o.room,aq,D,by have:=i.Bq;omega,by have:=i.Bp;omega,G,λk A=>by have:=(i.rg.own.lt k A).1;omega⟩
 obtain⟨a1,a2,a3,a4,a5,a6,a7,a8,a9⟩:=a.apart;have hK:∀v,ag (λj=>j=z) V (V.setCell (Y z 7) v):=λv=>(ag.refl (λj=>j=z) V).setCell (p:=Y z 7) (.inl rfl) v;refine⟨z,rfl,λk=>w.heap.size<=k,λe=>absurd e zP,λ_ k A=>A,⟨wrap64 (d+1),f,ak,g,an,ao,r,?_⟩,((ag.B5 n).setCell (p:=Y z 7) (.inl aq) _)⟩;refine⟨by rw[a0.o];exact a.B0.B4 7 _,⟨(hK _).B0 a.I3.B0 (Pc a1),(hK _).C8 a.I3.own λk A=>(a7 k A).1⟩,⟨(hK _).B0 a.G7.box (Pc a2),ej.B7 a.G7.rg (hK _) (Pc a3) λk A=>(a8 k A).1,OK _,OK _⟩,H.o.C0,H.o.room,a.tp,a.ts,a.tq,a.tr,a.L4,a.N6⟩
def og(c:Cg)(p:Nat)(x:Ld)(fz:Bool)(F:Nat->Prop)(h:bC w c p x fz F)(hx:x.D2.length<=1000):
  C 314 #[Z p 0] w λe w'=>∃p',e=.returned (Z p' 0)/\dh w w' c p fz F p' x:=by
 cases fz
 ·exact Ey w c p x F h
 ·exact Ae w c p x F h hx
def nj(x:Ld)(t:Int):Bool:=match x.D2 with
 |[]=>false
 |s::_=>decide (s.tick<t)
def rx(x:Ld)(t:Int):Ld:={x with D2:=x.D2.drop (placeF x.D2 t)}
section
variable {w:World} {c:Cg} {p:Nat} {x:Ld} {fz:Bool} {F:Nat→Prop} {C7:Int} {sb:Nat} {sl:Value} {qb rb:Nat} {rl:Value} {r:Rg Adv}
def dO.c8(h:dO w c p x fz F C7 sb sl qb rb rl r):w.cell? (Y p 8)=some (Z sb 0):=h.B0.cell 8
def dO.c9(h:dO w c p x fz F C7 sb sl qb rb rl r):w.cell? (Y p 9)=some (Z qb 0):=h.B0.cell 9
def dO.F9(h:dO w c p x fz F C7 sb sl qb rb rl r):w.cell? (Y p 10)=some (.bool fz):=h.B0.cell 10
end
def dO.D3{w w':World}{c:Cg}{p:Nat}{x x':Ld}{fz fz':Bool}{F:Nat->Prop}{C7:Int}{sb:Nat}{sl:Value}{qb rb:Nat}{rl:Value}{r:Rg Adv}(h:dO w c p x fz F C7 sb sl qb rb rl r)(hK:ag (λj=>j=p) w w')(hb:Blk w' p 238 (jJ x' C7 sb qb fz'))(h1:x'.D2=x.D2)(h2:x'.C0=x.C0):dO w' c p x' fz' F C7 sb sl qb rb rl r:=by
 obtain⟨b,d,e,i,l,m,f,g,n⟩:=h.apart;exact⟨hb,⟨by rw[show x'.D2=x.D2 from h1]at*;exact hK.B0 h.I3.B0 (Pc b),by rw[h1];exact hK.C8 h.I3.own λk a=>(f k a).1⟩,⟨hK.B0 h.G7.box (Pc d),ej.B7 h.G7.rg hK (Pc e) λk a=>(g k a).1,OK _,OK _⟩,by rw[h2];exact h.C0,h.room,h.tp,h.ts,h.tq,h.tr,h.L4,h.N6⟩
def Ag(w:World)(c:Cg)(p:Nat)(x:Ld)(fz:Bool)(F:Nat->Prop)(h:bC w c p x fz F):
  C 325 #[Z p 0] w λe w'=>e=.returned (.bool fz)/\w=w':=by
 have a:=Z1 (fX w F c p x fz h);obtain⟨b,f,g,i,j,k,r,h⟩:=h;have d:=h.F9;clear h
 go_in
 go_wp2_with fail;refine zY a.o ?_;go_wp2;go_ret;exact⟨rfl,rfl⟩
def px(w:World)(c:Cg)(p:Nat)(x:Ld)(fz:Bool)(F:Nat->Prop)(h:bC w c p x fz F)(hx:x.D2.length<=1000):
  C 81 #[Z p 0] w λe w'=>∃v,e=.returned v/\aL 2 w w' 66 v x.D2.length (smps x.D2):=by
 have b:=Z1 (fX w F c p x fz h);obtain⟨j,d,f,k,l,m,r,h⟩:=h;have n:=h.c8;have g:=Z1 (jq d f x.D2 c.sa w h.I3 hx);clear h
 go_in
 go_wp2_with fail;refine zY b.o ?_;go_wp2_with fail;refine zX g.o λv q a=>?_;have i:=Z1 a;clear a;go_wp2;go_ret;exact⟨v,rfl,i.o⟩
def uC(w:World)(c:Cg)(p:Nat)(x:Ld)(fz:Bool)(F:Nat->Prop)(h:bC w c p x fz F):
  C 80 #[Z p 0] w λe w'=>∃v,e=.returned v/\aL 5 w w' 62 v x.C0.length (advs x.C0):=by
 have d:=Z1 (fX w F c p x fz h);obtain⟨l,m,n,f,g,i,r,h⟩:=h;have q:=h.c9;have a:=Ej f g 0 i r w h.G7;rw[h.C0]at a;have j:=Z1 a;clear h a
 go_in
 go_wp2_with fail;refine zY d.o ?_;go_wp2_with fail;refine zX j.o λv s b=>?_;have k:=Z1 b;clear b;go_wp2;go_ret;exact⟨v,rfl,k.o⟩
def Ix(w:World)(c:Cg)(hc:c.ok)(p:Nat)(x:Ld)(fz:Bool)(F:Nat->Prop)(h:bC w c p x fz F)(hs:ea x.D2)(hx:x.D2.length<=c.sa)(t v:Int)(ht:0<=t)(hv:0<=v):
  C 302 #[Z p 0,I t,I v] w λe w'=>∃p',e=.returned (.tuple #[Z p' 0,I 0])/\dh w w' c p fz F p' (mg c x t v):=by
 have f:1<=c.sa/\c.sa<=256:=by
  unfold Cg.ok cA at hc;simp only[OY,decide_eq_true_eq]at hc;omega
 have j:=λW=>iC t v W;rw[show bG t v=0 by unfold bG;rw[Oz zO,Oz zO]]at j;have z:=Z1 j;have A:=Z1 (fX w F c p x fz h);have B:=Z1 (og w c p x fz F h zO);have d:=Z5 hs hx f ht hv;clear h j hs hx f hc ht hv
 go_in
 go_wp2_with fail;refine zY (z.o _) ?_;go_wp2_with fail;refine zY A.o ?_;go_wp2_with fail;refine B.o.mono ?_;rintro e D ⟨p',rfl,G,g,i,L,hK⟩;have l:=Z3 g i hK;obtain⟨q,s,N,O,P,Q,r,h⟩:=L;have c8:=h.c8;have H:=Z1 h;clear h g i hK;go_wp2_with fail;refine(wE s N x.D2 c.sa ⟨t,v⟩ D H.o.I3 d.o.1 (by have:=d.o;omega) d.o.2.2.1.1 (by have:=d.o;omega) d.o.2.2.2.1 d.o.2.2.2.2).mono ?_;rintro e w2 ⟨rfl,u,m,b,y⟩;go_wp2
 go_ret2
 obtain⟨R,a2,a3,S,T,a6,n,U,X⟩:=H.o.apart;refine⟨p',rfl,dh.step l.o.1 l.o.2.1 l.o.2.2 ⟨q,s,u,O,P,Q,r,?_⟩ (b.C3 λk e=>e.elim (λe=>e▸H.o.ts) λe=>H.o.L4 k e)⟩;refine⟨b.B0 H.o.B0 (λe=>e.elim R λe=>(n _ e).1 rfl),m,⟨b.B0 H.o.G7.box (λe=>e.elim (Pc S) λe=>(n _ e).2.2.1 rfl),ej.B7 H.o.G7.rg b (λe=>e.elim (Pc T) λe=>(n _ e).2.2.2 rfl) λk a e=>e.elim (U k a).2.1 λe=>X k e a,OK _,OK _⟩,H.o.C0,H.o.room,.inl H.o.tp,.inl H.o.ts,.inl H.o.tq,.inl H.o.tr,λk a=>?_,λk a=>.inl (H.o.N6 k a)⟩
 rcases y with e|e
 ·exact .inl (H.o.L4 k (e▸a))
 ·exact .inr (e k a)
def bi{w:World}{t:TypeId}{a b c d e f:Value}(h:Blk w g t #[a,b,c,d,e,f]):w.cell? (Y g 0)=some a/\w.cell? (Y g 1)=some b/\w.cell? (Y g 2)=some c/\w.cell? (Y g 3)=some d/\w.cell? (Y g 4)=some e/\w.cell? (Y g 5)=some f:=
 ⟨h.cell 0,h.cell 1,h.cell 2,h.cell 3,h.cell 4,h.cell 5⟩
def iY:Blk (w.alloc (.cells p.arr 51)) w.heap.size 51 #[I p.mn,I p.mx,I p.tg,I p.G9,I p.G5,I p.hold]/\M w (w.alloc (.cells p.arr 51)):=⟨Blk.A8 w _ _ rfl,ae (Oy _ _) _⟩
def jK(h:p.right=true):C 85 #[.agg #[I p.mn,I p.mx,I p.tg,I p.G9,I p.G5,I p.hold]] w λx w'=>x=.returned (I 0)/\M w w':=
 wN _ _ _ _ _ _ w ((js p).1 h)
def Ez(ha:0<=a/\a<=9223372036854775807)(hb:1<=b/\b<=9223372036854775807):
  C 169 #[I a,I b] w λe w'=>e=.returned (I (lL a b))/\w=w':=by
 have c:=Iv ha hb.1;have d:Hid (lL a b=if 0<a%b then a/b+1 else a/b):=Z1 rfl;obtain⟨g,j⟩:=ha;obtain⟨k,l⟩:=hb;have i:¬b<1:=zO;have m:=Int.ediv_nonneg g zO;by_cases h:0<a%b
 ·rw[d.o,OB h]at c;have f:Hid (lL a b=a/b+1):=Z1 (by rw[d.o,OB h]);obtain⟨n,p⟩:=c
  go_in
  go_wp2;go_ret;exact⟨aC f.o.symm,rfl⟩
 ·have f:Hid (lL a b=a/b):=Z1 (by rw[d.o,Oz h]);clear c
  go_in
  go_wp2;go_ret;exact⟨aC f.o.symm,rfl⟩
def Cq(n lo hi:Int)(w:World):
  C 136 #[I n,I lo,I hi] w λe w'=>e=.returned (I (iX n lo hi))/\w=w':=by
 have d:Hid (iX n lo hi=if n<lo\/hi<lo then lo else if hi<n then hi else n):=Z1 rfl;by_cases b:n<lo
 ·have i:decide (n<lo)=true:=by simpa using b
  have a:Hid (iX n lo hi=lo):=Z1 (by rw[d.o,OB (.inl b)]);clear b
  go_in
  go_wp2;go_ret;exact⟨aC a.o.symm,rfl⟩
 ·have i:decide (n<lo)=false:=by simpa using b
  by_cases c:hi<lo
  ·have j:decide (hi<lo)=true:=by simpa using c
   have a:Hid (iX n lo hi=lo):=Z1 (by rw[d.o,OB (.inr c)]);clear b c
   go_in
   go_wp2;go_ret;exact⟨aC a.o.symm,rfl⟩
  ·have j:decide (hi<lo)=false:=by simpa using c
   have f:Hid (iX n lo hi=if hi<n then hi else n):=Z1 (by rw[d.o,Oz (by rintro(h|h)<;>contradiction)]);clear b c;by_cases g:hi<n
   ·have a:Hid (iX n lo hi=hi):=Z1 (by rw[f.o,OB g])
    go_in
    go_wp2;go_ret;exact⟨aC a.o.symm,rfl⟩
   ·have a:Hid (iX n lo hi=n):=Z1 (by rw[f.o,Oz g])
    go_in
    go_wp2;go_ret;exact⟨aC a.o.symm,rfl⟩
def uD(hp:p.right=true)(ho:p.ok)(hl:aq load):
  C 132 #[p.val,I load] w (J (I (kL p load)) w):=by
 have j:=Z1 (λW=>jK p W hp);have k:=uA hp ho;have g:=Z1 (λW=>Ez (kn load) p.tg W (Bl hl) ⟨k.2.2.2.2.1,ho.2.2.1.2⟩);have b:=Z1 (iY p w);have h:Hid (kL p load=lL (kn load) p.tg):=Z1 rfl;obtain⟨v,x,y,z,A,B⟩:=bi b.o.1;obtain⟨D,F⟩:=hl;have i:Hid (kn load=if load<0 then 0 else load):=Z1 rfl;clear hp ho k;unfold Pl.val Pl.arr at*;by_cases f:load<0
 ·have d:=i.o;rw[OB f]at d;rw[d]at g h;clear d
  go_in
  go_wp2_with (first|(go_at_call 85;refine(j.o _).mono ?_;rintro e l ⟨rfl,a⟩;have c:=Z2 a (b.o.1.later a);clear a;obtain⟨m,n,q,r,s,t⟩:=bi c.o.2)|(go_at_call 169;refine(g.o _).mono ?_;rintro e u ⟨rfl,rfl⟩))
  go_ret;exact⟨aC h.o.symm,af b.o.2 c.o.1⟩
 ·have d:=i.o;rw[Oz f]at d;rw[d]at g h;clear d
  go_in
  go_wp2_with (first|(go_at_call 85;refine(j.o _).mono ?_;rintro e l ⟨rfl,a⟩;have c:=Z2 a (b.o.1.later a);clear a;obtain⟨m,n,q,r,s,t⟩:=bi c.o.2)|(go_at_call 169;refine(g.o _).mono ?_;rintro e u ⟨rfl,rfl⟩))
  go_ret;exact⟨aC h.o.symm,af b.o.2 c.o.1⟩
def oi(n:Int)(w:World)(hp:p.right=true):
  C 89 #[p.val,I n] w (J (I (eW p n)) w):=by
 have d:=Z1 (λW=>jK p W hp);have f:=Z1 (λW=>Cq n p.mn p.mx W);have a:=Z1 (iY p w);have g:Hid (eW p n=iX n p.mn p.mx):=Z1 rfl;obtain⟨h,i,j,k,l,m⟩:=bi a.o.1;clear hp;unfold Pl.val Pl.arr at*
 go_in
 go_wp2_with (first|(go_at_call 85;refine(d.o _).mono ?_;rintro e q ⟨rfl,b⟩;have c:=Z2 b (a.o.1.later b);clear b;obtain⟨r,s,t,u,v,x⟩:=bi c.o.2)|(go_at_call 136;refine(f.o _).mono ?_;rintro e y ⟨rfl,rfl⟩))
 go_ret;exact⟨aC g.o.symm,af a.o.2 c.o.1⟩
def qL(x y z:K2)(w:World)(hx:x.ok)(hy:y.ok)(hz:z.ok):
  Calls prog 171 #[x.val,y.val,z.val] w λe w'=>e=.returned (.bool (gW x y z))/\Below w.heap.size w w':=by
 have n:=Z1 (λW=>qY y z W hy hz);have u:=Z1 (λW=>Ht x (fk y z).1 W);have p:Hid (gW x y z=(!(fk y z).2||decide (bM x (fk y z).1<=0))):=Z1 rfl;generalize fk y z=s at*;obtain⟨⟨k,l⟩,v⟩:=s;obtain⟨c,d⟩:=x;obtain⟨f,g⟩:=y;obtain⟨h,i⟩:=z;clear hx hy hz;have q:=Blk.A8 w 279 #[.int .u64 c,.int .u64 d] rfl;have j:=Z2 ((q.alloc (.cells #[.int .u64 f,.int .u64 g] 279)).alloc (.cells #[.int .u64 h,.int .u64 i] 279)) (ae (ae (ae (Oy w.heap.size w) (.cells #[.int .u64 c,.int .u64 d] 279)) (.cells #[.int .u64 f,.int .u64 g] 279)) (.cells #[.int .u64 h,.int .u64 i] 279));clear q;unfold K2.val K2.arr at*;simp only at*
 cases v with
 |false=>
  have m:Hid (gW ⟨c,d⟩ ⟨f,g⟩ ⟨h,i⟩=true):=Z1 (by rw[p.o];rfl)
  go_in
  go_wp2_with (go_at_call 197;refine(n.o _).mono ?_;rintro e A ⟨rfl,a⟩;have b:=Z2 a (j.o.1.later a);clear a)
  go_ret;exact⟨cN m.o.symm,ae (af j.o.2 b.o.1) _⟩
 |true=>
  have m:Hid (gW ⟨c,d⟩ ⟨f,g⟩ ⟨h,i⟩=decide (bM ⟨c,d⟩ ⟨k,l⟩<=0)):=Z1 (by rw[p.o];rfl);generalize bM ⟨c,d⟩ ⟨k,l⟩=B at*
  go_in
  go_wp2_with (first|(go_at_call 197;refine(n.o _).mono ?_;rintro e A ⟨rfl,a⟩;have b:=Z2 a (j.o.1.later a);clear a;have r:=b.o.2.alloc (.cells #[.int .u64 k,.int .u64 l] 279);obtain⟨D,F⟩:=ao r;clear r)|(go_at_call 201;refine(u.o _).mono ?_;rintro e G ⟨rfl,t⟩))
  go_ret;exact⟨cN m.o.symm,af (ae (af j.o.2 b.o.1) _) t⟩
def Cr{r:Rg Adv}(h:r.ok)(a:Adv):(r.push a).list=jH r.room r.list a:=by
 unfold jH;have c:=Rg.length r;by_cases b:r.items.length<r.room
 ·rw[Rg.N3 h b,Oz zO]
 ·rw[Rg.M7 h b,OB zO];have d:=h.pos
  cases hr:r.list with
  |nil=>rw[hr]at c;simp at c;omega
  |cons x l=>simp
def EA(c:Cg)(p:Nat)(x:Ld)(fz:Bool)(F:Nat->Prop)(h:bC w c p x fz F)(hx:x.D2.length<=1000)(a:Adv):
  C 358 #[Z p 0,a.val] w λe w'=>∃p',e=.returned (Z p' 0)/\dh w w' c p fz F p' (jI c x a):=by
 have s:=zh w (.cells a.arr 62);have P:=Blk.A8 w 62 a.arr rfl;have HM:=Z1 (fX _ F c p x fz (h.up s));have HO:=Z1 (og _ c p x fz (λk=>F k/\k<w.heap.size) ((h.more (G:=λk=>F k/\k<w.heap.size) λk b t=>⟨t,b⟩).up s) hx);have T:=Z2 s P;obtain⟨v,y,z,A,B⟩:=a;have HP:=Z1 (λq p' g r w (hh:HAt w q p' 0 g r)=>Im q p' 0 g r ⟨v,y,z,A,B⟩ w hh (OK _));unfold Adv.val Adv.arr at*;simp only at*;clear h s P
 go_in
 go_wp2_with fail;refine zY HM.o ?_;go_wp2_with fail;refine HO.o.mono ?_;rintro e m ⟨p',rfl,G,D,L,hn,hK⟩;have N:(w.alloc (.cells #[I v,I y,I z,I A,I B] 62)).heap.size=w.heap.size+1:=zS;have Q:¬G w.heap.size:=λe=>by
  cases fz
  ·rcases(D rfl).2 _ e with h|h
   ·exact Qn _ h.2
   ·omega
  ·have:=L rfl _ e;omega
 have n:=hK.B0 T.o.2 Q;have O:=Z4 D L hK N;obtain⟨U,sb,sl,X,u,g,r,h⟩:=hn;have c9:=h.c9;have aa:=h.B0.lt;have i:=n.lt;have H:=Z1 h;obtain⟨⟨k0,k1,k2,k3,k4⟩,_⟩:=eO n;clear h D L hK n N;generalize f:w.heap.size=d at*;have ab:=Z1 f;clear f;go_wp2;have hS:=(zi m);have ac:ag (λj=>j=u\/g.ownBlock=some j) m m.drew:=(ag.refl _ m).drew;refine zH (S:=λV=>ag (λj=>j=u\/g.ownBlock=some j) m V) ac ?_;refine zq 3 _ ?_ (hy:=λW hW=>by have ad:¬(p'=u\/g.ownBlock=some p'):=λe=>e.elim H.o.apart.2.2.1 λe=>(H.o.apart.2.2.2.2.2.2.2.1 _ e).1 rfl;have q0:=(OI (a:=Y p' 9) (hW.block p' aa ad)).trans c9;exact zf);refine zq 4 _ ?_ (hy:=λW hW=>by have f:¬(d=u\/g.ownBlock=some d):=λe=>Q (e.elim (λe=>e▸H.o.tr) λe=>H.o.N6 _ e);have q0:=(OI (a:=Y d 0) (hW.block d i f)).trans k0;have q1:=(OI (a:=Y d 1) (hW.block d i f)).trans k1;have q2:=(OI (a:=Y d 2) (hW.block d i f)).trans k2;have q3:=(OI (a:=Y d 3) (hW.block d i f)).trans k3;have q4:=(OI (a:=Y d 4) (hW.block d i f)).trans k4;exact zf);refine zo 5 λK hK=>?_;go_simp;refine(HP.o X u g r m.drew ((H.o.G7.up hS))).mono ?_;rintro e w2 ⟨rfl,ae,af,ah,R⟩;have l:=(ag.refl _ m).drew.trans ah;refine zJ hK l ?_;go_wp2;go_ret;have h9:=ab.o;obtain⟨a1,a2,a3,a4,a5,a6,a7,a8,a9⟩:=H.o.apart;have aj:dh (w.alloc (.cells #[I v,I y,I z,I A,I B] 62)) w2 c p fz (λk=>F k/\k<d) p' (jI c x ⟨v,y,z,A,B⟩):=by
  refine dh.step O.o.1 O.o.2.1 O.o.2.2.1 ⟨U,sb,sl,X,u,ae,r.push ⟨v,y,z,A,B⟩,?_⟩ (l.C3 λk e=>e.elim (λe=>e▸H.o.tr) λe=>H.o.N6 k e);refine⟨l.B0 H.o.B0 (λe=>e.elim a3 λe=>(a8 _ e).1 rfl),⟨l.B0 H.o.I3.B0 (λe=>e.elim a5 λe=>(a8 _ e).2.1 rfl),l.C8 H.o.I3.own λk b e=>e.elim (a7 k b).2.2.2 λe=>a9 k b e⟩,af,?_,?_,.inl H.o.tp,.inl H.o.ts,.inl H.o.tq,.inl H.o.tr,λk b=>.inl (H.o.L4 k b),λk b=>?_⟩
  ·rw[Cr H.o.G7.rg.ok,H.o.C0,H.o.room];rfl
  ·rw[Rg.M6];exact H.o.room
  ·rcases R with e|e
   ·exact .inl (H.o.N6 k (e▸b))
   ·exact .inr (e k b)
 obtain⟨G2,j1,j2,j3,j4⟩:=aj;have bm:=O.o.2.2.2;refine⟨p',rfl,G2,λt=>⟨(j1 t).1,λk b=>((j1 t).2 k b).imp (λe=>e.1) λe=>zO⟩,λt k b=>by have:=j2 t k b;omega,j3,?_⟩;have al:=T.o.1;exact(ag.B5 (by rwa [<-h9]at al)).trans j4
def fY(p:Pl):Int:=if p.right=true then 0 else 7
def LC:tK p.mn p.mx p.tg p.G9 p.G5 p.hold=fY p:=by
 unfold tK fY;by_cases h:p.right=true
 ·rw[OB h,OB ((js p).1 h)]
 ·rw[Oz h,Oz λe=>h ((js p).2 e)]
def tL(q:Pl)(w:World):C 85 #[.agg #[I q.mn,I q.mx,I q.tg,I q.G9,I q.G5,I q.hold]] w λx w'=>x=.returned (I (fY q))/\M w w':=by
 rw[<-LC];exact uz _ _ _ _ _ _ w
def Iy(c:Cg)(p:Nat)(x:Ld)(fz:Bool)(F:Nat->Prop)(h:bC w c p x fz F)(hx:x.D2.length<=1000)(q:Pl)(hq:q.right=true):
  C 310 #[Z p 0,q.val] w λe w'=>∃p',e=.returned (.tuple #[Z p' 0,I 0])/\dh w w' c p fz F p' (mh x q):=by
 have B:=zh w (.cells q.arr 51);have D:=Blk.A8 w 51 q.arr rfl;have HN:=Z1 (h.more (G:=λk=>F k/\k<w.heap.size) λk g f=>⟨f,g⟩);have Q:=Z1 (λW=>tL q W);rw[show fY q=0 by unfold fY;rw[hq];rfl]at Q;have R:=Z2 B D;obtain⟨t,u,v,y,z,A⟩:=q;unfold Pl.val Pl.arr at*;simp only at*;clear h B D hq
 go_in
 go_wp2_with fail;refine zm (Q.o _) λN i=>?_;have d:=af R.o.1 i;have b:=R.o.2.later i;have l:=HN.o.up d;have HM:=Z1 (fX N _ c p x fz l);have HO:=Z1 (og N c p x fz _ l hx);have L:=Z2 d b;have aq:=d.size;have ar:=b.lt;clear i l d b;go_wp2_with fail;refine zY HM.o ?_;go_wp2_with fail;refine HO.o.mono ?_;rintro e O ⟨p',rfl,G,m,n,hn,hK⟩;have S:¬G w.heap.size:=λe=>by
  cases fz
  ·rcases(m rfl).2 _ e with h|h
   ·exact Qn _ h.2
   ·omega
  ·have:=n rfl _ e;omega
 have s:=hK.B0 L.o.2 S;have P:=Z3 m n hK;obtain⟨T,sb,sl,qb,rb,rl,r,h⟩:=hn;have a:=h.B0;unfold jJ at a;obtain⟨⟨c0,c1,c2,c3,c4,c5⟩,c6,c7,c8,c9,au⟩:=bh a;have f0:=a.frozen 0;have f1:=a.frozen 1;have f2:=a.frozen 2;have f3:=a.frozen 3;have f4:=a.frozen 4;have f5:=a.frozen 5;have f6:=a.frozen 6;obtain⟨k0,k1,k2,k3,k4,k5⟩:=bi s;have H:=Z1 h;clear h m n hK a s;go_wp2
 go_ret2
 have hK:ag (λj=>j=p') O (((((((O.setCell (Y p' 0) (I t)).setCell (Y p' 1) (I u)).setCell (Y p' 2) (I v)).setCell (Y p' 3) (I y)).setCell (Y p' 4) (I z)).setCell (Y p' 5) (I A)).setCell (Y p' 6) (.bool true)):=
  (((((((ag.refl (λj=>j=p') O).setCell (p:=Y p' 0) (.inl rfl) _).setCell (p:=Y p' 1) (.inl rfl) _).setCell (p:=Y p' 2) (.inl rfl) _).setCell (p:=Y p' 3) (.inl rfl) _).setCell (p:=Y p' 4) (.inl rfl) _).setCell (p:=Y p' 5) (.inl rfl) _).setCell (p:=Y p' 6) (.inl rfl) _
 have U:=((((((H.o.B0.B4 0 (I t)).B4 1 (I u)).B4 2 (I v)).B4 3 (I y)).B4 4 (I z)).B4 5 (I A)).B4 6 (.bool true);have X:dh N _ c p fz (λk=>F k/\k<w.heap.size) p' (mh x ⟨t,u,v,y,z,A⟩):=
  dh.step P.o.1 P.o.2.1 P.o.2.2 (bC.more ⟨T,sb,sl,qb,rb,rl,r,H.o.D3 (x':=mh x ⟨t,u,v,y,z,A⟩) hK U rfl rfl⟩ λk _ e=>.inl e) (hK.C3 λk e=>e▸H.o.tp)
 obtain⟨G2,j1,j2,j3,j4⟩:=X;refine⟨p',rfl,G2,λf=>⟨(j1 f).1,λk g=>((j1 f).2 k g).imp (λe=>e.1) λe=>zO⟩,λf k g=>by have:=j2 f k g;omega,j3,(ag.B5 L.o.1).trans j4⟩
def Ah(c:Cg)(p:Nat)(x:Ld)(fz:Bool)(F:Nat->Prop)(h:bC w c p x fz F):
  C 352 #[Z p 0] w (J (.tuple #[x.D8.val,.bool x.E9]) w):=by
 have k:=zh w (.cells #[I 0,I 0,I 0,I 0,I 0,I 0] 51);have g:=Blk.A8 w 51 #[I 0,I 0,I 0,I 0,I 0,I 0] rfl;have l:=h.up k;have G:=Z1 (fX _ F c p x fz l);obtain⟨T,sb,sl,qb,rb,rl,r,l⟩:=l;have m:=l.B0;unfold jJ at m;have U:=h.lt;have i:=Z3 k g m;obtain⟨x1,x2,⟨s,t,u,v,y,z⟩,x4⟩:=x;unfold Pl.val Pl.arr;simp only at*;clear h l k g m
 go_in
 go_wp2_with fail;refine zY G.o ?_;generalize n:w.heap.size=b at*;generalize w.alloc (.cells #[I 0,I 0,I 0,I 0,I 0,I 0] 51)=V at*;have q:=Z1 n;clear n;obtain⟨⟨H,L,N,O,P,Q⟩,R,c7,c8,c9,X⟩:=bh i.o.2.2;obtain⟨z0,z1,z2,z3,z4,z5⟩:=bi i.o.2.1;have g:=i.o.2.1;have aa:=g.frozen 0;have ab:=g.frozen 1;have ac:=g.frozen 2;have ad:=g.frozen 3;have ae:=g.frozen 4;have af:=g.frozen 5;clear g;go_wp2;have A:ag (λj=>j=b) V V.drew:=(ag.refl _ V).drew;have ah:=q.o;have d:p<V.heap.size:=by
  have:=i.o.1.size;omega
 have f:¬p=b:=zO;refine zH (S:=λW=>ag (λj=>j=b) V W) A ?_;refine zQ 4 _ ?_ (hy:=λW hW=>by have d0:=(OI (a:=Y p 0) (hW.block p d f)).trans H;have d1:=(OI (a:=Y p 1) (hW.block p d f)).trans L;have d2:=(OI (a:=Y p 2) (hW.block p d f)).trans N;have d3:=(OI (a:=Y p 3) (hW.block p d f)).trans O;have d4:=(OI (a:=Y p 4) (hW.block p d f)).trans P;have d5:=(OI (a:=Y p 5) (hW.block p d f)).trans Q;exact zf);refine zq 9 _ ?_ (hy:=λW hW=>by have d6:=(OI (a:=Y p 6) (hW.block p d f)).trans R;exact zf);refine zo 10 λK hK=>?_;go_simp;have B:ag (λj=>j=b) V ((((((V.setCell (Y b 0) (I s)).setCell (Y b 1) (I t)).setCell (Y b 2) (I u)).setCell (Y b 3) (I v)).setCell (Y b 4) (I y)).setCell (Y b 5) (I z)).drew:=(((((((ag.refl (λj=>j=b) V).setCell (p:=Y b 0) (.inl rfl) _).setCell (p:=Y b 1) (.inl rfl) _).setCell (p:=Y b 2) (.inl rfl) _).setCell (p:=Y b 3) (.inl rfl) _).setCell (p:=Y b 4) (.inl rfl) _).setCell (p:=Y b 5) (.inl rfl) _).drew;refine zJ hK B ?_;have D:=((((((i.o.2.1.B4 0 (I s)).B4 1 (I t)).B4 2 (I u)).B4 3 (I v)).B4 4 (I y)).B4 5 (I z)).drew;go_wp2;refine OH (cx wR rfl (cs:=#[I s,I t,I u,I v,I y,I z]) D rfl _ rfl) rfl ⟨rfl,?_⟩;rw[q.o];exact((((((i.o.1.setCell (p:=Y b 0) (OA _) _).setCell (p:=Y b 1) (OA _) _).setCell (p:=Y b 2) (OA _) _).setCell (p:=Y b 3) (OA _) _).setCell (p:=Y b 4) (OA _) _).setCell (p:=Y b 5) (OA _) _).drew
def Iz(c:Cg)(p:Nat)(x:Ld)(fz:Bool)(F:Nat->Prop)(h:bC w c p x fz F)(hx:x.D2.length<=1000)(t:Int)(ho:nj x t=false):
  C 305 #[Z p 0,I t] w (J (.tuple #[Z p 0,I 0]) w):=by
 have d:=Z1 (fX w F c p x fz h);obtain⟨m,f,i,y,z,B,r,h⟩:=h;have D:=h.c8;have j:=Z1 (jq f i x.D2 c.sa w h.I3 hx);obtain⟨D2,G,H,L⟩:=x;simp only at*;clear h
 go_in
 go_wp2_with fail;refine zY d.o ?_;go_wp2_with fail;refine zX j.o λv k a=>?_
 cases D2 with
 |nil=>
  obtain⟨A,c,rfl,_,_,_⟩:=a.form;have b:=Z1 a.below;clear a;simp only[OE]at*;go_wp2
  go_ret2
  exact⟨rfl,b.o⟩
 |cons s l=>
  obtain⟨g,q,rfl,_,_⟩:=a.own.form (RC _);have N:k.cell? (Y g 0)=some (I s.tick):=a.own.cells (g:=g) rfl 0 (I s.tick) rfl;have b:=Z1 a.below;clear a;have O:(t<=s.tick):=by
   unfold nj at ho;simp only[decide_eq_false_iff_not]at ho;omega
  have P:0<(s::l).length:=RC _;generalize (s::l).length=n at*;have u:((n:Int)==0)=false:=zT;go_wp2
  go_ret2
  exact⟨rfl,b.o⟩
def EB(c:Cg)(hsa:c.sa<=500)(p:Nat)(x:Ld)(fz:Bool)(F:Nat->Prop)(h:bC w c p x fz F)(hs:ea x.D2)(hx:x.D2.length<=c.sa)(t:Int)(ho:nj x t=true):
  C 305 #[Z p 0,I t] w λe w'=>∃p',e=.returned (.tuple #[Z p' 0,I (placeF x.D2 t:Nat)])/\dh w w' c p fz F p' (rx x t):=by
 have HM:=Z1 (fX w F c p x fz h);have O:=h;obtain⟨q,i,B,P,Q,R,r,h⟩:=h;have c8:=h.c8;have HL:=Z1 (jq i B x.D2 c.sa w h.I3 zO);have j:=Z3 hs hx hsa;obtain⟨D2,S,T,U⟩:=x
 cases D2 with
 |nil=>cases ho
 |cons s l=>
 have u:¬t<=s.tick:=by
  unfold nj at ho;simp only[decide_eq_true_eq]at ho;omega
 have H0:=Z1 (O.more (G:=λk=>F k/\k<w.heap.size) λk a d=>⟨d,a⟩);clear h hs hx hsa ho O;simp only at*
 go_in
 go_wp2_with fail;refine zY HM.o ?_;go_wp2_with fail;refine zX HL.o λv X m=>?_;obtain⟨g,ba,rfl,_,_⟩:=m.own.form (RC _);have c0:X.cell? (Y g 0)=some (I s.tick):=m.own.cells (g:=g) rfl 0 (I s.tick) rfl;have f:=m.below;have HO:=Z1 (og _ c p ⟨s::l,S,T,U⟩ fz _ (H0.o.up f) (by have:=j.o;simp only at this ⊢;omega));have HB:=Z1 f;clear m f;have hn:0<(s::l).length:=RC _;generalize y:(s::l).length=n at*;have HN:=Z1 y;clear y;have bb:((n:Int)==0)=false:=zT;go_wp2_with fail;refine HO.o.mono ?_;rintro e w3 ⟨p',rfl,G,z,A,hn,hK⟩;have D:=Z3 z A hK;obtain⟨q,i,B,P,Q,R,r,h⟩:=hn;have bc:=h.c8;have H:=Z1 h;have HT:=Z1 (λW hW=>Ed i B (s::l) c.sa t W hW j.o.1 (by have h1:=j.o.2.1;have h2:=j.o.2.2;exact HN.o.symm▸OJ h1 h2));have HW:=Z1 h.I3;clear h z A hK;go_wp2_with fail;refine(HT.o _ HW.o).mono ?_;rintro e w4 ⟨rfl,ac,L,b,ad⟩;go_wp2
 go_ret2
 obtain⟨a1,a2,a3,a4,a5,a6,N,a8,a9⟩:=H.o.apart;have u:dh X w4 c p fz (λk=>F k/\k<w.heap.size) p' (rx ⟨s::l,S,T,U⟩ t):=by
  refine dh.step D.o.1 D.o.2.1 D.o.2.2 ⟨q,i,ac,P,Q,R,r,?_⟩ (b.C3 λk e=>e.elim (λe=>e▸H.o.ts) λe=>H.o.L4 k e);refine⟨b.B0 H.o.B0 (λe=>e.elim a1 λe=>(N _ e).1 rfl),L,⟨b.B0 H.o.G7.box (λe=>e.elim (Pc a4) λe=>(N _ e).2.2.1 rfl),ej.B7 H.o.G7.rg b (λe=>e.elim (Pc a5) λe=>(N _ e).2.2.2 rfl) λk a e=>e.elim (a8 k a).2.1 λe=>a9 k e a,OK _,OK _⟩,H.o.C0,H.o.room,.inl H.o.tp,.inl H.o.ts,.inl H.o.tq,.inl H.o.tr,λk a=>.inl (H.o.L4 k (ad▸a)),λk a=>.inl (H.o.N6 k a)⟩
 obtain⟨G2,j1,j2,j3,j4⟩:=u;have bd:=HB.o.size;exact⟨p',rfl,G2,λd=>⟨(j1 d).1,λk a=>((j1 d).2 k a).imp (λe=>e.1) λe=>zO⟩,λd k a=>by have:=j2 d k a;omega,j3,(ag.B5 HB.o).trans j4⟩
structure Qm where
 line:List K2
 C5:List K2
 busy:List K2
 over:Bool
 deriving DecidableEq
def Qm.zero:Qm:=⟨[],[],[],false⟩
def fu(l:List K2)(k:K2):List K2:=if k∈l then l else l++[k]
def ib(l:List K2)(k:K2):List K2:=l.filter λe=>!decide (e=k)
def Qm.add(q:Qm)(k:K2):Qm×Bool:=
 if q.over=true\/k∈q.C5 then(q,false)
 else if k∈q.busy then({q with C5:=fu q.C5 k},false)
 else({q with C5:=fu q.C5 k,line:=q.line++[k]},true)
def Qm.get(q:Qm):Qm×Option K2:=
 match q.line with
 |[]=>(q,none)
 |k::r=>({q with line:=r,C5:=ib q.C5 k,busy:=fu q.busy k},some k)
def Qm.done(q:Qm)(k:K2):Qm×Bool:=
 if k∈q.busy then
  if k∈q.C5 then({q with busy:=ib q.busy k,line:=q.line++[k]},true)else({q with busy:=ib q.busy k},false)
 else(q,false)
def bK(kd lk:Int):List (Int×Int):=[(kd,lk),(4,0),(5,lk)]
def dr(c:Cg)(kd:Int):List (Int×Int):=(List.range c.st).map λ(i:Nat)=>(kd,(i:Int))
def lineN(c:Cg):Int:=(c.st:Int)+1
def i7(c:Cg)(id:ByteArray):Int:=gg (av id) c.st
def cg(c:Cg)(x:Cl):List (Int×Int):=
 if x.k=1\/x.k=6 then bK 3 (i7 c x.id)++[(3,lineN c),(6,0),(5,lineN c)]
 else if x.k=2 then dr c 3++[(4,0)]++dr c 5
 else if x.k=3 then dr c 2++bK 3 c.st++dr c 5
 else if x.k=4 then bK 3 c.st
 else if x.k=5 then bK 2 c.st
 else if x.k=7 then bK 2 (i7 c x.id)
 else bK 3 (lineN c)
def aF(c:Cg)(x:Cl):List (Int×Int):=(1,0)::((if aH x=0 then cg c x else[])++[(7,0)])
structure Gs where
 mp:Mp
 E4:List Rf
 ln:Rf
 B3:List Int
 q:Qm
 ev:List Vt
def Rf.zero:Rf:=⟨[],[],[]⟩
def Gs.new(c:Cg):Gs:=⟨.new,List.replicate (c.st+1) .zero,.zero,[],.zero,[]⟩
def Gs.lock(g:Gs)(n:Int):Rf:=if n.toNat<g.E4.length then g.E4.getD n.toNat .zero else g.ln
def Gs.E1(g:Gs)(n:Int)(l:Rf):Gs:=if n.toNat<g.E4.length then{g with E4:=g.E4.set n.toNat l} else{g with ln:=l}
def Gs.ask(g:Gs)(n t:Int)(b:Bool):Gs×Bool:=(g.E1 n (ip (g.lock n) t b).1,(ip (g.lock n) t b).2.1)
def Gs.drop(g:Gs)(n t:Int):Gs:=g.E1 n (iH (g.lock n) t).1
def Gs.held(g:Gs)(n t:Int):Int:=bS (g.lock n) t
def Gs.F0(g:Gs):Gs:=
 match g.B3 with
 |[]=>g
 |t::r=>{g with ln:=(ip g.ln t true).1,B3:=r}
def Gs.E2(g:Gs):Gs:={g with ln:=g.B3.foldl (λl t=>(ip l t true).1) g.ln,B3:=[]}
def Gs.sleep(g:Gs)(t:Int):Gs:=if bS g.ln t=2 then{g with ln:=(iH g.ln t).1,B3:=g.B3++[t]} else g
def Gs.add(g:Gs)(k:K2):Gs:=if(g.q.add k).2=true then{g with q:=(g.q.add k).1}.F0 else{g with q:=(g.q.add k).1}
def Gs.F6(g:Gs)(k:K2):Gs:=if(g.q.done k).2=true then{g with q:=(g.q.done k).1}.F0 else{g with q:=(g.q.done k).1}
def Gs.note(g:Gs)(e:Vt):Gs:={g with ev:=g.ev++[e]}
def Gs.E6(c:Cg)(g:Gs)(x:Cl):Gs×Rp:=
 let a:={g with mp:=(doM c g.mp x).1}
 (if x.k=8/\(doM c g.mp x).2.err=0 then{a with q:={a.q with over:=true}}.E2 else a,(doM c g.mp x).2)
structure Ci where
 prog:List Cl
 task:Int
 nth:Nat
 at_:Nat
 B8:Int
 rep:Rp
def Ci.call(x:Ci):Cl:=x.prog.getD x.nth .zero
def Ci.over(x:Ci):Bool:=decide (x.prog.length<=x.nth)
def Ci.ready(g:Gs)(x:Ci):Bool:=!x.over&&(decide (x.B8<0)||decide (g.held x.B8 x.task≠0))
def Ci.event(x:Ci)(kind:Int):Vt:=⟨kind,x.task,x.nth,if kind=3 then .zero else x.call,if kind=1 then .zero else x.rep,⟨0,0⟩,az⟩
def jP(c:Cg)(ops:List (Int×Int)):Nat->Nat->Nat
 |0,a=>a
 |f+1,a=>if(ops.getD (a+1) (0,0)).2=lineN c then jP c ops f (a+3)else a
def bT(c:Cg)(g:Gs)(x:Ci):Gs×Ci:=
 let a:=aF c x.call
 let o:=a.getD x.at_ (0,0)
 let y:={x with B8:= -1}
 if o.1=1 then
  let y:={y with rep:=.of (aH x.call),at_:=x.at_+1}
  (if aH x.call=0 then g.note (y.event 1)else(g.note (y.event 1)).note (y.event 2),y)
 else if o.1=2\/o.1=3 then
  let r:=g.ask o.2 x.task (decide (o.1=3))
  (r.1,{y with B8:=if r.2=true then -1 else o.2,at_:=x.at_+1})
 else if o.1=4 then
  let r:=g.E6 c x.call
  let y:={y with rep:=r.2,at_:=x.at_+1}
  (r.1.note (y.event 2),y)
 else if o.1=5 then
  (g.drop o.2 x.task,{y with at_:=(if o.2<c.st/\x.rep.err≠0 then jP c a a.length x.at_ else x.at_)+1})
 else if o.1=6 then(g.add (av x.call.id),{y with at_:=x.at_+1})
 else if o.1=7 then(g.note (y.event 3),{y with nth:=x.nth+1,at_:=0})
 else(g,{y with at_:=x.at_+1})
structure Wi where
 task:Int
 B6:Nat
 B8:Int
 B3:Bool
 key:K2
 D9:Ld
 E0:Adv
 done:Nat
def Wi.over(x:Wi):Bool:=decide (x.B6=13)
def Wi.ready(c:Cg)(g:Gs)(x:Wi):Bool:=
 !x.over&&(if x.B3=true then decide (g.held (lineN c) x.task≠0)else decide (x.B8<0)||decide (g.held x.B8 x.task≠0))
def Wi.event(x:Wi)(kind:Int):Vt:=⟨kind,x.task,0,.zero,.zero,x.key,if kind=6 then x.E0 else az⟩
def Wi.home(c:Cg)(x:Wi):Int:=gg x.key c.st
def ic(g:Gs)(x:Wi)(lock:Int)(b:Bool)(next:Nat):Gs×Wi:=
 ((g.ask lock x.task b).1,{x with B8:=if(g.ask lock x.task b).2=true then x.B8 else lock,B6:=next})
def aM(c:Cg)(g:Gs)(x:Wi):Gs×Wi:=
 let y:={x with B8:= -1,B3:=false}
 if x.B6=0 then ic g y (lineN c) true 1
 else if x.B6=1 then
  match g.q.get with
  |(q,some k)=>let y:={y with key:=k,B6:=2};({g with q:=q}.note (y.event 4),y)
  |(_,none)=>if g.q.over=true then(g,{y with B6:=12})else(g.sleep x.task,{y with B3:=true,B6:=1})
 else if x.B6=2 then(g.drop (lineN c) x.task,{y with B6:=3})
 else if x.B6=3 then ic g y (x.home c) false 4
 else if x.B6=4 then let y:={y with D9:=(ap g.mp.ls x.key).getD .new,B6:=5};(g.note (y.event 5),y)
 else if x.B6=5 then(g.drop (x.home c) x.task,{y with B6:=6})
 else if x.B6=6 then
  if x.D9.E9=true/\fW x.D9.D8 x.D9.D2=0 then(g,{y with E0:=od x.D9.D8 x.D9.D2 x.D9.C0,B6:=7})else(g,{y with B6:=10})
 else if x.B6=7 then ic g y (x.home c) true 8
 else if x.B6=8 then let y:={y with B6:=9};({g with mp:=(eo c g.mp x.key x.E0).1}.note (y.event 6),y)
 else if x.B6=9 then(g.drop (x.home c) x.task,{y with B6:=10})
 else if x.B6=10 then ic g y (lineN c) true 11
 else if x.B6=11 then((g.note (y.event 7)).F6 x.key,{y with done:=x.done+1,B6:=14})
 else if x.B6=12 then(g.drop (lineN c) x.task,{y with B6:=13})
 else(g.drop (lineN c) x.task,{y with B6:=0})
structure En where
 g:Gs
 cs:List Ci
 ws:List Wi
 used:Nat
def Ci.new(p:List Cl)(t:Nat):Ci:=⟨p,t,0,0, -1,.zero⟩
def Wi.new(t:Nat):Wi:=⟨t,0, -1,false,⟨0,0⟩,.new,az,0⟩
def En.new(c:Cg)(ps:List (List Cl))(n:Nat):En:=⟨.new c,ps.mapIdx λi p=>.new p i,(List.range n).map λi=>.new (ps.length+i),0⟩
def En.count(e:En):Nat:=e.cs.length+e.ws.length
def En.ready(c:Cg)(e:En)(t:Nat):Bool:=
 if t<e.cs.length then(match e.cs[t]? with|some x=>x.ready e.g|none=>false)else(match e.ws[t-e.cs.length]? with|some x=>x.ready c e.g|none=>false)
def En.go(c:Cg)(e:En)(t:Nat):En:=
 if t<e.cs.length then
  match e.cs[t]? with
  |some x=>{e with g:=(bT c e.g x).1,cs:=e.cs.set t (bT c e.g x).2,used:=e.used+1}
  |none=>e
 else match e.ws[t-e.cs.length]? with
  |some x=>{e with g:=(aM c e.g x).1,ws:=e.ws.set (t-e.cs.length) (aM c e.g x).2,used:=e.used+1}
  |none=>e
def pickN(pick:Int)(n:Nat):Nat:=(pick%(n:Int)).toNat
def fM(r:Nat->Bool)(at_ n:Nat):Nat->Nat->Option Nat
 |0,_=>none
 |f+1,i=>if r ((at_+i)%n)=true then some ((at_+i)%n)else fM r at_ n f (i+1)
def En.next(c:Cg)(e:En)(pick:Int):Option Nat:=fM (e.ready c) (pickN pick e.count) e.count e.count 0
def En.step(c:Cg)(e:En)(pick:Int):Option En:=(e.next c pick).map (e.go c)
def En.run(c:Cg):En->List Int->En
 |e,[]=>e
 |e,p::r=>match e.step c p with|some e'=>En.run c e' r|none=>e
def vh(hp:p.right=true)(ho:p.ok)(hl:aq load)(hn:aq now):
  C 133 #[p.val,I load,I now] w (J (.bool (jF p load now)) w):=by
 have HK:=Z1 (λW=>jK p W hp);obtain⟨r1,r2,r3,r4,r5,r6,r7,r8,r9⟩:=uA hp ho;have a:=Z1 (iY p w);have S:Hid (jF p load now=if now<1\/1073741824<now then false else qc p load now):=Z1 rfl;have bs:=ho.2.2.1.2;clear hp;have X:p.val=.agg #[I p.mn,I p.mx,I p.tg,I p.G9,I p.G5,I p.hold]:=rfl;rw[X];clear X;obtain⟨n0,n1⟩:=hn;by_cases f:now<1
 ·have HX:Hid (jF p load now=false):=Z1 (by rw[S.o,OB (.inl f)]);have d1:decide (now<1)=true:=by simpa using f
  clear f;obtain⟨b0,b1,b2,b3,b4,b5⟩:=bi a.o.1;unfold Pl.arr at*
  go_in
  go_wp2_with (go_at_call 85;refine(HK.o _).mono ?_;rintro e w1 ⟨rfl,b⟩)
  go_ret;exact⟨cN HX.o.symm,af a.o.2 b⟩
 by_cases l:1073741824<now
 ·have HX:Hid (jF p load now=false):=Z1 (by rw[S.o,OB (.inr l)]);have d1:decide (now<1)=false:=by simpa using f
  have d2:decide (1073741824<now)=true:=by simpa using l
  clear f l;obtain⟨b0,b1,b2,b3,b4,b5⟩:=bi a.o.1;unfold Pl.arr at*
  go_in
  go_wp2_with (go_at_call 85;refine(HK.o _).mono ?_;rintro e w1 ⟨rfl,b⟩)
  go_ret;exact⟨cN HX.o.symm,af a.o.2 b⟩
 have HY:Hid (jF p load now=qc p load now):=Z1 (by rw[S.o,Oz zO]);have d1:decide (now<1)=false:=by simpa using f
 have d2:decide (1073741824<now)=false:=by simpa using l
 have n2:1<=now:=zO;have n3:now<=1073741824:=zO;clear f l S;have hB:qc p load now=((ni load==gX p now)||(gW (ni load) (gX p now) (li p now)&&gW (gX p now) (ni load) (li p now))):=rfl;obtain⟨l0,l1⟩:=Bl hl;have m:=Z1 (λW=>qX (kn load) 1000 W ⟨l0,zO⟩ ⟨zP,zP⟩);have aa:=Z1 (λW=>qX (now*1000) p.tg W ⟨zO,zO⟩ ⟨zO,zO⟩);have ab:=Z1 (λW=>qX (wrW (now*p.G9)) p.tg W (jA _) ⟨zO,zO⟩);have a4:=Z1 (λW=>qL (ni load) (gX p now) (li p now) W (lU _ _) (lU _ _) (lU _ _));have a5:=Z1 (λW=>qL (gX p now) (ni load) (li p now) W (lU _ _) (lU _ _) (lU _ _));have e1:me (kn load) 1000=ni load:=rfl;have e2:me (now*1000) p.tg=gX p now:=rfl;have e3:me (wrW (now*p.G9)) p.tg=li p now:=rfl;have e4:IntKind.u64.wrap (now*p.G9)=wrW (now*p.G9):=rfl;have ac:kn load=if load<0 then 0 else load:=rfl
 rw[e1]at m;rw[e2]at aa;rw[e3]at ab;generalize ni load=x at*;generalize gX p now=y at*;generalize li p now=z at*;generalize wrW (now*p.G9)=sk at*;have HB:=Z1 hB;generalize gW x y z=q1 at*;generalize gW y x z=q2 at*;obtain⟨n,r⟩:=x;obtain⟨j,k⟩:=y;obtain⟨T,U⟩:=z;obtain⟨qe,ad,bt⟩:∃q:Bool,(K2.mk n r==K2.mk j k)=q/\∀w,(binOp .eql 279 (.agg #[E n,E r]) (.agg #[E j,E k])).run prog w=.ok (.bool q) w:=by
  refine⟨_,rfl,λw=>?_⟩;rw[Bc];congr 2;rw[Bool.eq_iff_iff];simp
 have HQ:=Z1 ad;have a9:Hid ((load<0/\kn load=0)\/(¬load<0/\kn load=load)):=Z1 (by
  rw[ac];by_cases h:load<0
  ·exact .inl ⟨h,OB h⟩
  ·exact .inr ⟨h,Oz h⟩)
 have bu:=hl.2;clear hB ad e1 e2 e3 ac hl;have bv:=Int.mul_nonneg zO zO;unfold K2.val K2.arr Pl.arr at*;simp only at*;obtain⟨b0,b1,b2,b3,b4,b5⟩:=bi a.o.1
 rcases a9.o with⟨au,s⟩|⟨au,s⟩
 all_goals
  rw[s]at m;clear s
  cases qe
  all_goals cases q1
  all_goals
   go_in
   go_wp2_with (first|(go_at_call 85;refine(HK.o _).mono ?_;rintro e w1 ⟨rfl,b⟩;have t:=Z2 (af a.o.2 b) (a.o.1.later b);clear b;obtain⟨u,v,A,B,D,F⟩:=bi t.o.2)|(first|(go_at_call 170;(with_reducible refine(m.o _).mono ?_);rintro e w2 ⟨rfl,G⟩;have ag:=Z2 (af t.o.1 G) (t.o.2.later G);clear G u v A B D F;have ah:=Blk.A8 w2 279 #[E n,E r] rfl;have H:=ag.o.2.alloc (.cells #[E n,E r] 279);have L:=Z3 ah H (ae ag.o.1 (.cells #[E n,E r] 279));obtain⟨u,v,A,B,D,F⟩:=bi H;clear ah H)|(go_at_call 170;(with_reducible refine(aa.o _).mono ?_);rintro e w3 ⟨rfl,g⟩;have ai:=(L.o.1.later g).alloc (.cells #[E j,E k] 279);have aj:=Blk.A8 w3 279 #[E j,E k] rfl;have N:=(L.o.2.1.later g).alloc (.cells #[E j,E k] 279);have O:=Z4 ai aj N (ae (af L.o.2.2 g) (.cells #[E j,E k] 279));clear g u v A B D F;obtain⟨u,v,A,B,D,F⟩:=bi N;clear ai aj N)|(go_at_call 170;(with_reducible refine(ab.o _).mono ?_);rintro e w4 ⟨rfl,i⟩;have P:=(O.o.1.later i).alloc (.cells #[E T,E U] 279);have Q:=(O.o.2.1.later i).alloc (.cells #[E T,E U] 279);have R:=Blk.A8 w4 279 #[E T,E U] rfl;have c:=Z4 P Q R (ae (af O.o.2.2.2 i) (.cells #[E T,E U] 279));clear i u v A B D F;obtain⟨k0,k1⟩:=ao P;obtain⟨k2,k3⟩:=ao Q;obtain⟨k4,k5⟩:=ao R;clear P Q R))|(go_at_call 171;(with_reducible refine(a4.o _).mono ?_);rintro e w5 ⟨rfl,d⟩;have ak:=c.o.1.later d;have al:=c.o.2.1.later d;have am:=c.o.2.2.1.later d;have an:=Z1 (af c.o.2.2.2 d);clear d k0 k1 k2 k3 k4 k5;obtain⟨k0,k1⟩:=ao ak;obtain⟨k2,k3⟩:=ao al;obtain⟨k4,k5⟩:=ao am;clear ak al am)|(go_at_call 171;(with_reducible refine(a5.o _).mono ?_);rintro e w6 ⟨rfl,bg⟩))
   go_ret;refine⟨cN (by rw[HY.o,HB.o,HQ.o];rfl),?_⟩
   first|exact af an.o bg|exact an.o|exact c.o.2.2.2
def Js(hp:p.right=true)(ho:p.ok)(hl:aq load)(hn:aq now):
  C 88 #[p.val,I load,I now] w (J (I (kq p load now)) w):=by
 have u:=Z1 (λW=>vh p load now W hp ho hl hn);have z:=Z1 (λW=>uD p load W hp ho hl);have v:=Z1 (λW=>oi p now W hp);have x:=Z1 (λW=>oi p (kL p load) W hp);have y:Hid (kq p load now=if jF p load now=true then eW p now else eW p (kL p load)):=Z1 rfl;have c:=Z1 (iY p w);obtain⟨g,h,i,j,k,l⟩:=bi c.o.1;clear hp ho hl hn;unfold Pl.val Pl.arr at*;generalize jF p load now=q at*
 cases q with
 |true=>
  have t:Hid (kq p load now=eW p now):=Z1 (by rw[y.o];rfl)
  go_in
  go_wp2_with (first|(go_at_call 133;(with_reducible refine(u.o _).mono ?_);rintro e f ⟨rfl,a⟩;have b:=Z2 (af c.o.2 a) (c.o.1.later a);clear a g h i j k l;obtain⟨g,h,i,j,k,l⟩:=bi b.o.2)|(go_at_call 89;(with_reducible refine(v.o _).mono ?_);rintro e A ⟨rfl,d⟩))
  go_ret;exact⟨aC t.o.symm,af b.o.1 d⟩
 |false=>
  have t:Hid (kq p load now=eW p (kL p load)):=Z1 (by rw[y.o];rfl)
  go_in
  go_wp2_with (go_at_call 133;(with_reducible refine(u.o _).mono ?_);rintro e f ⟨rfl,a⟩;have b:=Z2 (af c.o.2 a) (c.o.1.later a);clear a g h i j k l)
  have m:M f f.drew:=(Oy _ _).drew;refine zH (S:=λW=>M f W) m ?_;refine zq 0 _ ?_ (hy:=λW hW=>by obtain⟨g,h,i,j,k,l⟩:=bi (b.o.2.later hW);exact zf);refine zQ 1 _ ?_ (hy:=λW hW=>by obtain⟨g,h,i,j,k,l⟩:=bi (b.o.2.later hW);exact zf);refine zo 3 λK hK=>?_;go_simp
  (with_reducible refine(z.o _).mono ?_)
  rintro B A ⟨rfl,d⟩;have n:=af m d;refine hK _ _ n ?_;clear hK d;refine zn ?_;refine zo 4 λK hK=>?_;go_simp
  (with_reducible refine(x.o _).mono ?_)
  rintro D F ⟨rfl,r⟩;have s:=af n r;refine hK _ _ s ?_;clear hK r;refine zn ?_;refine zL ?_;go_wp2;go_ret;exact⟨aC t.o.symm,af b.o.1 s⟩
def eY(b:Int)(l:List Smp):Int:=l.foldl (λb s=>if b<s.tick then s.tick else b) b
def sM(x:Smp)(r:List Smp):dg (x::r)=eY x.tick (x::r):=by
 show r.foldl _ x.tick=(x::r).foldl _ x.tick;rw[Qz,Oz zO]
def AA(l:List Smp)(s:Smp):eY b (l++[s])=if eY b l<s.tick then s.tick else eY b l:=by
 unfold eY;rw[Qe];rfl
def FP:∀b,aq b->fo l->aq (eY b l):=by
 induction l with
 |nil=>intro b h _;exact h
 |cons s r ih=>
  intro b h a;refine ih _ ?_ (λx c=>a x (by simp[c]))
  dsimp only
  split
  ·exact(a s zS).1
  ·exact h
def sN{l:List Smp}(h:fo l):aq (dg l):=by
 cases l with
 |nil=>exact aD
 |cons x r=>rw[sM];exact FP _ _ (h x zS).1 h
def Ma{p:Pl}{l:List Adv}(hp:p.ok)(h:∀a∈l,a.ok):aq (jG p l):=by
 unfold jG;split
 ·exact hp.1
 ·rename_i a b;exact(h a (List.mem_of_getLast? b)).reps
def qQ(w:World)(hr:an w w.heap.size 2 A n (smps l))(hn:n<=100000):
  C 131 #[.slice A n c] w λe w'=>e=.returned (.tuple #[I (dg l),.bool (decide (l≠[]))])/\M w w':=by
 have a:=iB hr;by_cases s:n=0
 ·have d:l=[]:=OU zO;have f:Hid (dg l=0/\decide (l≠[])=false):=Z1 (by subst d;exact⟨rfl,rfl⟩);have L:((n:Int)==0)=true:=by rw[s];rfl
  clear a s d
  go_in
  go_wp2
  go_ret2
  exact⟨by rw[f.o.1,f.o.2];rfl,Oy _ _⟩
 ·have L:((n:Int)==0)=false:=zT;have S:0<n:=zO;obtain⟨x,r,d⟩:∃x r,l=x::r:=by
   cases l with
   |nil=>simp at a;omega
   |cons x r=>exact⟨x,r,rfl⟩
  have f:Hid (dg l=eY x.tick l/\decide (l≠[])=true):=Z1 (by subst d;exact⟨sM x r,rfl⟩);obtain⟨b,o,rfl,T,u,N⟩:=il (k:=0) hr zO;have p:l[0]'(by omega)=x:=by subst d;rfl
  rw[p]at u;have z:=Z1 a;have O:=Z1 hr;simp only[Rz,Qt]at u;clear a s d p N hr
  go_in
  go_wp2;go_loopw [4,16] (λv i wr=>∃(k:Nat),k<=n/\i=I k/\v=I (eY x.tick (l.take k))/\Hid (M w wr)) (λ_ i _=>n-(intOf i).toNat)
  case atStart=>exact⟨0,OK _,rfl,rfl,Z1 (Oy _ _)⟩
  case round=>
   obtain⟨k,X,rfl,rfl,h⟩:=hrel;by_cases U:k<n
   ·have q:k<l.length:=by have:=z.o;omega
    obtain⟨b2,o2,t,_,P,Q⟩:=il (O.o.below h.o) q;injection t with t;injection t with B D;subst B D;have F:=OG q;generalize l[k]=y at*;obtain⟨j,y1⟩:=y;simp only at P Q;have G:Hid (eY x.tick (l.take (k+1))=if eY x.tick (l.take k)<j then j else eY x.tick (l.take k)):=Z1 (by rw[F,AA]);clear F;generalize eY x.tick (l.take k)=m at*;by_cases H:m<j
    ·have g:Hid (eY x.tick (l.take (k+1))=j):=Z1 (by rw[G.o,OB H]);go_wp2;go_roundw
     case rel=>exact⟨k+1,zO,by go_num,by rw[g.o],Z1 (ae h.o _)⟩
     case measure=>simp[intOf];omega
    ·have g:Hid (eY x.tick (l.take (k+1))=m):=Z1 (by rw[G.o,Oz H]);go_wp2;go_roundw
     case rel=>exact⟨k+1,zO,by go_num,by rw[g.o],Z1 (ae h.o _)⟩
     case measure=>simp[intOf];omega
   ·obtain rfl:k=n:=zO;have R:Hid (eY x.tick (l.take k)=eY x.tick l):=Z1 (by rw[OT (by have:=z.o;omega)]);go_wp2
    go_ret2
    exact⟨by rw[f.o.1,f.o.2];rw[R.o];rfl,h.o⟩
def Jt(l:List Adv)(A:Option Addr)(c n:Nat)(w:World)(hr:an w w.heap.size 5 A n (advs l))(hn:n<=100000):
  C 86 #[p.val,.slice A n c] w (J (I (jG p l)) w):=by
 have d:=tB hr;have a:=Z1 (iY p w);obtain⟨x,z,B,D,F,G⟩:=bi a.o.1;have h:p.val=.agg p.arr:=rfl;rw[h];clear h;by_cases i:n=0
 ·have g:Hid (jG p l=p.mn):=Z1 (by rw[OU (l:=l) zO];rfl);have j:((n:Int)==0)=true:=by rw[i];rfl
  clear d i;unfold Pl.arr at*
  go_in
  go_wp2;go_ret;exact⟨aC g.o.symm,a.o.2⟩
 ·have j:((n:Int)==0)=false:=zT;have f:n-1<l.length:=zO;obtain⟨b,o,rfl,v,k,q,r,s,t⟩:=adv_at (hr.up a.o.2) f;have g:Hid (jG p l=l[n-1].reps):=Z1 (by unfold jG;rw[Ry,<-d,OL f]);obtain⟨m,rfl⟩:∃m,n=m+1:=⟨n-1,zO⟩;simp only[RF]at s g f;have u:((m+1:Nat):Int)-1=(m:Int):=zO;generalize l[m].reps=y at*;clear d i k q r t hr;have H:m<=100000:=zO;unfold Pl.arr at*
  go_in
  go_wp2;go_ret;exact⟨aC g.o.symm,a.o.2⟩
def Ju(held:Bool)(op now then_:Int)(w:World):
  C 134 #[p.val,.bool held,I op,I now,I then_] w (J (I (pw p held op now then_)) w):=by
 have a:=Z1 (iY p w);obtain⟨d,f,g,h,i,j⟩:=bi a.o.1;have c:p.val=.agg p.arr:=rfl;rw[c];clear c;have b:Hid (pw p held op now then_=if held=true then 4 else if p.mx<op then 6 else if op<p.mn then 5 else if now<then_ then 2 else if then_<now then 3 else 1):=Z1 rfl;unfold Pl.arr at*
 cases held with
 |true=>
  go_in
  go_wp2;go_ret;exact⟨aC (by rw[b.o];rfl),a.o.2⟩
 |false=>
  by_cases k:p.mx<op
  ·go_in
   go_wp2;go_ret;exact⟨aC (by rw[b.o,Oz zP,OB zO]),a.o.2⟩
  by_cases l:op<p.mn
  ·go_in
   go_wp2;go_ret;exact⟨aC (by rw[b.o,Oz zP,Oz zO,OB zO]),a.o.2⟩
  by_cases m:now<then_
  ·go_in
   go_wp2;go_ret;exact⟨aC (by rw[b.o,Oz zP,Oz zO,Oz zO,OB zO]),a.o.2⟩
  by_cases n:then_<now
  ·go_in
   go_wp2;go_ret;exact⟨aC (by rw[b.o,Oz zP,Oz zO,Oz zO,Oz zO,OB zO]),a.o.2⟩
  ·go_in
   go_wp2;go_ret;exact⟨aC (by rw[b.o,Oz zP,Oz zO,Oz zO,Oz zO,Oz zO]),a.o.2⟩
def Np{l:List Smp}(h:fo l)(hn:l.length<=100000)(a b:Int):aq (atF l a b).F3:=(wD h hn a b).F3
structure wg(p:Pl)(l:List Smp)(C0:List Adv)(A A2:Option Addr)(n n2:Nat)(w:World):Prop where
 ok:p.ok
 rl:an w w.heap.size 2 A n (smps l)
 nl:n<=100000
 S6:fo l
 rp:an w w.heap.size 5 A2 n2 (advs C0)
 np:n2<=100000
 S7:∀a∈C0,a.ok
def gu:cU prog 62 5:=⟨zR,zR,zR⟩
def Nq(n c n2 c2:Nat)(w:World)(h:wg p l C0 A A2 n n2 w)(he:fW p l≠0):
  C 84 #[p.val,.slice A n c,.slice A2 n2 c2] w (J (.tuple #[.agg #[I 0,I 0,I 0,I 0,I 0],I (fW p l)]) w):=by
 have i:=Z1 (λW=>uz p.mn p.mx p.tg p.G9 p.G5 p.hold W);have q:p.val=.agg p.arr:=rfl;have d:Hid (Blk ((w.alloc (.cells p.arr 51)).alloc (.cells #[I 0,I 0,I 0,I 0,I 0] 62)) w.heap.size 51 #[I p.mn,I p.mx,I p.tg,I p.G9,I p.G5,I p.hold]/\
   Blk ((w.alloc (.cells p.arr 51)).alloc (.cells #[I 0,I 0,I 0,I 0,I 0] 62)) (w.heap.size+1) 62 #[I 0,I 0,I 0,I 0,I 0]/\M w ((w.alloc (.cells p.arr 51)).alloc (.cells #[I 0,I 0,I 0,I 0,I 0] 62))):=
  Z1 ⟨(iY p w).1.alloc _,Blk.A8 _ _ _ zS,ae (iY p w).2 _⟩
 obtain⟨S,T,U,X,b4,b5⟩:=bi d.o.1;rw[q];clear q;by_cases g:p.right=true
 ·have u:l=[]:=by
   rcases Decidable.em (l=[])with h|h
   ·exact h
   ·exact absurd (by unfold fW;rw[g,Oz zP,Oz h]) he
  have v:Hid (fW p l=5):=Z1 (by unfold fW;rw[g,Oz zP,OB u]);have f:tK p.mn p.mx p.tg p.G9 p.G5 p.hold=0:=OB ((js p).1 g);rw[f]at i;have x:=Z1 (λW (z:M w W)=>qQ l A c n W (h.rl.up z) h.nl);have r:decide (l≠[])=false:=by simp[u]
  rw[r]at x;clear g u f r he h;unfold Pl.arr at*
  go_in
  go_wp2_with (first|(go_at_call 85;(with_reducible refine(i.o _).mono ?_);rintro e w1 ⟨rfl,a⟩;have s:=Z1 (af d.o.2.2 a);have y:=Z1 (d.o.2.1.later a);clear a)|(go_at_call 131;(with_reducible refine(x.o _ s.o).mono ?_);rintro e B ⟨rfl,j⟩;have b:=Z2 (af s.o j) (y.o.later j);obtain⟨⟨D,F,G,H,L⟩,N,O,P,Q,R⟩:=eO b.o.2;clear j))
  obtain⟨k,m⟩:=km b.o.2 (I 0) (I 0) (I 0) (I 0) (I 0);rw[v.o];exact OH (cx gu rfl k rfl _ rfl) rfl ⟨rfl,m.below b.o.1 zO⟩
 ·have t:p.right=false:=by simpa using g
  have v:Hid (fW p l=7):=Z1 (by unfold fW;rw[t,OB rfl]);have f:tK p.mn p.mx p.tg p.G9 p.G5 p.hold=7:=Oz (λh=>g ((js p).2 h));rw[f]at i;clear g t f he h;unfold Pl.arr at*
  go_in
  go_wp2_with (go_at_call 85;(with_reducible refine(i.o _).mono ?_);rintro e B ⟨rfl,a⟩;have b:=Z2 (af d.o.2.2 a) (d.o.2.1.later a);obtain⟨⟨D,F,G,H,L⟩,N,O,P,Q,R⟩:=eO b.o.2;clear a)
  obtain⟨k,m⟩:=km b.o.2 (I 0) (I 0) (I 0) (I 0) (I 0);rw[v.o];exact OH (cx gu rfl k rfl _ rfl) rfl ⟨rfl,m.below b.o.1 zO⟩
structure DW(p:Pl)(w W:World):Prop where
 D8:Blk W w.heap.size 51 #[I p.mn,I p.mx,I p.tg,I p.G9,I p.G5,I p.hold]
 res:Blk W (w.heap.size+1) 62 #[I 0,I 0,I 0,I 0,I 0]
 below:M w W
def DW.up{p:Pl}{w W W':World}(h:DW p w W)(hb:M W W'):DW p w W':=⟨h.D8.later hb,h.res.later hb,af h.below hb⟩
def DW.start:DW p w ((w.alloc (.cells p.arr 51)).alloc (.cells #[I 0,I 0,I 0,I 0,I 0] 62)):=
 ⟨(iY p w).1.alloc _,Blk.A8 _ _ _ zS,ae (iY p w).2 _⟩
def CY(c d e:Int)(w:World):(Instr.field 75 (.agg #[I a,I b,I c,I d,I e]) 4).run prog w=.ok (I e) w:=zR
def Mb(n c n2 c2:Nat)(w:World)(h:wg p l C0 A A2 n n2 w)(he:fW p l=0):
  C 84 #[p.val,.slice A n c,.slice A2 n2 c2] w (J (.tuple #[.agg (od p l C0).arr,I 0]) w):=by
 have H:p.right=true:=by
  unfold fW at he;by_cases U:p.right=false
  ·rw[OB U]at he;omega
  ·simpa using U
 have hl:l≠[]:=by
  unfold fW at he;rw[Oz (by rw[H];decide)]at he;intro U;rw[OB U]at he;omega
 have a2:=Z1 (λW=>jK p W H);have al:=Z1 (DW.start p w);have HH:=Z1 h;have ht:=sN h.S6;have X:l.length<=100000:=by have:=iB h.rl;have:=h.nl;omega
 have u:=Np h.S6 X (dg l) p.G5;have L:=Ma h.ok h.S7;have am:decide (l≠[])=true:=by simpa using hl
 have aa:=h.ok.2.2.2.2.1;have HL:=Z1 (λW (a:M w W)=>qQ l A c n W (h.rl.up a) h.nl);rw[am]at HL;have a4:=Z1 (λW (a:M w W)=>tJ l A c n (dg l) p.G5 W (h.rl.up a) h.nl h.S6 ht aa);have ay:=Z1 (λW (a:M w W)=>Jt p C0 A2 c2 n2 W (h.rp.up a) h.np);have N:Hid (od p l C0=⟨dg l,(atF l (dg l) p.G5).F3,kq p (atF l (dg l) p.G5).F3 (jG p C0),eW p (ofS C0 (dg l) p.hold (kq p (atF l (dg l) p.G5).F3 (jG p C0))).1,
  pw p (ofS C0 (dg l) p.hold (kq p (atF l (dg l) p.G5).F3 (jG p C0))).2 (su p (atF l (dg l) p.G5).F3 (jG p C0)) (jG p C0) (eW p (ofS C0 (dg l) p.hold (kq p (atF l (dg l) p.G5).F3 (jG p C0))).1)⟩):=Z1 rfl
 unfold St.arr at*;generalize atF l (dg l) p.G5=st at*;obtain⟨m1,m2,m3,m4,b⟩:=st;simp only at u N;generalize jG p C0=r at*;have HW:=Z1 (λW=>uD p b W H h.ok u);have HN:=Z1 (λW=>vh p b r W H h.ok u L);have HR:=Z1 (λW=>Js p b r W H h.ok u L);have an:Hid (su p b r=if jF p b r=true then r else kL p b):=Z1 rfl;have ab:=Z1 (λW (a:M w W)=>Ng C0 A2 c2 n2 p.mn p.mx p.tg p.G9 p.G5 p.hold (dg l) (kq p b r) W (h.rp.up a) h.np ht h.ok.2.2.2.2.2 λk hk=>⟨(h.S7 _ (OR hk)).tick,(h.S7 _ (OR hk)).want⟩);generalize dg l=O at*;generalize kq p b r=P at*;generalize ofS C0 O p.hold P=s at*;obtain⟨s1,Q⟩:=s;simp only at N ab;have ao:=Z1 (λW=>oi p s1 W H);generalize eW p s1=th at*;have HY:=Z1 (λW (q:Int)=>Ju p Q q r th W);clear he H hl ht X u L am aa h;have ap:p.val=.agg p.arr:=rfl;rw[ap]at*;clear ap;obtain⟨d,f,g,i,j,m⟩:=bi al.o.D8;unfold Pl.arr at*
 go_in
 go_wp2_with (first|(go_at_call 85;(with_reducible refine(a2.o _).mono ?_);rintro e w1 ⟨rfl,aq⟩;have ar:=Z1 (al.o.up aq);clear aq)|(go_at_call 131;(with_reducible refine(HL.o _ ar.o.below).mono ?_);rintro e w2 ⟨rfl,au⟩;have y:=Z1 (ar.o.up au);clear au))
 have R:M w2 w2.drew:=(Oy _ _).drew;refine zH (S:=λW=>M w2 W) R ?_;refine zq 3 _ ?_ (hy:=λW hW=>by obtain⟨d,f,g,i,j,m⟩:=bi (y.o.up hW).D8;exact zf);refine zQ 6 _ ?_ (hy:=λW hW=>by obtain⟨d,f,g,i,j,m⟩:=bi (y.o.up hW).D8;exact zf);refine zo 4 λK hK=>?_;go_simp;refine zm (a4.o _ (y.o.up R).below) λw3 x=>?_;have T:=af R x;refine hK _ _ T ?_;clear hK x;refine zn ?_;refine zq 5 _ ?_ (hy:=λW hW=>by have bw:=CY m1 m2 m3 m4 b;exact zf);refine zo 8 λK hK=>?_;go_simp;refine zm (ay.o _ (y.o.up T).below) λw4 av=>?_;have ae:=af T av;refine hK _ _ ae ?_;clear hK av;refine zn ?_;refine zL ?_;have ag:=Z1 (y.o.up ae);clear R T ae d f g i j m;obtain⟨d,f,g,i,j,m⟩:=bi ag.o.D8;have U:∃q,jF p b r=q/\su p b r=if q=true then r else kL p b:=⟨_,rfl,an.o⟩
 obtain⟨q,aw,ah⟩:=U;rw[aw]at HN;have z:=Z1 (λW=>HY.o W (su p b r));rw[ah]at z;rw[ah]at N;clear aw ah an HY;generalize kL p b=wl at*
 cases q with
 |false=>
  have e0:(if(false=true)then r else wl)=wl:=rfl;rw[e0]at z N;clear e0;generalize pw p Q wl r th=wy at*
  go_wp2_with (first|(go_at_call 132;(refine(HW.o _).mono ?_);rintro e w5 ⟨rfl,a⟩;have B:=Z1 (ag.o.up a);clear a d f g i j m;obtain⟨d,f,g,i,j,m⟩:=bi B.o.D8)|(go_at_call 133;(refine(HN.o _).mono ?_);rintro e w6 ⟨rfl,a⟩;have D:=Z1 (B.o.up a);clear a d f g i j m;obtain⟨d,f,g,i,j,m⟩:=bi D.o.D8)|(go_at_call 88;(refine(HR.o _).mono ?_);rintro e w7 ⟨rfl,a⟩;have v:=Z1 (D.o.up a);clear a d f g i j m;obtain⟨d,f,g,i,j,m⟩:=bi v.o.D8)|(go_at_call 87;(refine(ab.o _ v.o.below).mono ?_);rintro e w8 ⟨rfl,a⟩;have F:=Z1 (v.o.up a);clear a d f g i j m;obtain⟨d,f,g,i,j,m⟩:=bi F.o.D8)|(go_at_call 89;(refine(ao.o _).mono ?_);rintro e w9 ⟨rfl,a⟩;have G:=Z1 (F.o.up a);clear a d f g i j m;obtain⟨d,f,g,i,j,m⟩:=bi G.o.D8)|(go_at_call 134;(refine(z.o _).mono ?_);rintro e ba ⟨rfl,a⟩;have t:=Z1 (G.o.up a);clear a d f g i j m;obtain⟨d,f,g,i,j,m⟩:=bi t.o.D8;obtain⟨⟨k0,k1,k2,k3,k4⟩,f0,f1,f2,f3,f4⟩:=eO t.o.res))
  obtain⟨x,aj⟩:=km t.o.res (I O) (I b) (I P) (I th) (I wy);rw[N.o];exact OH (cx gu rfl x rfl _ rfl) rfl ⟨rfl,aj.below t.o.below zO⟩
 |true=>
  have e0:(if(true=true)then r else wl)=r:=rfl;rw[e0]at z N;clear e0;generalize pw p Q r r th=wy at*
  go_wp2_with (first|(go_at_call 132;(refine(HW.o _).mono ?_);rintro e w5 ⟨rfl,a⟩;have B:=Z1 (ag.o.up a);clear a d f g i j m;obtain⟨d,f,g,i,j,m⟩:=bi B.o.D8)|(go_at_call 133;(refine(HN.o _).mono ?_);rintro e w6 ⟨rfl,a⟩;have D:=Z1 (B.o.up a);clear a d f g i j m;obtain⟨d,f,g,i,j,m⟩:=bi D.o.D8)|(go_at_call 88;(refine(HR.o _).mono ?_);rintro e w7 ⟨rfl,a⟩;have v:=Z1 (D.o.up a);clear a d f g i j m;obtain⟨d,f,g,i,j,m⟩:=bi v.o.D8)|(go_at_call 87;(refine(ab.o _ v.o.below).mono ?_);rintro e w8 ⟨rfl,a⟩;have F:=Z1 (v.o.up a);clear a d f g i j m;obtain⟨d,f,g,i,j,m⟩:=bi F.o.D8)|(go_at_call 89;(refine(ao.o _).mono ?_);rintro e w9 ⟨rfl,a⟩;have G:=Z1 (F.o.up a);clear a d f g i j m;obtain⟨d,f,g,i,j,m⟩:=bi G.o.D8)|(go_at_call 134;(refine(z.o _).mono ?_);rintro e ba ⟨rfl,a⟩;have t:=Z1 (G.o.up a);clear a d f g i j m;obtain⟨d,f,g,i,j,m⟩:=bi t.o.D8;obtain⟨⟨k0,k1,k2,k3,k4⟩,f0,f1,f2,f3,f4⟩:=eO t.o.res))
  obtain⟨x,aj⟩:=km t.o.res (I O) (I b) (I P) (I th) (I wy);rw[N.o];exact OH (cx gu rfl x rfl _ rfl) rfl ⟨rfl,aj.below t.o.below zO⟩
section
open Go.Shelf Go.WideShapes Go.ChangeShapes Go.Deep
set_option maxRecDepth 100000
def xJ(t:Tr)(x:Ev)(p:Nat)(w:World)(hx:cV x)(hb:Blk w p 151 t.arr)(hn:0<=t.nth/\t.nth<=1000000):
  C 71 #[Z p 0,.agg x.cs] w λe w'=>e=.returned (.bool (t.ok x))/\Blk w' p 151 (t.next x).arr/\ag (λj=>j=p) w w':=by
 have s:=eu (w:=w) (t:=79) hx.c0;have c2:=eu (w:=w) (t:=79) hx.c2;have R:=eu (w:=w) (t:=79) hx.Q7;have S:=eu (w:=w) (t:=79) hx.Q8;have a7:=hb.lt;have m:=hb.alloc (.cells x.cs 79);have bx:=Blk.A8 w 79 x.cs rfl;have hK:=ag.B5 (L:=λj=>j=p) (zh w (.cells x.cs 79));have F:=Z1 hx;clear hb hx;obtain⟨cs,a,c,nth,h,i⟩:=x;obtain⟨tn,d,k,g⟩:=t;have b:=Z3 m bx hK;have G:=m.cell 0;have v:=m.cell 1;have H:=m.cell 2;have N:=m.cell 3;have f0:=m.frozen 0;have X:=m.frozen 1;have f2:=m.frozen 2;have f3:=m.frozen 3;simp[Tr.arr]at G v H N;simp only at s c2 R S hn;clear m bx hK
 go_in
 go_upto_block 0 with fail
 generalize w.alloc (.cells cs 79)=W1 at*;go_cut [5] (λs5 wx=>s5=.bool (Tr.is ⟨tn,d,k,g⟩ ⟨cs,a,c,nth,h,i⟩)/\Hid (Blk wx p 151 (Tr.D5 ⟨tn,d,k,g⟩ ⟨cs,a,c,nth,h,i⟩)/\Blk wx w.heap.size 79 cs/\ag (λj=>j=p) w wx))
 case first=>
  rcases Dg a with rfl|rfl|rfl|rfl|rfl|rfl|rfl|⟨k1,y,k3,k4,k5,k6,k7⟩
  ·by_cases f:d=0
   ·subst f;go_wp2;go_meet;refine⟨by simp[Tr.is],Z1 ⟨by simpa[Tr.D5,Tr.next,Tr.arr]using b.o.1,b.o.2.1,b.o.2.2⟩⟩
   ·by_cases l:d=3
    ·subst l;go_wp2;go_meet;refine⟨by simp[Tr.is],Z1 ⟨by simpa[Tr.D5,Tr.next,Tr.arr]using b.o.1.B4 0 (I (tn+1)),b.o.2.1.D1 (p:=Y p 0) (by show w.heap.size≠p;omega) _,b.o.2.2.setCell (p:=Y p 0) (.inl rfl) _⟩⟩
    ·have u:(d==0)=false:=by simp[f]
     have m1:(d==3)=false:=by simp[l]
     go_wp2;go_meet;refine⟨by simp[Tr.is,f,l],Z1 ⟨by simpa[Tr.D5,Tr.next,Tr.arr,f,l]using b.o.1,b.o.2.1,b.o.2.2⟩⟩
  ·by_cases f:d=1
   ·subst f;go_wp2;go_meet;refine⟨by simp[Tr.is],Z1 ⟨by simpa[Tr.D5,Tr.next,Tr.arr]using b.o.1,b.o.2.1,b.o.2.2⟩⟩
   ·have u:(d==1)=false:=by simp[f]
    go_wp2;go_meet;refine⟨by simp[Tr.is,f],Z1 ⟨by simpa[Tr.D5,Tr.next,Tr.arr,f]using b.o.1,b.o.2.1,b.o.2.2⟩⟩
  ·by_cases f:d=2
   ·subst f;go_wp2;go_meet;refine⟨by simp[Tr.is],Z1 ⟨by simpa[Tr.D5,Tr.next,Tr.arr]using b.o.1,b.o.2.1,b.o.2.2⟩⟩
   ·have u:(d==2)=false:=by simp[f]
    go_wp2;go_meet;refine⟨by simp[Tr.is,f],Z1 ⟨by simpa[Tr.D5,Tr.next,Tr.arr,f]using b.o.1,b.o.2.1,b.o.2.2⟩⟩
  ·by_cases f:d=0
   ·subst f;go_wp2;go_meet;refine⟨by simp[Tr.is],Z1 ⟨by simpa[Tr.D5,Tr.next,Tr.arr]using (b.o.1.B4 2 (E h)).B4 3 (E i),(b.o.2.1.D1 (p:=Y p 2) (by show w.heap.size≠p;omega) _).D1 (p:=Y p 3) (by show w.heap.size≠p;omega) _,(b.o.2.2.setCell (p:=Y p 2) (.inl rfl) _).setCell (p:=Y p 3) (.inl rfl) _⟩⟩
   ·by_cases l:d=7
    ·subst l;go_wp2;go_meet;refine⟨by simp[Tr.is],Z1 ⟨by simpa[Tr.D5,Tr.next,Tr.arr]using (b.o.1.B4 2 (E h)).B4 3 (E i),(b.o.2.1.D1 (p:=Y p 2) (by show w.heap.size≠p;omega) _).D1 (p:=Y p 3) (by show w.heap.size≠p;omega) _,(b.o.2.2.setCell (p:=Y p 2) (.inl rfl) _).setCell (p:=Y p 3) (.inl rfl) _⟩⟩
    ·have u:(d==0)=false:=by simp[f]
     have m1:(d==7)=false:=by simp[l]
     go_wp2;go_meet;refine⟨by simp[Tr.is,f,l],Z1 ⟨by simpa[Tr.D5,Tr.next,Tr.arr]using (b.o.1.B4 2 (E h)).B4 3 (E i),(b.o.2.1.D1 (p:=Y p 2) (by show w.heap.size≠p;omega) _).D1 (p:=Y p 3) (by show w.heap.size≠p;omega) _,(b.o.2.2.setCell (p:=Y p 2) (.inl rfl) _).setCell (p:=Y p 3) (.inl rfl) _⟩⟩
  ·by_cases f:d=4
   ·subst f;go_wp2;go_meet;refine⟨by simp[Tr.is],Z1 ⟨by simpa[Tr.D5,Tr.next,Tr.arr]using b.o.1,b.o.2.1,b.o.2.2⟩⟩
   ·have u:(d==4)=false:=by simp[f]
    go_wp2;go_meet;refine⟨by simp[Tr.is,f],Z1 ⟨by simpa[Tr.D5,Tr.next,Tr.arr,f]using b.o.1,b.o.2.1,b.o.2.2⟩⟩
  ·by_cases f:d=5
   ·subst f;go_wp2;go_meet;refine⟨by simp[Tr.is],Z1 ⟨by simpa[Tr.D5,Tr.next,Tr.arr]using b.o.1,b.o.2.1,b.o.2.2⟩⟩
   ·have u:(d==5)=false:=by simp[f]
    go_wp2;go_meet;refine⟨by simp[Tr.is,f],Z1 ⟨by simpa[Tr.D5,Tr.next,Tr.arr,f]using b.o.1,b.o.2.1,b.o.2.2⟩⟩
  ·by_cases f:d=5
   ·subst f;go_wp2;go_meet;refine⟨by simp[Tr.is],Z1 ⟨by simpa[Tr.D5,Tr.next,Tr.arr]using b.o.1,b.o.2.1,b.o.2.2⟩⟩
   ·by_cases l:d=6
    ·subst l;go_wp2;go_meet;refine⟨by simp[Tr.is],Z1 ⟨by simpa[Tr.D5,Tr.next,Tr.arr]using b.o.1,b.o.2.1,b.o.2.2⟩⟩
    ·have u:(d==5)=false:=by simp[f]
     have m1:(d==6)=false:=by simp[l]
     go_wp2;go_meet;refine⟨by simp[Tr.is,f,l],Z1 ⟨by simpa[Tr.D5,Tr.next,Tr.arr,f,l]using b.o.1,b.o.2.1,b.o.2.2⟩⟩
  ·have m1:(a==1)=false:=by simp[k1]
   have m2:(a==2)=false:=by simp[y]
   have m3:(a==3)=false:=by simp[k3]
   have m4:(a==4)=false:=by simp[k4]
   have m5:(a==5)=false:=by simp[k5]
   have m6:(a==6)=false:=by simp[k6]
   have m7:(a==7)=false:=by simp[k7]
   go_wp2;go_meet;refine⟨by simp[Tr.is,k1,y,k3,k4,k5,k6,k7],Z1 ⟨by simpa[Tr.D5,Tr.next,Tr.arr,k1,k4]using b.o.1,b.o.2.1,b.o.2.2⟩⟩
 case rest=>
  obtain⟨rfl,O⟩:=hcut;have n:=O.o.1;have z:=O.o.2.1;have al:(Tr.next ⟨tn,d,k,g⟩ ⟨cs,a,c,nth,h,i⟩).last=a:=rfl;have T:Tr.ok ⟨tn,d,k,g⟩ ⟨cs,a,c,nth,h,i⟩=(Tr.is ⟨tn,d,k,g⟩ ⟨cs,a,c,nth,h,i⟩&&(nth==(Tr.next ⟨tn,d,k,g⟩ ⟨cs,a,c,nth,h,i⟩).nth&&(h==(Tr.next ⟨tn,d,k,g⟩ ⟨cs,a,c,nth,h,i⟩).hi&&i==(Tr.next ⟨tn,d,k,g⟩ ⟨cs,a,c,nth,h,i⟩).lo))):=rfl;have A:Tr.D5 ⟨tn,d,k,g⟩ ⟨cs,a,c,nth,h,i⟩=#[I (Tr.next ⟨tn,d,k,g⟩ ⟨cs,a,c,nth,h,i⟩).nth,I d,E (Tr.next ⟨tn,d,k,g⟩ ⟨cs,a,c,nth,h,i⟩).hi,E (Tr.next ⟨tn,d,k,g⟩ ⟨cs,a,c,nth,h,i⟩).lo]:=rfl;rw[A]at n;clear s c2 R S G v H N f0 X f2 f3 A;have b2:=n.B4 1 (I a);have x2:=z.D1 (p:=Y p 1) (by show w.heap.size≠p;omega) (I a);have y:=O.o.2.2.setCell (p:=Y p 1) (.inl rfl) (I a);have X:=n.frozen 1;have v:=n.cell 1;have q0:=z.cell 0;have s:=F.o.c0;simp only at s;rw[s]at q0;simp at v;have q:=Z4 T b2 x2 y;clear s T b2 x2 y n z al;generalize Tr.is ⟨tn,d,k,g⟩ ⟨cs,a,c,nth,h,i⟩=ap at*;go_upto_region 21 with fail
  have U:(Tr.next ⟨tn,d,k,g⟩ ⟨cs,a,c,nth,h,i⟩).arr=#[I (Tr.next ⟨tn,d,k,g⟩ ⟨cs,a,c,nth,h,i⟩).nth,I a,E (Tr.next ⟨tn,d,k,g⟩ ⟨cs,a,c,nth,h,i⟩).hi,E (Tr.next ⟨tn,d,k,g⟩ ⟨cs,a,c,nth,h,i⟩).lo]:=rfl;have aq:=Z1 U;clear U X q0 v;have B:=q.o.2.1;have P:=q.o.2.2.1;have r:=Z1 q.o.1;have ar:=Z1 q.o.2.2.2;clear q;generalize (Tr.next ⟨tn,d,k,g⟩ ⟨cs,a,c,nth,h,i⟩).nth=nn at*;generalize (Tr.next ⟨tn,d,k,g⟩ ⟨cs,a,c,nth,h,i⟩).hi=hh at*;generalize (Tr.next ⟨tn,d,k,g⟩ ⟨cs,a,c,nth,h,i⟩).lo=ll at*;clear O;generalize (wc.setCell (Y p 1) (I a))=w2 at*;have G:=B.cell 0;have H:=B.cell 2;have N:=B.cell 3;have u2:=(P.cell 2).trans F.o.c2;have au:=(P.cell 27).trans F.o.Q7;have av:=(P.cell 28).trans F.o.Q8;simp at G H N u2 au av;have b4:=B;have ax:=Z1 b4;clear B P b4;have a8:=qj h i hh ll;have D:∀W Q,W=w2.drewN Q->Blk W p 151 (Tr.next ⟨tn,d,k,g⟩ ⟨cs,a,c,nth,h,i⟩).arr/\ag (λj=>j=p) w W:=λW Q e=>by
   rw[e,aq.o];exact⟨ax.o.drewN Q,ar.o.drewN Q⟩
  have HF:=Z1 D;clear D
  cases ap with
  |false=>
   go_quiet (fail);go_wp2;go_ret;exact⟨by rw[r.o];rfl,HF.o _ _ rfl⟩
  |true=>
   cases he:(nth==nn)with
   |false=>
    go_quiet (fail);go_wp2;go_ret;exact⟨by rw[r.o,he];rfl,HF.o _ _ rfl⟩
   |true=>
    go_quiet (fail);go_wp2;go_ret;exact⟨by rw[r.o,he];rfl,HF.o _ _ rfl⟩
def sU(l:List Ev)(A:Option Addr)(c n:Nat)(w:World)(ho:∀e∈l,cV e)(hr:an w w.heap.size 34 A n (evs l))(hl:n<=100000):
  Calls prog 26 #[.slice A n c] w λe w'=>e=.returned (.bool (ix l))/\Below w.heap.size w w':=by
 have hn:=kA ho hr;have HN:=Z1 hn;have HO:=Z1 ho;have ap:=@run_makeMap prog;have hz:∀w,(zeroValue 151).run prog w=.ok (.agg Tr.zero.arr) w:=λw=>by kernel_rfl
 have HZ:=Z1 hz;have aa:=World.ownsMap_made (H:=Unit) w prog 3 Rtr;clear hn ho hz
 go_in
 go_wp2;clear ap;go_loopw [10] (λi wr=>∃(k:Nat),k<=n/\i=.int .i64 k/\Hid (∃D tr,Trk prog 3 wr w.heap.size k tr D/\ix l=fy tr (l.drop k)/\(∀q,0<=(tr q).nth/\(tr q).nth<=k)/\Below w.heap.size w wr)) (λi _=>n-(intOf i).toNat)
 case atStart=>exact⟨0,OK _,rfl,Z1 ⟨_,λ_=>Tr.zero,⟨aa,λq=>rfl⟩,rfl,λq=>by simp[Tr.zero],ae (Oy _ _) _⟩⟩
 case round=>
  obtain⟨k,hk,rfl,HW⟩:=hrel;clear aa;obtain⟨D,tr,L,F,T,N⟩:=HW.o;by_cases bb:k<n
  ·have O:k<l.length:=by have:=HN.o;omega
   obtain⟨b,o,rfl,_,hc⟩:=mw HO.o (hr.below N) O;have G:=HO.o _ (OR O);have s:=AF (tr:=tr) O;generalize l[k]=x at*;rw[s]at F;have ab:=dw hc;have c1:=eu (w:=wr) (t:=79) G.c1;have m:=Maps.keyOf_int_mk underlying3 (by have:=G.Q0;unfold aq at this;simpa[Lit.wf,IntKind.min,IntKind.max,IntKind.signed,IntKind.bits]using this);obtain⟨v,ps,aw,hv⟩:=(L.own.alloc (.cells x.cs 79)).lookup (Maps.int_keyed underlying3) underlying149 (HZ.o _) (BB Tr.zero) m;rw[L.at_]at hv;obtain rfl:=Mo hv;have a:=Z9 G.size G.all ab L F T N G m;have HR:=Z1 hr;have bc:=T x.task;clear hc ab s L F T N G hv m HW hr;have a2:(k:Int)<(n:Int):=by omega
   have u:=(Blk.A8 wr 79 x.cs rfl).alloc (.cells (tr x.task).arr 151);have ac:=Blk.A8 (wr.alloc (.cells x.cs 79)) 151 (tr x.task).arr (g:=wr.heap.size+1) (by simp);have ax:=(u.cell 1).trans a.o.2.2.2.2.2.2.2.1.c1;have P:=Z3 u ac (bQ u);clear u ac;have d:=Z1 (show(tr x.task).arr.size=4/\((tr x.task).arr.all λv=>v.oneCell')=true from⟨rfl,by simp[Tr.arr,Value.oneCell']⟩);have h:kU tr x=((decide (0<=x.task)&&decide (x.task<32))&&(tr x.task).ok x):=rfl;have Q:=Z1 h;clear h;have R:Below w.heap.size w ((wr.alloc (.cells x.cs 79)).alloc (.cells (tr x.task).arr 151)):=ae (ae a.o.2.2.2.2.2.2.1 _) _;have f:=Z1 R;clear R;by_cases h0:x.task<0
   ·go_wp2_with (first|(refine aG ba rfl (.tmp 12) rfl ⟨b,o+k*34,none⟩ (by rfl) x.cs a.o.1 a.o.2.2.1 ?_)|(refine aS ba rfl rfl ?_)|(refine aS kV rfl rfl ?_)|(refine aT ba rfl (.tmp 5) (.tmp 13) rfl _ rfl (by rfl) x.cs _ (by rfl) _ a.o.1 ba.D6 a.o.2.1 ?_)|(refine aT kV rfl (.tmp 6) (.tmp 17) rfl _ rfl (by rfl) (tr x.task).arr _ (by rfl) _ d.o.1 kV.D6 d.o.2 ?_))
    go_ret;refine⟨cN ?_,f.o⟩;rw[a.o.2.2.2.2.1,Q.o];simp;omega
   ·by_cases h1:32<=x.task
    ·go_wp2_with (first|(refine aG ba rfl (.tmp 12) rfl ⟨b,o+k*34,none⟩ (by rfl) x.cs a.o.1 a.o.2.2.1 ?_)|(refine aS ba rfl rfl ?_)|(refine aS kV rfl rfl ?_)|(refine aT ba rfl (.tmp 5) (.tmp 13) rfl _ rfl (by rfl) x.cs _ (by rfl) _ a.o.1 ba.D6 a.o.2.1 ?_)|(refine aT kV rfl (.tmp 6) (.tmp 17) rfl _ rfl (by rfl) (tr x.task).arr _ (by rfl) _ d.o.1 kV.D6 d.o.2 ?_))
     go_ret;refine⟨cN ?_,f.o⟩;rw[a.o.2.2.2.2.1,Q.o];simp;omega
    ·go_wp2_with (first|(refine aG ba rfl (.tmp 12) rfl ⟨b,o+k*34,none⟩ (by rfl) x.cs a.o.1 a.o.2.2.1 ?_)|(refine aS ba rfl rfl ?_)|(refine aS kV rfl rfl ?_)|(refine aT ba rfl (.tmp 5) (.tmp 13) rfl _ rfl (by rfl) x.cs _ (by rfl) _ a.o.1 ba.D6 a.o.2.1 ?_)|(refine aT kV rfl (.tmp 6) (.tmp 17) rfl _ rfl (by rfl) (tr x.task).arr _ (by rfl) _ d.o.1 kV.D6 d.o.2 ?_)|(refine fh ba (by rfl) (.tmp 5) rfl ⟨wr.heap.size,0,none⟩ (by rfl) x.cs a.o.1 P.o.2.2 ?_))
     refine(xJ (tr x.task) x (wr.heap.size+1) _ a.o.2.2.2.2.2.2.2.1 P.o.2.1 (by omega)).mono ?_;rintro e w1 ⟨rfl,ad,y⟩;have h:kU tr x=(tr x.task).ok x:=by
      rw[Q.o];simp;omega
     have z:=f.o.trans (y.below (B:=w.heap.size) f.o.size λj hj=>by have:=a.o.2.2.2.2.2.2.1.size;omega);have p:=y.B0 P.o.1 (by omega);have r:=Z5 h z (bQ ad) y p;have e1:=(p.cell 1).trans a.o.2.2.2.2.2.2.2.1.c1;clear h z ad y p c1 ax aw
     cases hk9:(tr x.task).ok x with
     |false=>
      go_wp2;go_ret;refine⟨cN ?_,r.o.2.1⟩;rw[a.o.2.2.2.2.1,r.o.1,hk9];rfl
     |true=>
      have af:=a.o.2.2.2.1.own.alloc (.cells x.cs 79);have ag:=af.alloc (.cells (tr x.task).arr 151);have a4:=a.o.2.2.2.1.own.lt;have ah:w1.ownsMap prog 3 Rtr w.heap.size k D:=by
       obtain⟨es,U,he,q1,q2,q3⟩:=ag;exact⟨es,U,(r.o.2.2.2.1.block _ (by simp;omega) (by omega)).trans he,q1,q2,q3⟩
      have ay:=Z1 ah;clear af ag ah
      go_wp2_with (first|(refine aG kV rfl (.tmp 6) rfl ⟨wr.heap.size+1,0,none⟩ (by rfl) ((tr x.task).next x).arr rfl r.o.2.2.1 ?_)|(at_mapUpdate;refine wpList_mapUpdate_own _ rfl _ _ _ 149 rfl 3 151 (Maps.int_keyed underlying3) underlying149 Rtr w.heap.size k D rfl ay.o (by unfold maxLen;omega) _ _ (.int .i64 x.task) rfl rfl a.o.2.2.2.2.2.2.2.2 (lR ((tr x.task).next x)) [] (BB _) ?_;intro w2 X S))
      go_roundw
      case rel=>exact⟨k+1,by omega,by go_num,Z1 ⟨_,cT tr x,a.o.2.2.2.1.put x X,by rw[a.o.2.2.2.2.1,r.o.1,hk9];rfl,λq=>JK a.o.2.2.2.2.2.1 x q,r.o.2.1.grown S r.o.2.1.size λj hj=>by injection hj with hj;omega⟩⟩
      case measure=>simp[intOf];omega
  ·obtain rfl:k=n:=by omega
   have hf:l.drop k=[]:=Pt (by have:=HN.o;omega);rw[hf]at F;have ai:=Z2 F N;clear F N L T hf;go_wp2;go_ret;exact⟨cN (by rw[ai.o.1];rfl),ai.o.2⟩
end
section
variable {R:Rf}
def cR(R:Rf)(t:Int):Option Bool:=if t∈R.wr then some true else if t∈R.rd then some false else ap R.line t
def Ms(h:t∈R.wr):bS R t=2:=OB h
def lX:bS R t=0↔t∉R.wr/\t∉R.rd:=by
 unfold bS;by_cases h:t∈R.wr
 ·simp[h]
 ·by_cases a:t∈R.rd<;>simp[h,a]
def jV:cR R t=none↔bS R t=0/\t∉R.line.map (·.1):=by
 rw[lX];unfold cR;by_cases h:t∈R.wr
 ·simp[h]
 ·by_cases a:t∈R.rd
  ·simp[h,a]
  ·rw[Oz h,Oz a,gz];simp[h,a]
def Dj(h:bS R t≠0):cR R t≠none:=λe=>h (jV.1 e).1
def Ga(hA:gh R)(h:bS R t≠0)(hc:cR R t=some true):bS R t=2:=by
 by_cases a:t∈R.wr
 ·exact Ms a
 ·by_cases b:t∈R.rd
  ·unfold cR at hc;rw[Oz a,OB b]at hc
   cases hc
  ·exact absurd (lX.2 ⟨a,b⟩) h
def Gb(u:Int):cR .zero u=none:=by simp[cR,Rf.zero,ap]
def vk{κ α:Type}[DecidableEq κ](l:List (κ×α))(x y:κ)(v:α):ap (l++[(x,v)]) y=match ap l y with|some z=>some z|none=>if x=y then some v else none:=by
 induction l with
 |nil=>simp[ap]
 |cons e r ih=>
  simp only[PY,ap];by_cases h:e.1=y
  ·simp[h]
  ·rw[Oz h,Oz h,ih]
def Gc(hA:gh R)(ht:0<=t/\t<32)(hn:cR R t=none)(b:Bool):
  cR (ip R t b).1 t=some b/\(bS (ip R t b).1 t≠0↔(ip R t b).2.1=true)/\∀u,u≠t->cR (ip R t b).1 u=cR R u/\bS (ip R t b).1 u=bS R u:=by
 obtain⟨c,e⟩:=jV.1 hn;obtain⟨d,g⟩:=lX.1 c;unfold ip;rw[Oz zO,Oz (by simp only[c];simp only[ne_eq,not_true_eq_false,false_or];exact e)];by_cases f:R.line=[]/\jL R b=true
 ·rw[OB f]
  cases b with
  |true=>
   refine⟨?_,?_,λu a=>?_⟩
   ·simp[cO,cR]
   ·simp[cO,bS]
   ·simp[cO,cR,bS,a]
  |false=>
   refine⟨?_,?_,λu a=>?_⟩
   ·simp[cO,cR,d]
   ·simp[cO,bS,d]
   ·simp[cO,cR,bS,a]
 ·rw[Oz f];refine⟨?_,?_,λu a=>?_⟩
  ·unfold cR;rw[Oz d,Oz g,vk,gz.2 e];simp
  ·have:bS {R with line:=R.line++[(t,b)]} t=0:=c;simp[this]
  ·refine⟨?_,rfl⟩;unfold cR;simp only[vk];rw[Oz (Pc a)]
   cases ap R.line u<;>rfl
def JN(ln:List (Int×Bool)):∀(rd wr:List Int),(∀t∈ln.map (·.1),t∉rd/\t∉wr)->(ln.map (·.1)).Nodup->∀u,cR (fi ln rd wr).1 u=cR ⟨rd,wr,ln⟩ u/\(bS ⟨rd,wr,[]⟩ u≠0->bS (fi ln rd wr).1 u=bS ⟨rd,wr,[]⟩ u):=by
 induction ln with
 |nil=>intro rd wr f b u;exact⟨rfl,λ_=>rfl⟩
 |cons y ln ih=>
  intro rd wr f b u;rw[fi];split
  ·simp only[Pi,QB]at b;obtain⟨g,h⟩:=f y.1 zS;have k:∀t∈ln.map (·.1),t∉(cO ⟨rd,wr,ln⟩ y).rd/\t∉(cO ⟨rd,wr,ln⟩ y).wr:=λt j=>by
    obtain⟨l,m⟩:=f t (by simp only[Pi,Pj];exact .inr j);exact uF (x:=⟨rd,wr,ln⟩) l m (λe=>b.1 (e▸j))
   obtain⟨n,o⟩:=ih _ _ k b.2 u;refine⟨n.trans ?_,λi=>?_⟩
   ·obtain⟨c,a⟩:=y;have q:=b.1;by_cases d:u=c
    ·subst d
     cases a<;>simp[cO,cR,ap,g,h,g,h]<;>simp_all
    ·cases a<;>simp[cO,cR,ap,d,Pc d]
   ·obtain⟨c,a⟩:=y;have d:u≠c:=λe=>by
     subst e;exact i (lX.2 ⟨h,g⟩)
    have p:bS ⟨(cO ⟨rd,wr,ln⟩ (c,a)).rd,(cO ⟨rd,wr,ln⟩ (c,a)).wr,[]⟩ u=bS ⟨rd,wr,[]⟩ u:=by
     cases a<;>simp[cO,bS,d]
    rw[<-p]at i ⊢;exact o i
  ·exact⟨rfl,λ_=>rfl⟩
def kB{l:List Int}{u:Int}:u∈jM l t↔u∈l/\u≠t:=by
 unfold jM;rw[Pp];simp
def Dk(hA:gh R)(hh:bS R t≠0):
  cR (iH R t).1 t=none/\∀u,u≠t->cR (iH R t).1 u=cR R u/\(bS R u≠0->bS (iH R t).1 u=bS R u):=by
 have g:t∉R.line.map (·.1):=λe=>by
  obtain⟨b,c⟩:=hA.apart t e;exact hh (lX.2 ⟨c,b⟩)
 have h:∀u∈R.line.map (·.1),u∉jM R.rd t/\u∉jM R.wr t:=λu a=>by
  obtain⟨b,c⟩:=hA.apart u a;exact⟨λe=>b (kB.1 e).1,λe=>c (kB.1 e).1⟩
 have d:=JN R.line _ _ h hA.nodup;refine⟨?_,λu a=>?_⟩
 ·unfold iH;rw[(d t).1,jV,lX];exact⟨⟨λe=>(kB.1 e).2 rfl,λe=>(kB.1 e).2 rfl⟩,g⟩
 ·unfold iH;refine⟨(d u).1.trans ?_,λf=>?_⟩
  ·simp[cR,kB,a]
  ·have i:bS ⟨jM R.rd t,jM R.wr t,[]⟩ u=bS R u:=by simp[bS,kB,a]
   rw[<-i]at f ⊢;exact(d u).2 f
def UJ(hA:gh R)(hc:cR R t≠none)(hh:bS R t=0):∃u,u≠t/\bS R u≠0:=by
 have d:R.line≠[]:=λe=>by
  apply hc;rw[jV,e];exact⟨hh,zS⟩
 by_cases b:R.rd=[]
 ·by_cases c:R.wr=[]
  ·exact absurd (hA.idle b c) d
  ·obtain⟨u,r,e⟩:=Vd c;have:bS R u≠0:=by rw[Ms (by simp[e])];decide
   exact⟨u,λa=>by rw[a]at this;exact this hh,this⟩
 ·obtain⟨u,r,e⟩:=Vd b;have:bS R u≠0:=λa=>(lX.1 a).2 (by simp[e]);exact⟨u,λa=>by rw[a]at this;exact this hh,this⟩
def Gd:∀(l:List Int),l.Nodup->(∀x∈l,0<=x/\x<n)->l.length<=n:=by
 induction n with
 |zero=>
  intro l _ h
  cases l with
  |nil=>exact OA _
  |cons x r=>have:=h x zS;omega
 |succ n ih=>
  intro l b h;have c:=ih (l.filter λx=>x≠(n:Int)) (b.filter _) λx a=>by
   rw[Pp]at a;have f:=h x a.1;have g:x≠(n:Int):=by simpa using a.2
   omega
  have i:l.length<=(l.filter λx=>x≠(n:Int)).length+1:=by
   clear h c ih;induction l with
   |nil=>simp
   |cons x r ih=>
    rw[QB]at b;by_cases a:x=(n:Int)
    ·have e:r.filter (λx=>x≠(n:Int))=r:=by
      rw[QR];intro y d;simp only[ne_eq,decide_not,Sl,decide_eq_false_iff_not];exact λe=>b.1 (by rw[a,<-e];exact d)
     simp only[OC];rw[QP (by simp[a]),e];omega
    ·rw[QO (by simpa using a)];have:=ih b.2;simp only[OC];omega
  omega
def gh.E5(hA:gh R)(h:∀u,cR R u≠none->0<=u/\u<32):R.line.length<=32:=by
 have a:=Gd 32 (R.line.map (·.1)) hA.nodup λx b=>h x λe=>(jV.1 e).2 b
 simpa using a
def xK{g:Gs}(h:g.E4.length=s+1)(R:Rf){n:Nat}(hn:n<s+2)(hm:m<s+2):(g.E1 n R).lock m=if m=n then R else g.lock m:=by
 unfold Gs.E1 Gs.lock;simp only[PH];by_cases b:n<g.E4.length
 ·simp only[OB b,PI];by_cases a:m<g.E4.length
  ·simp only[OB a,OP,Qo];by_cases c:m=n
   ·subst c;simp[b]
   ·simp[c,Pc c]
  ·rw[Oz a,Oz a,Oz zO]
 ·simp only[Oz b];by_cases a:m<g.E4.length
  ·rw[OB a,OB a,Oz zO]
  ·rw[Oz a,OB zO]
def xL(g:Gs)(n:Int)(R:Rf):(g.E1 n R).E4.length=g.E4.length:=by
 unfold Gs.E1;split<;>simp
def lock_ln{g:Gs}(h:g.E4.length=s+1):g.lock ((s:Int)+1)=g.ln:=by
 unfold Gs.lock;rw[Oz zO]
end
def dv(w:World)(A:Option Addr)(n:Nat)(ps:List (List Cl)):Prop:=
 ∃vs:List Value,an w w.heap.size 1 A n vs/\n=ps.length/\∀(i:Nat) (h:i<ps.length),∃A' c,vs[i]?=some (.slice A' ps[i].length c)/\ps[i].length<=c/\c<=maxLen/\an w w.heap.size 11 A' ps[i].length (cls ps[i])
def dv.up{w w':World}{A:Option Addr}{n:Nat}(h:dv w A n ps)(hb:M w w'):dv w' A n ps:=by
 obtain⟨a,b,d,e⟩:=h;refine⟨a,b.up hb,d,λi f=>?_⟩;obtain⟨g,c,j,k,l,m⟩:=e i f;exact⟨g,c,j,k,l,m.up hb⟩
def dv.len{w:World}{A:Option Addr}{n:Nat}(h:dv w A n ps):n=ps.length:=by
 obtain⟨b,c,a,d⟩:=h;exact a
def dv.at_{w:World}{A:Option Addr}{n:Nat}(h:dv w A n ps)(hi:i<ps.length):
  ∃ad A' c,A=some ad/\ad.block<w.heap.size/\w.cell? (ad.add i)=some (.slice A' ps[i].length c)/\ps[i].length<=c/\c<=maxLen/\an w w.heap.size 11 A' ps[i].length (cls ps[i]):=by
 obtain⟨p,b,q,d⟩:=h;obtain⟨A',c,e,f,g,j⟩:=d i hi;obtain⟨ad,u,l,m,a,o⟩:=b.at_ (k:=i) zO;rw[e]at a;injection a with a;subst a;exact⟨ad,A',c,l,m,o,f,g,j⟩
def cj(st sa lo hi:Int)(ps:List (List Cl))(wk:Int):Int:=
 if cA st sa lo hi=false\/wk<0\/32<wk\/(ps.length:Int)+wk<1\/32<(ps.length:Int)+wk then 1 else if ps.all (λp=>decide (p.length<=256))=true then 0 else 12
def qW(ps:List (List Cl))(wk:Int):(cA st sa lo hi=false/\cj st sa lo hi ps wk=1)\/(cA st sa lo hi=true/\wk<0/\cj st sa lo hi ps wk=1)\/
  (cA st sa lo hi=true/\¬wk<0/\32<wk/\cj st sa lo hi ps wk=1)\/(cA st sa lo hi=true/\¬wk<0/\¬32<wk/\(ps.length:Int)+wk<1/\cj st sa lo hi ps wk=1)\/
  (cA st sa lo hi=true/\¬wk<0/\¬32<wk/\¬(ps.length:Int)+wk<1/\32<(ps.length:Int)+wk/\cj st sa lo hi ps wk=1)\/
  (cA st sa lo hi=true/\¬wk<0/\¬32<wk/\¬(ps.length:Int)+wk<1/\¬32<(ps.length:Int)+wk/\cj st sa lo hi ps wk=if ps.all (λp=>decide (p.length<=256))=true then 0 else 12):=by
 unfold cj
 cases h0:cA st sa lo hi with
 |false=>exact .inl ⟨rfl,OB (.inl rfl)⟩
 |true=>
  refine .inr ?_;by_cases a:wk<0
  ·exact .inl ⟨rfl,a,OB (.inr (.inl a))⟩
  refine .inr ?_;by_cases b:32<wk
  ·exact .inl ⟨rfl,a,b,OB (.inr (.inr (.inl b)))⟩
  refine .inr ?_;by_cases c:(ps.length:Int)+wk<1
  ·exact .inl ⟨rfl,a,b,c,OB (.inr (.inr (.inr (.inl c))))⟩
  refine .inr ?_;by_cases d:32<(ps.length:Int)+wk
  ·exact .inl ⟨rfl,a,b,c,d,OB (.inr (.inr (.inr (.inr d))))⟩
  ·refine .inr ⟨rfl,a,b,c,d,Oz ?_⟩;rintro(h|h|h|h|h)
   ·cases h
   all_goals contradiction
def GL{k:Nat}(hk:k<ps.length)(h:¬ps[k].length<=256):ps.all (λp=>decide (p.length<=256))=false:=by
 cases h2:ps.all (λp=>decide (p.length<=256))
 ·rfl
 ·rw[QT]at h2;have:=h2 _ (OR hk);simp at this;omega
def BN(h:∀(j:Nat) (hj:j<ps.length),ps[j].length<=256):ps.all (λp=>decide (p.length<=256))=true:=by
 rw[QT];intro x a;obtain⟨j,hj,rfl⟩:=PJ a;exact decide_eq_true (h j hj)
def oU(ps:List (List Cl))(A:Option Addr)(n c:Nat)(wk:Int)(w:World)(hP:dv w A n ps)(hn:n<=1000000)(hwk:aq wk):
  C 45 #[.agg #[I st,I sa,I lo,I hi],.slice A n c,I wk] w λx w'=>x=.returned (I (cj st sa lo hi ps wk))/\M w w':=by
 have z:=qW st sa lo hi ps wk;have g:=hP.len;rw[<-g]at z;have B:=Z1 g;clear g;unfold aq at hwk;have t:=Z1 (ae (Oy _ w) (.cells #[I st,I sa,I lo,I hi] 23));have l:Hid (∀W,C 66 #[.agg #[I st,I sa,I lo,I hi]] W λx w'=>x=.returned (I (if cA st sa lo hi=true then 0 else 1))/\M W w'):=Z1 (λW=>gH st sa lo hi W);have O:=Z1 (hP.up t.o);clear hP
 rcases z with⟨a,b⟩|⟨a,m,b⟩|⟨a,m,u,b⟩|⟨a,m,u,v,b⟩|⟨a,m,u,v,D,b⟩|⟨a,m,u,v,D,b⟩
 case inr.inr.inr.inr.inr=>
  rw[a]at l;have F:=Z1 b;clear a b;have P:=v;have Q:=D
  go_in
  go_wp2_with fail;refine zm (l.o _) λR f=>?_;have e:=af t.o f;have G:=Z1 (O.o.up f);clear f;simp only[if_true];go_wp2;go_loop [37] (λi=>∃(k:Nat),k<=n/\i=I k/\Hid (∀(j:Nat) (p:j<ps.length),j<k->ps[j].length<=256)) (λi=>n-(intOf i).toNat)
  case atStart=>exact⟨0,zO,rfl,Z1 λj _ h=>zO⟩
  case round=>
   obtain⟨k,hk,rfl,H⟩:=hrel;by_cases U:k<n
   ·have r:k<ps.length:=by have:=B.o;omega
    obtain⟨ad,A',c',rfl,S,hc,X,L,s⟩:=G.o.at_ r;unfold maxLen at L;by_cases d:ps[k].length<=256
    ·have q:¬(256:Int)<(ps[k].length:Int):=zO;have T:=Z1 d;clear d s;go_wp2;go_round
     case rel=>
      refine⟨k+1,zO,by go_num,Z1 λj p aa=>?_⟩;by_cases N:j=k
      ·subst N;exact T.o
      ·exact H.o j p zO
     case measure=>simp[intOf];omega
    ·have q:(256:Int)<(ps[k].length:Int):=zO;have y:Hid (cj st sa lo hi ps wk=12):=Z1 (by rw[F.o,GL r d];rfl);clear d s;go_wp2;go_ret;exact⟨aC y.o.symm,e⟩
   ·have y:Hid (cj st sa lo hi ps wk=0):=Z1 (by rw[F.o,BN λj p=>H.o j p (by have:=B.o;omega)];rfl);go_wp2;go_ret;exact⟨aC y.o.symm,e⟩
 all_goals
  rw[a]at l;rw[b];clear a b
  go_in
  go_wp2_with fail;refine zm (l.o _) λR f=>?_;have e:=af t.o f;clear f;try simp only[if_true,Bool.false_eq_true,if_false]
  go_wp2;go_ret;exact⟨rfl,e⟩
section
open Go.WideShapes Go.ChangeShapes Go.Deep Go.Joins
section
variable {H:Type} {enc:TypeId×Value→H} {P:Program} {W:World} {base:Nat} {sp:Nat→Bool} {held:Bool}
def KV{t:TypeId}{e:TypeId}(hl:p9 P m t i=some e)(he:P.underlying e=some .string)(hk:P.keyTypeAt 1 e=true){n:Nat}{x:DataW H×List MemPlace}(hx:DataW.trod enc P W base sp held n t cs=some x):
  ∃s:ByteArray,cs[i]?=some (.string s)/\s.size<=maxLen:=by
 obtain⟨u,d,y,f,b⟩:=tD m t i e hl n cs x hx;have a:=(keyLits_of_trod 1 e hk d [u] y b).1;obtain⟨z,c,_⟩:=DataW.trod_string he b;simp at c;subst c;refine⟨z,f,?_⟩;simp only[Program.keyLits,he]at a;split at a
 ·assumption
 ·cases a
def BP{α:Type}(f:α->List Value)(s:Nat)(hf:∀x,(f x).length=s)(hs:0<s)(Q:α->Prop){t e:TypeId}(ht:P.underlying t=some (.slice e))(hC:P.cellsOf e=s)
  (each:∀(n:Nat) (cs:List Value) (x:DataW H×List MemPlace),cs.length=s->DataW.trod enc P W base sp held n e cs=some x->∃a,Q a/\f a=cs)
  {fuel:Nat}{x:DataW H×List MemPlace}(h:DataW.trod enc P W base sp held fuel t cs=some x):
  ∃(A:Option Addr) (c:Nat) (l:List α),cs=[.slice A l.length c]/\l.length<=c/\c<=maxLen/\(∀a∈l,Q a)/\an W W.heap.size s A l.length (l.flatMap f):=by
 rcases open_slice ht h with⟨o,_⟩|⟨a,b,G,m,n,D,Pl,o,hb,hl,hm,O,hx,g⟩
 ·exact⟨none,0,[],o,zS,by simp[maxLen],zS,⟨zS,λh=>by simp at h⟩⟩
 ·have ao:b<=m:=by rw[O];split<;>omega
  rw[hC]at g;have R:∀i,i<b->∃y:α,Q y/\∀j u,(f y)[j]?=some u->W.cell? (a.add (i*s+j))=some u:=by
   intro i ap;obtain⟨S,hc,T⟩:=g i zO;obtain⟨_,U,X⟩:=World.cells?_some hc;obtain⟨y,p,hy⟩:=each n S _ U T;refine⟨y,p,λj u d=>?_⟩;rw[hy]at d;have hj:j<s:=by have:=(OZ.1 d).1;omega
   rw[<-rY,X j hj,d]
  have aa:∀k,k<=b->∃l:List α,l.length=k/\(∀y∈l,Q y)/\∀i (g:i<l.length) j u,(f l[i])[j]?=some u->W.cell? (a.add (i*s+j))=some u:=by
   intro k;induction k with
   |zero=>intro _;exact⟨[],rfl,zS,λi g=>by simp at g⟩
   |succ k ih=>
    intro hk;obtain⟨l,r,L,v⟩:=ih zO;obtain⟨y,g1,g2⟩:=R k zO;refine⟨l++[y],by simp[r],λz w=>?_,λi g j u d=>?_⟩
    ·rw[Po,Py]at w
     rcases w with w|rfl
     ·exact L z w
     ·exact g1
    ·by_cases B:i<l.length
     ·rw[PK B]at d;exact v i B j u d
     ·obtain rfl:i=k:=by simp at g;omega
      rw[Qi zO]at d;simp only[r,QY,QW]at d;exact g2 j u d
  obtain⟨l,r,L,v⟩:=aa b (OA _);subst r;refine⟨some a,G,l,o,hl,hm,L,db f s hf l,λN=>⟨a,rfl,?_,λq u p=>?_⟩⟩
  ·have h0:=N;have ab:0<(f l[0]).length:=by rw[hf];exact hs
   have:=World.block_lt_of_cell? W _ (v 0 h0 0 _ (OL ab))
   rwa [gk]at this
  ·have ac:q<l.length*s:=by rw[<-db f s hf l];exact(OZ.1 p).1
   have F:=Nat.div_lt_of_lt_mul (by rw[Qk];exact ac);have hd:q/s*s+q%s=q:=by rw[Qk];exact Nat.div_add_mod q s
   have hg:=kc f s hf l (q/s) (q%s) F (Rj _ hs);rw[hd,p]at hg;have:=v _ F (q%s) u hg.symm
   rwa [hd]at this
end
end
section
open Go.WideShapes Go.ChangeShapes Go.Deep
section
variable {H:Type} {enc:TypeId×Value→H} {W:World}
def eT{n:Int}(h:(Lit.int .i64 n).wf=true):aq n:=by simpa[aq,Lit.wf,IntKind.min,IntKind.max,IntKind.signed,IntKind.bits]using h
def Ok{base:Nat}{sp:Nat->Bool}{held:Bool}(n:Nat)(cs:List Value)(x:DataW H×List MemPlace)(hl:cs.length=11)(h:DataW.trod enc prog W base sp held n 73 cs=some x):∃c:Cl,c.ok/\c.cells=cs:=by
 obtain⟨u,b,v⟩:=ek (m:=5) (i:=0) (e:=3) (k:=.i64) zR underlying3 h;obtain⟨w,d,y⟩:=KV (m:=5) (i:=1) (e:=9) zR underlying9 zR h;obtain⟨z,f,A⟩:=ek (m:=5) (i:=2) (e:=2) (k:=.i64) zR underlying2 h;obtain⟨B,g,D⟩:=ek (m:=5) (i:=3) (e:=2) (k:=.i64) zR underlying2 h;obtain⟨F,j,G⟩:=ek (m:=5) (i:=4) (e:=3) (k:=.i64) zR underlying3 h;obtain⟨L,l,N⟩:=ek (m:=5) (i:=5) (e:=2) (k:=.i64) zR underlying2 h;obtain⟨O,o,P⟩:=ek (m:=5) (i:=6) (e:=2) (k:=.i64) zR underlying2 h;obtain⟨Q,p,R⟩:=ek (m:=5) (i:=7) (e:=2) (k:=.i64) zR underlying2 h;obtain⟨S,q,T⟩:=ek (m:=5) (i:=8) (e:=2) (k:=.i64) zR underlying2 h;obtain⟨U,r,X⟩:=ek (m:=5) (i:=9) (e:=2) (k:=.i64) zR underlying2 h;obtain⟨s,a,t⟩:=ek (m:=5) (i:=10) (e:=2) (k:=.i64) zR underlying2 h;refine⟨⟨u,w,z,B,F,L,O,Q,S,U,s⟩,⟨eT v,eT A,eT D,eT G,⟨eT N,eT P,eT R,eT T,eT X,eT t⟩,y⟩,?_⟩
 match cs,hl with
 |[a0,a1,a2,a3,a4,a5,a6,a7,a8,a9,a10],_=>
  simp at b d f g j l o p q r a;simp[Cl.cells,Cl.arr,b,d,f,g,j,l,o,p,q,r,a]
structure NR(W:World)(q:Value×List Cl):Prop where
 ex:∃A c,q.1=.slice A q.2.length c/\q.2.length<=c/\c<=maxLen/\an W W.heap.size 11 A q.2.length (cls q.2)
 cl:∀x∈q.2,x.ok
def Ol{base:Nat}{sp:Nat->Bool}{held:Bool}(n:Nat)(cs:List Value)(x:DataW H×List MemPlace)(hl:cs.length=1)(h:DataW.trod enc prog W base sp held n 40 cs=some x):∃q:Value×List Cl,NR W q/\[q.1]=cs:=by
 obtain⟨A,c,l,rfl,a,b,d,e⟩:=BP (enc:=enc) Cl.cells 11 Cl.C2 zP Cl.ok underlying40 zR (λn cs x hl h=>Ok n cs x hl h) h;exact⟨(_,l),⟨⟨A,c,rfl,a,b,e⟩,d⟩,rfl⟩
def KW{α:Type}(f:α->Value)(l:List α):(l.flatMap λx=>[f x])=l.map f:=by
 induction l with
 |nil=>rfl
 |cons x l ih=>simp;exact ih
def MV{base:Nat}{v:Value}{d:DataW H}{p:List MemPlace}(hv:Value.okWide prog W .any base 23 v)(h:DataW.Trod enc prog W 0 (λ_=>true) true 23 v d p):
  ∃st sa lo hi:Int,v=.agg #[I st,I sa,I lo,I hi]/\(aq st/\aq sa/\aq lo/\aq hi):=by
 obtain⟨b,rfl,f⟩:=okWide_struct underlying23 hv;obtain⟨c,u⟩:=h;have w:prog.cellsOf 23=4:=zR;have a:DataW.trod enc prog W 0 (λ_=>true) true c 23 b.toList=some (d,p):=by simpa[Value.cells]using u
 have x:b.toList.length=4:=by rw[QQ];exact f.trans w
 obtain⟨g,j,y⟩:=ek (m:=5) (i:=0) (e:=3) (k:=.i64) zR underlying3 a;obtain⟨l,n,z⟩:=ek (m:=5) (i:=1) (e:=3) (k:=.i64) zR underlying3 a;obtain⟨o,q,A⟩:=ek (m:=5) (i:=2) (e:=3) (k:=.i64) zR underlying3 a;obtain⟨r,s,B⟩:=ek (m:=5) (i:=3) (e:=3) (k:=.i64) zR underlying3 a;refine⟨g,l,o,r,?_,eT y,eT z,eT A,eT B⟩;have t:b.toList=(#[I g,I l,I o,I r]:Array Value).toList:=by
  generalize b.toList=L at*
  match L,x with
  |[a0,a1,a2,a3],_=>
   simp at j n q s;simp[j,n,q,s]
 rw[Su.1 t]
def MW{base:Nat}{v:Value}{d:DataW H}{p:List MemPlace}(hv:Value.okWide prog W .any base 24 v)(h:DataW.Trod enc prog W 0 (λ_=>true) true 24 v d p):
  ∃(A:Option Addr) (c n:Nat) (ps:List (List Cl)),v=.slice A n c/\dv W A n ps/\∀p∈ps,∀x∈p,x.ok:=by
 obtain⟨m,o,f,rfl⟩:=okWide_slice underlying24 hv;obtain⟨r,s⟩:=h;obtain⟨A,c,a,k,N,O,l,t⟩:=BP (enc:=enc) (λq:Value×List Cl=>[q.1]) 1 (λ_=>rfl) zP (NR W) underlying24 zR (λn u x w h=>Ol n u x w h) s;simp[Value.cells]at k;obtain⟨rfl,rfl,rfl⟩:=k;refine⟨m,f,a.length,a.map Prod.snd,rfl,⟨a.map Prod.fst,by rw[<-KW];exact t,zS,λi hi=>?_⟩,λp y x z=>?_⟩
 ·have b:i<a.length:=by simpa using hi
  obtain⟨g,j,B,D,F,G⟩:=(l a[i] (OR b)).ex;have e:(a.map Prod.snd)[i]'hi=a[i].2:=zS;refine⟨g,j,?_,?_,F,?_⟩
  ·show(a.map Prod.fst)[i]?=some (.slice g ((a.map Prod.snd)[i]'hi).length j);rw[e,<-B];simp[b]
  ·show((a.map Prod.snd)[i]'hi).length<=j;rw[e];exact D
  ·show an W W.heap.size 11 g ((a.map Prod.snd)[i]'hi).length (cls ((a.map Prod.snd)[i]'hi));rw[e];exact G
 ·obtain⟨q,L,rfl⟩:=Pa.1 y;exact(l q L).cl x z
def Hn{A:Option Addr}{len c:Nat}{d:DataW H}{p:List MemPlace}(h:DataW.Trod enc prog W 0 (λ_=>true) true 24 (.slice A len c) d p)
  (hs:∀elems spare,d=.slice elems spare->(elems.length+spare.length)*24<=reachBytes):len<=10000000000000:=by
 obtain⟨f,g⟩:=h
 rcases open_slice underlying24 g with⟨b,_⟩|⟨a,i,k,m,n,D,Pl,b,o,q,r,l,e,s⟩
 ·simp[Value.cells]at b;obtain⟨_,rfl,_⟩:=b;omega
 ·simp[Value.cells]at b;obtain⟨_,rfl,_⟩:=b;injection e with e _;have j:=hs _ _ e;have t:=reachBytes_lt;simp at j;have u:len*24<=(len+(m-len))*24:=Pr _ zO;omega
end
end
end Go.Fw
