/- Lemmas of this claim. Conditions: as each says. -/
import Derived.Test.YtpfmpaolgmoajaaGreatS24
import Derived.Test.YtpfmpaolgmoajaaGreatS23
import Derived.Test.YtpfmpaolgmoajaaGreatS25
set_option linter.unusedVariables false
set_option linter.unusedSimpArgs false
set_option maxHeartbeats 4000000
set_option maxRecDepth 20000
set_option linter.defProp false
open Go.Proofs.Tryz
namespace Go.Fw
open Go.RowKit open Go.Proofs hiding intOf
variable {x x':Wi}{A:Option Addr}{w':World}{T:Nat->Tg}{g g':Gs}{k i q j B used:Nat}{ps:List (List Cl)}{L:Nat->Prop}{pcs pws:List Nat}{vw:Value}(w:World)(c:Cg)(wp:Nat)(e:En)(r:Nat->Bool)(pick:Int)(vs:Value)(p:Int)(n:Nat)(m:Mp)(l:List Vt)(a:Addr)
def NF(x:Wi)(a:Adv):bH (cr wp vs x) 8 a.arr.toList=cr wp vs {x with E0:=a}:=rfl
def Kt{c:Cg}(hc:c.ok){x:Ld}(hf:x.C6 c){A2:Option Addr}{n n2:Nat}{w:World}(h1:an w w.heap.size 2 A n (smps x.D2))(h2:an w w.heap.size 5 A2 n2 (advs x.C0))(hn:n=x.D2.length)(hn2:n2=x.C0.length):wg x.D8 x.D2 x.C0 A A2 n n2 w:=
 ⟨hf.L0,h1,by have:=hf.E5;have:=Cg.small hc;omega,mU hf,h2,by have:=hf.C0;have:=Cg.small hc;omega,hf.advs⟩
def yq(w w':World)(c:Cg)(T:Nat->Tg)(wp p:Nat)(g:Gs)(x:Wi)(e:Ending):Prop:=(x.D9.E9=true/\fW x.D9.D8 x.D9.D2=0->e=.returned (I 7)/\aV w w' c T wp g p {x with E0:=od x.D9.D8 x.D9.D2 x.D9.C0})/\(¬(x.D9.E9=true/\fW x.D9.D8 x.D9.D2=0)->e=.returned (I 10)/\aV w w' c T wp g p x)
structure Oh(w U:World)(p:Nat)(xs:Array Value)(df:Adv)(de:Int)(v5 v6:Value):Prop where
 err:v6=I de
 ptr:∃ab,v5=Z ab 0/\Blk U ab 62 df.arr
 below:M w U
 B0:Blk U p 203 xs
def vY(hc:c.ok)(T:Nat->Tg)(wp p:Nat)(g:Gs)(x:Wi)(hg:GAt w c T wp g)(h:aO w c T wp p x)(hx:x.ok c)(h6:x.B6=6):
  C 346 #[Z p 0] w λe w'=>yq w w' c T wp p g x e:=by
 have N:=Z2 hg h;obtain⟨vs,h⟩:=h;obtain⟨D,rfl,F⟩:∃D,vs=Z D 0/\bC w c D x.D9 true (λb=>T b=.fz):=by
  rcases h.D9 with⟨_,_,q⟩|q
  ·exact absurd h6 q
  ·exact q
 have hs:=Cg.small hc;have hf:=hx.D9;have G:=Z1 (Ah w c D x.D9 true _ F);have am:=Z1 (λU (hU:M w U)=>px U c D x.D9 true _ (F.up hU) (by have:=hf.E5;omega));have O:=Z1 (λU (hU:M w U)=>uC U c D x.D9 true _ (F.up hU));have y:=Z1 (λU (A A2:Option Addr) (k k2:Nat) (q1:an U U.heap.size 2 A x.D9.D2.length (smps x.D9.D2)) (q2:an U U.heap.size 5 A2 x.D9.C0.length (advs x.D9.C0))=>Mc x.D9.D8 x.D9.D2 x.D9.C0 A A2 _ k _ k2 U (Kt hc hf q1 q2 rfl rfl));have HW:=Z1 h;have q7:=DE h.B0;have be:Hid (∀w' e,x.D9.E9=true->fW x.D9.D8 x.D9.D2=0->e=.returned (I 7)->aV w w' c T wp g p {x with E0:=rt x.D9.D8 x.D9.D2 x.D9.C0}->yq w w' c T wp p g x e):=Z1 λw' e a1 a2 a3 a4=>⟨λ_=>⟨a3,by have h9:rt x.D9.D8 x.D9.D2 x.D9.C0=od x.D9.D8 x.D9.D2 x.D9.C0:=by{unfold rt;rw[OB a2]};rw[<-h9];exact a4⟩,λq=>absurd ⟨a1,a2⟩ q⟩;have ao:Hid (∀w' e,¬(x.D9.E9=true/\fW x.D9.D8 x.D9.D2=0)->e=.returned (I 10)->aV w w' c T wp g p x->yq w w' c T wp p g x e):=Z1 λw' e a1 a3 a4=>⟨λq=>absurd q a1,λ_=>⟨a3,a4⟩⟩;generalize bg:fW x.D9.D8 x.D9.D2=de at*;generalize bh:rt x.D9.D8 x.D9.D2 x.D9.C0=v at*;generalize bj:x.D9.E9=ru at*;generalize smps x.D9.D2=ss at*;generalize x.D9.D2.length=n1 at*;generalize advs x.D9.C0=aa at*;generalize x.D9.C0.length=n2 at*;obtain⟨⟨p0,p1,p2,p3,p4,p5⟩,P⟩:∃q:Pl,q=x.D9.D8:=⟨_,rfl⟩;rw[<-P]at G y;unfold Pl.val Pl.arr at G y;simp only at G y;clear h F hf hg hx h6 hs bg bh bj P
 go_in
 go_wp2_with fail;refine zm G.o λw1 ap=>?_;go_upto_region 2 with fail
 have aq:=Blk.A8 w1 51 #[I p0,I p1,I p2,I p3,I p4,I p5] rfl;have Q:=ae ap (.cells #[I p0,I p1,I p2,I p3,I p4,I p5] 51);generalize hV:w1.alloc (.cells #[I p0,I p1,I p2,I p3,I p4,I p5] 51)=V at*;generalize bl:w1.heap.size=pb at*;have a:=And.intro Q.drew (And.intro ((HW.o.B0.later Q).drew) aq.drew);clear hV bl aq ap Q q7;have cc:=Z1 (show p<w.heap.size from HW.o.B0.lt);go_cut [5,6] (λv5 v6 wx=>Oh w wx p (cr wp (Z D 0) x) v de v5 v6)
 case first=>
  refine ay (S:=λU=>M w U/\Blk U p 203 (cr wp (Z D 0) x)/\Blk U pb 51 #[I p0,I p1,I p2,I p3,I p4,I p5]) zR a ?_;generalize V.drew=U at*;simp only[zD,zE,Nat.reduceAdd,zG];refine zq 0 ?_ (λW hW=>?_) ?_;rotate_left
  ·obtain⟨b0,b1,b2,b3,b4,b5⟩:=bi hW.2.2;exact zf
  refine zL ?_;refine zq 4 ?_ (λW hW=>?_) ?_;rotate_left
  ·have q7:=DE hW.2.1;exact zf
  refine zL ?_;refine zq 9 ?_ (λW hW=>?_) ?_;rotate_left
  ·have q7:=DE hW.2.1;exact zf
  refine nQ 5 15 zR rfl rfl zF zF (λK hK=>?_) (λK hK=>?_)
  ·skip
   go_simp
   (refine(am.o _ a.1).mono ?_)
   rintro e3 U ⟨v3,rfl,z⟩;obtain⟨R,X,rfl,_,_,l⟩:=z.form;have s:=z.below;try have d:=d.later s
   have a:=And.intro (af a.1 s) (And.intro (a.2.1.later s) (a.2.2.later s));clear s z;refine zJ hK a ?_;refine nQ 10 15 zR rfl rfl zF zF (λK hK=>?_) (λK hK=>?_)
   ·skip
    go_simp
    (refine(O.o _ a.1).mono ?_)
    rintro e4 U ⟨v4,rfl,t⟩;obtain⟨H,L,rfl,_,_,r⟩:=t.form;have j:=t.below;have l:=l.up j;try have d:=d.later j
    have a:=And.intro (af a.1 j) (And.intro (a.2.1.later j) (a.2.2.later j));clear j t;refine zJ hK a ?_;refine nQ 11 15 zR rfl rfl zF zF (λK hK=>?_) (λK hK=>?_)
    ·skip
     go_simp;refine zm (y.o _ R H X L l r) λU i=>?_;try have d:=d.later i
     have a:=And.intro (af a.1 i) (And.intro (a.2.1.later i) (a.2.2.later i));clear i;refine zJ hK a ?_;refine zo 15 λK hK=>?_;go_simp;have f:=zh U (.cells az.arr 62);have d:=Blk.A8 U 62 az.arr rfl;try have l:=l.up f
     try have r:=r.up f
     have m:=And.intro (PP a.2.1.lt) (And.intro (PP a.2.2.lt) a.1.size);have a:=And.intro (af a.1 f) (And.intro (a.2.1.later f) (a.2.2.later f));clear f;refine zJ hK a ?_;refine zo 16 λK hK=>?_;refine bX gu (.tmp 5) (.tmp 28) rfl _ 0 zF v.arr zF d rfl zP (lY _) ?_;intro w7 u n;have a:=And.intro (n.below a.1 m.2.2) (And.intro (n.B0 a.2.1 m.1) (n.B0 a.2.2 m.2.1));rw[show bH az.arr 0 v.arr.toList=v.arr by kernel_rfl]at u;refine zJ hK a ?_;go_wp2;go_meet;exact⟨rfl,⟨_,rfl,u⟩,a.1,a.2.1⟩
    ·skip
     go_simp;have f:=zh U (.cells az.arr 62);have d:=Blk.A8 U 62 az.arr rfl;try have l:=l.up f
     try have r:=r.up f
     have m:=And.intro (PP a.2.1.lt) (And.intro (PP a.2.2.lt) a.1.size);have a:=And.intro (af a.1 f) (And.intro (a.2.1.later f) (a.2.2.later f));clear f;refine zJ hK a ?_;refine zo 11 λK hK=>?_;go_simp;refine zm (y.o _ R H X L l r) λU i=>?_;try have d:=d.later i
     have a:=And.intro (af a.1 i) (And.intro (a.2.1.later i) (a.2.2.later i));clear i;refine zJ hK a ?_;refine zo 16 λK hK=>?_;refine bX gu (.tmp 5) (.tmp 28) rfl _ 0 zF v.arr zF d rfl zP (lY _) ?_;intro w7 u n;have a:=And.intro (n.below a.1 m.2.2) (And.intro (n.B0 a.2.1 m.1) (n.B0 a.2.2 m.2.1));rw[show bH az.arr 0 v.arr.toList=v.arr by kernel_rfl]at u;refine zJ hK a ?_;go_wp2;go_meet;exact⟨rfl,⟨_,rfl,u⟩,a.1,a.2.1⟩
   ·skip
    go_simp;have f:=zh U (.cells az.arr 62);have d:=Blk.A8 U 62 az.arr rfl;try have l:=l.up f
    try have r:=r.up f
    have m:=And.intro (PP a.2.1.lt) (And.intro (PP a.2.2.lt) a.1.size);have a:=And.intro (af a.1 f) (And.intro (a.2.1.later f) (a.2.2.later f));clear f;refine zJ hK a ?_;refine zo 10 λK hK=>?_;go_simp
    (refine(O.o _ a.1).mono ?_)
    rintro e4 U ⟨v4,rfl,t⟩;obtain⟨H,L,rfl,_,_,r⟩:=t.form;have j:=t.below;have l:=l.up j;try have d:=d.later j
    have a:=And.intro (af a.1 j) (And.intro (a.2.1.later j) (a.2.2.later j));clear j t;refine zJ hK a ?_;refine zo 11 λK hK=>?_;go_simp;refine zm (y.o _ R H X L l r) λU i=>?_;try have d:=d.later i
    have a:=And.intro (af a.1 i) (And.intro (a.2.1.later i) (a.2.2.later i));clear i;refine zJ hK a ?_;refine zo 16 λK hK=>?_;refine bX gu (.tmp 5) (.tmp 28) rfl _ 0 zF v.arr zF d rfl zP (lY _) ?_;intro w7 u n;have a:=And.intro (n.below a.1 m.2.2) (And.intro (n.B0 a.2.1 m.1) (n.B0 a.2.2 m.2.1));rw[show bH az.arr 0 v.arr.toList=v.arr by kernel_rfl]at u;refine zJ hK a ?_;go_wp2;go_meet;exact⟨rfl,⟨_,rfl,u⟩,a.1,a.2.1⟩
  ·skip
   go_simp;have f:=zh U (.cells az.arr 62);have d:=Blk.A8 U 62 az.arr rfl;try have l:=l.up f
   try have r:=r.up f
   have m:=And.intro (PP a.2.1.lt) (And.intro (PP a.2.2.lt) a.1.size);have a:=And.intro (af a.1 f) (And.intro (a.2.1.later f) (a.2.2.later f));clear f;refine zJ hK a ?_;refine zo 5 λK hK=>?_;go_simp
   (refine(am.o _ a.1).mono ?_)
   rintro e3 U ⟨v3,rfl,z⟩;obtain⟨R,X,rfl,_,_,l⟩:=z.form;have s:=z.below;try have d:=d.later s
   have a:=And.intro (af a.1 s) (And.intro (a.2.1.later s) (a.2.2.later s));clear s z;refine zJ hK a ?_;refine zo 10 λK hK=>?_;go_simp
   (refine(O.o _ a.1).mono ?_)
   rintro e4 U ⟨v4,rfl,t⟩;obtain⟨H,L,rfl,_,_,r⟩:=t.form;have j:=t.below;have l:=l.up j;try have d:=d.later j
   have a:=And.intro (af a.1 j) (And.intro (a.2.1.later j) (a.2.2.later j));clear j t;refine zJ hK a ?_;refine zo 11 λK hK=>?_;go_simp;refine zm (y.o _ R H X L l r) λU i=>?_;try have d:=d.later i
   have a:=And.intro (af a.1 i) (And.intro (a.2.1.later i) (a.2.2.later i));clear i;refine zJ hK a ?_;refine zo 16 λK hK=>?_;refine bX gu (.tmp 5) (.tmp 28) rfl _ 0 zF v.arr zF d rfl zP (lY _) ?_;intro w7 u n;have a:=And.intro (n.below a.1 m.2.2) (And.intro (n.B0 a.2.1 m.1) (n.B0 a.2.2 m.2.1));rw[show bH az.arr 0 v.arr.toList=v.arr by kernel_rfl]at u;refine zJ hK a ?_;go_wp2;go_meet;exact⟨rfl,⟨_,rfl,u⟩,a.1,a.2.1⟩
 case rest=>
  obtain⟨rfl,⟨ab,rfl,d⟩,ar,au⟩:=hcut;have HB:=Z3 ar au d;clear d ar au a;by_cases B:ru=true/\de=0
  ·obtain⟨rfl,rfl⟩:=B;have bo:=bQ HB.o.2.2;have bp:=HB.o.2.1
   go_wp2_with (first|refine aG gu rfl (.tmp 5) rfl (Y ab 0) zF v.arr rfl bo ?_|(refine dW gu rfl (.tmp 39) (.tmp 37) rfl p 8 zF v.arr zF bp rfl (by show 8+5<=14;decide) (lY _) ?_;intro w8 av bq))
   go_ret;rw[NF]at av;have hb:=HB.o.1;exact be.o _ _ zS zS rfl (bc.after hb (aV.own (x':={x with E0:=v}) (N.o.1.up hb) (HW.o.up hb) bq av rfl λe=>by cases e))
  ·have HY:=Z1 B
   cases ru with
   |false=>
    clear B;go_wp2;go_ret;exact ao.o _ _ HY.o rfl (aV.same N.o.1 N.o.2 HB.o.1)
   |true=>
    have hz:(de !=0)=true:=by
     have:de≠0:=λe=>B ⟨rfl,e⟩
     simpa using this
    clear B;go_wp2;go_ret;exact ao.o _ _ HY.o rfl (aV.same N.o.1 N.o.2 HB.o.1)
def Gw{α:Type}{l:List (K2×α)}{k:K2}{v:α}(h:ap l k=some v):aR l k v=l:=by
 induction l with
 |nil=>cases h
 |cons e r ih=>
  unfold ap at h;unfold aR;by_cases a:e.1=k
  ·rw[OB a]at h;rw[OB a];injection h with h;rw[<-a,<-h]
  ·rw[Oz a]at h;rw[Oz a,ih h]
def DF(hc:c.ok)(T:Nat->Tg)(sp:Nat)(v:Value)(tp lb:Nat)(S:Sto)(m:Mp)(h:bU w c T sp v tp lb S)(hr:et c S m)(k:K2)(hi:homeN c k<S.rows.length)(z:Nd)(hz:ap S.rows[homeN c k].zs k=some z):
  C 318 #[Z z.p 0] w λe w'=>e=.returned (Z z.p 0)/\∃T',aW T T' w.heap.size/\eH w' c T' sp m/\ag (λb=>eE (T b)) w w'/\bC w' c z.p z.x true (λb=>T' b=.fz):=by
 have d:=h.F1 _ hi;have B:=d.nodes _ (bR hz);refine(xm w c z.p z.x z.fz _ (B.more (G:=λb=>T b=z.tag k/\b<w.heap.size) λb g e=>⟨e,g⟩)).mono ?_;rintro e w' ⟨h1,h2,N⟩;refine⟨h1,gr T w.heap.size [k],?_⟩;have o:∀b,z.fz=false/\b=z.p->T b=.nd k:=λb ⟨f,i⟩=>by
  have:=B.own;rw[i,this];unfold Nd.tag;rw[f];rfl
 have X:∀b,b<w.heap.size->gr T w.heap.size [k] b=T b\/∃a,homeN c a=homeN c k/\T b=.nd a/\gr T w.heap.size [k] b=.fz:=λb g=>by
  cases e:T b with
  |nd a=>
   rw[gZ T _ g e];by_cases A:a=k
   ·subst A;exact .inr ⟨a,rfl,rfl,zS⟩
   ·left;simp[A]
  |_=>left;rw[eq T _ g (by rw[e];intro k e;cases e),e]
 have r:∀b,b<w.heap.size->(∀a,T b=.nd a->a≠k)->gr T w.heap.size [k] b=T b:=λb g A=>by
  cases e:T b with
  |nd a=>rw[gZ T _ g e,Oz (by simpa using A a e)]
  |_=>rw[eq T _ g (by rw[e];intro k e;cases e),e]
 have s:bC w' c z.p z.x true (λb=>gr T w.heap.size [k] b=.fz):=h2.more λb _ ⟨f,i⟩=>by
  unfold Nd.tag at f;by_cases hf:z.fz=true
  ·rw[OB hf]at f;rw[r b i (λa q=>by rw[f]at q;cases q),f]
  ·rw[Oz hf]at f;rw[gZ T _ i f];simp
 have D:=d.at_.D7;have O:iT (aR S.rows[homeN c k].zs k ⟨z.p,z.x,true⟩)=iT S.rows[homeN c k].zs:=by
  rw[<-xb];exact Gw (by rw[ji,hz];rfl)
 have F:ag (λb=>T b=.st (homeN c k)\/∃a,homeN c a=homeN c k/\T b=.nd a) w w':=N.C3 λb e=>.inr ⟨k,rfl,o b e⟩;have l:=d.at_.B7 N (λe=>by have:=o _ e;rw[d.tp]at this;cases this) (λe=>by have:=o _ e;rw[d.tm]at this;cases this);have P:cL w' c (gr T w.heap.size [k]) (homeN c k) S.rows[homeN c k].p S.rows[homeN c k].mb S.rows[homeN c k].C7 (aR S.rows[homeN c k].zs k ⟨z.p,z.x,true⟩):=by
  refine⟨⟨l.B0,by rw[O];exact l.map⟩,?_,?_,λy Q=>?_⟩
  ·rw[r _ d.at_.lt.1 (λa q=>by rw[d.tp]at q;cases q)];exact d.tp
  ·rw[r _ d.at_.lt.2 (λa q=>by rw[d.tm]at q;cases q)];exact d.tm
  ·rcases kt D Q with rfl|⟨t,ab⟩
   ·exact s
   ·have ac:=(d.nodes y t).more (G:=λb=>T b=y.2.tag y.1/\b<w.heap.size) λb g e=>⟨e,g⟩;have H:∀b,T b=y.2.tag y.1->T b≠.nd k:=λb f i=>ab (Fs (f.symm.trans i));refine(ac.B7 N λb f i=>H b f.1 (o b i)).more λb _ f=>?_;rw[r b f.2 λa q q2=>H b f.1 (q2▸q)];exact f.1
 have R:=h.one (λj h z hz=>(hr.row j h).homes z hz) hi P X F;have U:lds (aR S.rows[homeN c k].zs k ⟨z.p,z.x,true⟩)=lds S.rows[homeN c k].zs:=by
  rw[tO];exact Gw (by rw[tP,hz];rfl)
 refine⟨λb g=>(X b g).imp id λ⟨a,_,f,i⟩=>⟨a,f,i⟩,⟨v,tp,lb,_,R,?_⟩,F.C3 λb e=>?_,s⟩
 ·have hl:(S.setRow (homeN c k) S.rows[homeN c k].C7 (aR S.rows[homeN c k].zs k ⟨z.p,z.x,true⟩)).rows.length=S.rows.length:=QF _ _ _;refine⟨hl.trans hr.n,λj hj=>?_,hr.D7,hr.O2,hr.C6,hr.E5,hr.over,hr.G8,hr.cut⟩;have L:j<S.rows.length:=by rw[<-hl];exact hj
  rw[fN L hj];by_cases e:homeN c k=j
  ·subst e;rw[OB rfl];have u:=hr.row _ hi;refine⟨λy Q=>?_,?_⟩
   ·rcases kt D Q with rfl|⟨t,_⟩
    ·rfl
    ·exact u.homes y t
   ·show(cH c m.ls (homeN c k)).Perm (lds (aR S.rows[homeN c k].zs k ⟨z.p,z.x,true⟩));rw[U];exact u.part
  ·rw[Oz e];exact hr.row j L
 ·rcases e with e|⟨a,_,e⟩<;>rw[e]<;>trivial
def iV(x:Wi):((cr wp vs x).setIfInBounds 3 (I (-1))).setIfInBounds 4 (.bool false)=cr wp vs x.y:=rfl
def MK(x:Wi)(n:Nat):(cr wp vs x).setIfInBounds 2 (I (n:Int))=cr wp vs {x with B6:=n}:=rfl
def okY{c:Cg}(h:x.ok c):x.y.ok c:=⟨h.task,h.B6,.inl rfl,h.key,h.D9,h.E0,h.done⟩
structure WsI(w U:World)(c:Cg)(T T':Nat->Tg)(wp p:Nat)(g:Gs)(x:Wi):Prop where
 tag:aW T T' w.heap.size
 g_:GAt U c T' wp g
 at_:aO U c T' wp p x.y
 B7:ag (λb=>eN (T b)\/b=p) w U
def WsI.fin{w U:World}{c:Cg}{T':Nat->Tg}{wp p:Nat}(h:WsI w U c T T' wp p g x)(h2:aV U w' c T' wp g' p x'):aV w w' c T wp g' p x':=bc.trans h.tag h.B7 h2
def aV.B6{w:World}{c:Cg}{wp p:Nat}{vs:Value}(hg:GAt w c T wp g)(h:eM w c T wp p x vs)(d:Nat)(hd:vs=.pointer none->d≠5/\d≠6)(hw:w'=w.setCell (Y p 2) (I (d:Int))):aV w w' c T wp g p {x with B6:=d}:=by
 subst hw;have a:=h.B0.B4 2 (I (d:Int));rw[MK]at a;exact aV.own hg h (aI.B4 _ _ _ _) a rfl hd
def Ku(hc:c.ok)(T:Nat->Tg)(wp p:Nat)(g:Gs)(x:Wi)(hg:GAt w c T wp g)(h:aO w c T wp p x)(hx:x.ok c)(hrd:x.ready c g=true)(hk:x.B6=0)(hf:(g.lock ((c.st+1:Nat):Int)).line.length<=900):C 339 #[Z p 0] w λe w'=>e=.returned (.tuple #[])/\aV w w' c T wp (aM c g x).1 p (aM c g x).2:=by
 have v:=Z1 (ch w c hc T wp p g x hg h hx);rw[hrd]at v;have r:c.st+1<c.st+2:=zO;obtain⟨A,B⟩:homeN c x.key<c.st+2/\x.home c=((homeN c x.key:Nat):Int):=⟨by have:=cJ hc x.key;omega,cy hc _⟩;have P:Hid (aM c g x=((g.ask ((c.st+1:Nat):Int) x.task true).1,{x with B8:=if(g.ask ((c.st+1:Nat):Int) x.task true).2=true then -1 else((c.st+1:Nat):Int),B3:=false,B6:=1})):=Z1 (by rw[qo hk,cW];rfl);have Q:=Z1 (λU b (d:GAt U c b wp g) (f:aO U c b wp p x.y)=>m9 U c hc b wp p g x.y d f (okY hx) (c.st+1) r true 1 hf);have D:=Z1 (λU b (d:GAt U c b wp g) (f:aO U c b wp p x.y)=>iO U c hc b wp p g x.y d f);rw[cW]at D;clear hf;obtain⟨vs,h⟩:=h;have F:=Z2 hg h;have s:=hk;have HK:=Z1 s;clear hg h hrd hx s r A
 go_in
 go_wp2_with fail;refine zm v.o λw1 i=>?_;have a:=F.o.2.up i;have z:=dH a.B0;rw[hk]at z;have R:=gv a.B0;have S:=gw a.B0;have X:=a.B0.frozen 3;have f4:=a.B0.frozen 4;have j:=Z2 i a;clear a i v hk B;go_wp2_with fail;have k:=(j.o.2.B0.B4 3 (I (-1))).B4 4 (.bool false);rw[iV]at k;obtain⟨T2,d,f,G,H⟩:=bc.after j.o.1 (aV.own (x':=x.y) (F.o.1.up j.o.1) j.o.2 ((aI.B4 _ _ _ _).trans (aI.B4 _ _ _ _)) k rfl j.o.2.nil);have l:Hid (WsI w _ c T T2 wp p g x):=Z1 ⟨d,f,G,H⟩;clear d f G H k z R S X f4;refine zm (D.o _ _ l.o.g_ l.o.at_) λw2 t=>?_;have m:=Z1 t;clear t;go_wp2_with fail;refine zm (Q.o _ _ (l.o.g_.up m.o) (l.o.at_.up m.o)) λw3 u=>?_;have HN:=Z1 (bc.after m.o u);clear u;obtain⟨T6,L,N,⟨ad,n⟩,O⟩:=HN.o;have q:=Z4 L N n O;have z:=dH n.B0;have f2:=n.B0.frozen 2;clear L N n O;go_wp2;refine zt ?_;refine⟨rfl,?_⟩;rw[P.o];refine l.o.fin (bc.trans q.o.1 q.o.2.2.2 (aV.B6 q.o.2.1 q.o.2.2.1 1 (λe=>⟨zP,zP⟩) rfl))
def Gx(hc:c.ok)(T:Nat->Tg)(wp p:Nat)(g:Gs)(x:Wi)(hg:GAt w c T wp g)(h:aO w c T wp p x)(hx:x.ok c)(hrd:x.ready c g=true)(hk:x.B6=1)(hf:g.E5)(k:K2)(r:List K2)(hl:g.q.line=k::r)(hd:k∈g.q.C5)(hn:g.ev.length<=70000):C 339 #[Z p 0] w λe w'=>e=.returned (.tuple #[])/\aV w w' c T wp (aM c g x).1 p (aM c g x).2:=by
 have t:=Z1 (ch w c hc T wp p g x hg h hx);rw[hrd]at t;have A:c.st+1<c.st+2:=zO;obtain⟨B,D⟩:homeN c x.key<c.st+2/\x.home c=((homeN c x.key:Nat):Int):=⟨by have:=cJ hc x.key;omega,cy hc _⟩;have P:Hid (aM c g x=(({g with q:=g.q.get.1}:Gs).note (({x.y with key:=k}:Wi).event 4),{x with B8:= -1,B3:=false,key:=k,B6:=2})):=Z1 (by rw[oJ hk hl];unfold Qm.get;rw[hl];rfl);have Q:=Z1 (λU u (i:GAt U c u wp g) (j:aO U c u wp p x.y)=>AL U c u wp p g x.y i j (okY hx) hf k r hl hd (by show x.B6≠5/\x.B6≠6;omega) hn);clear hf hl hd hn;obtain⟨vs,h⟩:=h;have F:=Z2 hg h;have n:=hk;have HK:=Z1 n;clear hg h hrd hx n A B
 go_in
 go_wp2_with fail;refine zm t.o λw1 b=>?_;have a:=F.o.2.up b;have v:=dH a.B0;rw[hk]at v;have R:=gv a.B0;have S:=gw a.B0;have X:=a.B0.frozen 3;have f4:=a.B0.frozen 4;have d:=Z2 b a;clear a b t hk D;go_wp2_with fail;have f:=(d.o.2.B0.B4 3 (I (-1))).B4 4 (.bool false);rw[iV]at f;obtain⟨T2,i,j,G,H⟩:=bc.after d.o.1 (aV.own (x':=x.y) (F.o.1.up d.o.1) d.o.2 ((aI.B4 _ _ _ _).trans (aI.B4 _ _ _ _)) f rfl d.o.2.nil);have z:Hid (WsI w _ c T T2 wp p g x):=Z1 ⟨i,j,G,H⟩;clear i j G H f v R S X f4;refine zm (Q.o _ _ z.o.g_ z.o.at_) λw3 s=>?_;have HN:=Z1 s;clear s;obtain⟨T6,L,N,⟨ad,l⟩,O⟩:=HN.o;have m:=Z4 L N l O;have v:=dH l.B0;have f2:=l.B0.frozen 2;clear L N l O;go_wp2;refine zt ?_;refine⟨rfl,?_⟩;rw[P.o];refine z.o.fin (bc.trans m.o.1 m.o.2.2.2 (aV.B6 m.o.2.1 m.o.2.2.1 2 (λe=>⟨zP,zP⟩) rfl))
def Gy(hc:c.ok)(T:Nat->Tg)(wp p:Nat)(g:Gs)(x:Wi)(hg:GAt w c T wp g)(h:aO w c T wp p x)(hx:x.ok c)(hrd:x.ready c g=true)(hk:x.B6=1)(hf:g.E5)(hl:g.q.line=[])(hov:g.q.over=true):C 339 #[Z p 0] w λe w'=>e=.returned (.tuple #[])/\aV w w' c T wp (aM c g x).1 p (aM c g x).2:=by
 have r:=Z1 (ch w c hc T wp p g x hg h hx);rw[hrd]at r;have v:c.st+1<c.st+2:=zO;obtain⟨z,A⟩:homeN c x.key<c.st+2/\x.home c=((homeN c x.key:Nat):Int):=⟨by have:=cJ hc x.key;omega,cy hc _⟩;have N:Hid (aM c g x=(g,{x with B8:= -1,B3:=false,B6:=12})):=Z1 (by rw[mz hk hl,OB hov]);have O:=Z1 (λU s (i:GAt U c s wp g) (j:aO U c s wp p x.y)=>AM U c s wp p g x.y i j (okY hx) hf hl hov);clear hf hl hov;obtain⟨vs,h⟩:=h;have B:=Z2 hg h;have m:=hk;have HK:=Z1 m;clear hg h hrd hx m v z
 go_in
 go_wp2_with fail;refine zm r.o λw1 b=>?_;have a:=B.o.2.up b;have t:=dH a.B0;rw[hk]at t;have P:=gv a.B0;have Q:=gw a.B0;have R:=a.B0.frozen 3;have S:=a.B0.frozen 4;have d:=Z2 b a;clear a b r hk A;go_wp2_with fail;have f:=(d.o.2.B0.B4 3 (I (-1))).B4 4 (.bool false);rw[iV]at f;obtain⟨X,i,j,D,F⟩:=bc.after d.o.1 (aV.own (x':=x.y) (B.o.1.up d.o.1) d.o.2 ((aI.B4 _ _ _ _).trans (aI.B4 _ _ _ _)) f rfl d.o.2.nil);have u:Hid (WsI w _ c T X wp p g x):=Z1 ⟨i,j,D,F⟩;clear i j D F f t P Q R S;refine zm (O.o _ _ u.o.g_ u.o.at_) λw3 n=>?_;have HN:=Z1 n;clear n;obtain⟨T6,G,H,⟨ab,k⟩,L⟩:=HN.o;have l:=Z4 G H k L;have t:=dH k.B0;have f2:=k.B0.frozen 2;clear G H k L;go_wp2;refine zt ?_;refine⟨rfl,?_⟩;rw[N.o];refine u.o.fin (bc.trans l.o.1 l.o.2.2.2 (aV.B6 l.o.2.1 l.o.2.2.1 12 (λe=>⟨zP,zP⟩) rfl))
def Gz(hc:c.ok)(T:Nat->Tg)(wp p:Nat)(g:Gs)(x:Wi)(hg:GAt w c T wp g)(h:aO w c T wp p x)(hx:x.ok c)(hrd:x.ready c g=true)(hk:x.B6=1)(hf:g.E5)(hl:g.q.line=[])(hov:g.q.over=false)(hh:bS g.ln x.task=2):C 339 #[Z p 0] w λe w'=>e=.returned (.tuple #[])/\aV w w' c T wp (aM c g x).1 p (aM c g x).2:=by
 have r:=Z1 (ch w c hc T wp p g x hg h hx);rw[hrd]at r;have v:c.st+1<c.st+2:=zO;obtain⟨z,A⟩:homeN c x.key<c.st+2/\x.home c=((homeN c x.key:Nat):Int):=⟨by have:=cJ hc x.key;omega,cy hc _⟩;have N:Hid (aM c g x=(g.sleep x.task,{x with B8:= -1,B3:=true,B6:=1})):=Z1 (by rw[mz hk hl,Oz (by rw[hov];decide)]);have O:=Z1 (λU s (i:GAt U c s wp g) (j:aO U c s wp p x.y)=>yn U c hc s wp p g x.y i j (okY hx) hf hl hov hh);clear hf hl hov hh;obtain⟨vs,h⟩:=h;have B:=Z2 hg h;have m:=hk;have HK:=Z1 m;clear hg h hrd hx m v z
 go_in
 go_wp2_with fail;refine zm r.o λw1 b=>?_;have a:=B.o.2.up b;have t:=dH a.B0;rw[hk]at t;have P:=gv a.B0;have Q:=gw a.B0;have R:=a.B0.frozen 3;have S:=a.B0.frozen 4;have d:=Z2 b a;clear a b r hk A;go_wp2_with fail;have f:=(d.o.2.B0.B4 3 (I (-1))).B4 4 (.bool false);rw[iV]at f;obtain⟨X,i,j,D,F⟩:=bc.after d.o.1 (aV.own (x':=x.y) (B.o.1.up d.o.1) d.o.2 ((aI.B4 _ _ _ _).trans (aI.B4 _ _ _ _)) f rfl d.o.2.nil);have u:Hid (WsI w _ c T X wp p g x):=Z1 ⟨i,j,D,F⟩;clear i j D F f t P Q R S;refine zm (O.o _ _ u.o.g_ u.o.at_) λw3 n=>?_;have HN:=Z1 n;clear n;obtain⟨T6,G,H,⟨ab,k⟩,L⟩:=HN.o;have l:=Z4 G H k L;have t:=dH k.B0;have f2:=k.B0.frozen 2;clear G H k L;go_wp2;refine zt ?_;refine⟨rfl,?_⟩;rw[N.o];refine u.o.fin (bc.trans l.o.1 l.o.2.2.2 (aV.B6 l.o.2.1 l.o.2.2.1 1 (λe=>⟨zP,zP⟩) rfl))
def Kv(hc:c.ok)(T:Nat->Tg)(wp p:Nat)(g:Gs)(x:Wi)(hg:GAt w c T wp g)(h:aO w c T wp p x)(hx:x.ok c)(hrd:x.ready c g=true)(hk:x.B6=2)(hh:g.held ((c.st+1:Nat):Int) x.task≠0)(hf:(g.lock ((c.st+1:Nat):Int)).line.length<=900):C 339 #[Z p 0] w λe w'=>e=.returned (.tuple #[])/\aV w w' c T wp (aM c g x).1 p (aM c g x).2:=by
 have v:=Z1 (ch w c hc T wp p g x hg h hx);rw[hrd]at v;have r:c.st+1<c.st+2:=zO;obtain⟨A,B⟩:homeN c x.key<c.st+2/\x.home c=((homeN c x.key:Nat):Int):=⟨by have:=cJ hc x.key;omega,cy hc _⟩;have P:Hid (aM c g x=(g.drop ((c.st+1:Nat):Int) x.task,{x with B8:= -1,B3:=false,B6:=3})):=Z1 (by rw[qp hk,cW]);have Q:=Z1 (λU b (d:GAt U c b wp g) (f:aO U c b wp p x.y)=>j7 U c hc b wp p g x.y d f (okY hx) (c.st+1) r 3 hh hf);have D:=Z1 (λU b (d:GAt U c b wp g) (f:aO U c b wp p x.y)=>iO U c hc b wp p g x.y d f);rw[cW]at D;clear hf hh;obtain⟨vs,h⟩:=h;have F:=Z2 hg h;have s:=hk;have HK:=Z1 s;clear hg h hrd hx s r A
 go_in
 go_wp2_with fail;refine zm v.o λw1 i=>?_;have a:=F.o.2.up i;have z:=dH a.B0;rw[hk]at z;have R:=gv a.B0;have S:=gw a.B0;have X:=a.B0.frozen 3;have f4:=a.B0.frozen 4;have j:=Z2 i a;clear a i v hk B;go_wp2_with fail;have k:=(j.o.2.B0.B4 3 (I (-1))).B4 4 (.bool false);rw[iV]at k;obtain⟨T2,d,f,G,H⟩:=bc.after j.o.1 (aV.own (x':=x.y) (F.o.1.up j.o.1) j.o.2 ((aI.B4 _ _ _ _).trans (aI.B4 _ _ _ _)) k rfl j.o.2.nil);have l:Hid (WsI w _ c T T2 wp p g x):=Z1 ⟨d,f,G,H⟩;clear d f G H k z R S X f4;refine zm (D.o _ _ l.o.g_ l.o.at_) λw2 t=>?_;have m:=Z1 t;clear t;go_wp2_with fail;refine zm (Q.o _ _ (l.o.g_.up m.o) (l.o.at_.up m.o)) λw3 u=>?_;have HN:=Z1 (bc.after m.o u);clear u;obtain⟨T6,L,N,⟨ad,n⟩,O⟩:=HN.o;have q:=Z4 L N n O;have z:=dH n.B0;have f2:=n.B0.frozen 2;clear L N n O;go_wp2;refine zt ?_;refine⟨rfl,?_⟩;rw[P.o];refine l.o.fin (bc.trans q.o.1 q.o.2.2.2 (aV.B6 q.o.2.1 q.o.2.2.1 3 (λe=>⟨zP,zP⟩) rfl))
def Kw(hc:c.ok)(T:Nat->Tg)(wp p:Nat)(g:Gs)(x:Wi)(hg:GAt w c T wp g)(h:aO w c T wp p x)(hx:x.ok c)(hrd:x.ready c g=true)(hk:x.B6=3)(hf:(g.lock ((homeN c x.key:Nat):Int)).line.length<=900):C 339 #[Z p 0] w λe w'=>e=.returned (.tuple #[])/\aV w w' c T wp (aM c g x).1 p (aM c g x).2:=by
 have z:=Z1 (ch w c hc T wp p g x hg h hx);rw[hrd]at z;have B:c.st+1<c.st+2:=zO;obtain⟨r,s⟩:homeN c x.key<c.st+2/\x.home c=((homeN c x.key:Nat):Int):=⟨by have:=cJ hc x.key;omega,cy hc _⟩;have O:Hid (aM c g x=((g.ask ((homeN c x.key:Nat):Int) x.task false).1,{x with B8:=if(g.ask ((homeN c x.key:Nat):Int) x.task false).2=true then -1 else((homeN c x.key:Nat):Int),B3:=false,B6:=4})):=Z1 (by rw[qr hk,s];rfl);have P:=Z1 (λU b (d:GAt U c b wp g) (f:aO U c b wp p x.y)=>m9 U c hc b wp p g x.y d f (okY hx) (homeN c x.key) r false 4 hf);have Q:=Z1 (λU b (d:GAt U c b wp g) (f:aO U c b wp p x.y)=>iP U c hc b wp p g x.y d f hx.key);clear hf;obtain⟨vs,h⟩:=h;have D:=Z2 hg h;have t:=hk;have HK:=Z1 t;clear hg h hrd hx t B r
 go_in
 go_wp2_with fail;refine zm z.o λw1 i=>?_;have a:=D.o.2.up i;have A:=dH a.B0;rw[hk]at A;have R:=gv a.B0;have S:=gw a.B0;have X:=a.B0.frozen 3;have f4:=a.B0.frozen 4;have j:=Z2 i a;clear a i z hk s;go_wp2_with fail;have k:=(j.o.2.B0.B4 3 (I (-1))).B4 4 (.bool false);rw[iV]at k;obtain⟨T2,d,f,F,G⟩:=bc.after j.o.1 (aV.own (x':=x.y) (D.o.1.up j.o.1) j.o.2 ((aI.B4 _ _ _ _).trans (aI.B4 _ _ _ _)) k rfl j.o.2.nil);have l:Hid (WsI w _ c T T2 wp p g x):=Z1 ⟨d,f,F,G⟩;clear d f F G k A R S X f4;refine zm (Q.o _ _ l.o.g_ l.o.at_) λw2 u=>?_;have m:=Z1 u;clear u;go_wp2_with fail;refine zm (P.o _ _ (l.o.g_.up m.o) (l.o.at_.up m.o)) λw3 v=>?_;have HN:=Z1 (bc.after m.o v);clear v;obtain⟨T6,H,L,⟨ad,n⟩,N⟩:=HN.o;have q:=Z4 H L n N;have A:=dH n.B0;have f2:=n.B0.frozen 2;clear H L n N;go_wp2;refine zt ?_;refine⟨rfl,?_⟩;rw[O.o];refine l.o.fin (bc.trans q.o.1 q.o.2.2.2 (aV.B6 q.o.2.1 q.o.2.2.1 4 (λe=>⟨zP,zP⟩) rfl))
def Kx(hc:c.ok)(T:Nat->Tg)(wp p:Nat)(g:Gs)(x:Wi)(hg:GAt w c T wp g)(h:aO w c T wp p x)(hx:x.ok c)(hrd:x.ready c g=true)(hk:x.B6=5)(hh:g.held ((homeN c x.key:Nat):Int) x.task≠0)(hf:(g.lock ((homeN c x.key:Nat):Int)).line.length<=900):C 339 #[Z p 0] w λe w'=>e=.returned (.tuple #[])/\aV w w' c T wp (aM c g x).1 p (aM c g x).2:=by
 have z:=Z1 (ch w c hc T wp p g x hg h hx);rw[hrd]at z;have B:c.st+1<c.st+2:=zO;obtain⟨r,s⟩:homeN c x.key<c.st+2/\x.home c=((homeN c x.key:Nat):Int):=⟨by have:=cJ hc x.key;omega,cy hc _⟩;have O:Hid (aM c g x=(g.drop ((homeN c x.key:Nat):Int) x.task,{x with B8:= -1,B3:=false,B6:=6})):=Z1 (by rw[qu hk,s]);have P:=Z1 (λU b (d:GAt U c b wp g) (f:aO U c b wp p x.y)=>j7 U c hc b wp p g x.y d f (okY hx) (homeN c x.key) r 6 hh hf);have Q:=Z1 (λU b (d:GAt U c b wp g) (f:aO U c b wp p x.y)=>iP U c hc b wp p g x.y d f hx.key);clear hf hh;obtain⟨vs,h⟩:=h;have D:=Z2 hg h;have t:=hk;have R:=Z1 t;clear hg h hrd hx t B r
 go_in
 go_wp2_with fail;refine zm z.o λw1 i=>?_;have a:=D.o.2.up i;have A:=dH a.B0;rw[hk]at A;have S:=gv a.B0;have X:=gw a.B0;have f3:=a.B0.frozen 3;have f4:=a.B0.frozen 4;have j:=Z2 i a;clear a i z hk s;go_wp2_with fail;have k:=(j.o.2.B0.B4 3 (I (-1))).B4 4 (.bool false);rw[iV]at k;obtain⟨T2,d,f,F,G⟩:=bc.after j.o.1 (aV.own (x':=x.y) (D.o.1.up j.o.1) j.o.2 ((aI.B4 _ _ _ _).trans (aI.B4 _ _ _ _)) k rfl j.o.2.nil);have l:Hid (WsI w _ c T T2 wp p g x):=Z1 ⟨d,f,F,G⟩;clear d f F G k A S X f3 f4;refine zm (Q.o _ _ l.o.g_ l.o.at_) λw2 u=>?_;have m:=Z1 u;clear u;go_wp2_with fail;refine zm (P.o _ _ (l.o.g_.up m.o) (l.o.at_.up m.o)) λw3 v=>?_;have HN:=Z1 (bc.after m.o v);clear v;obtain⟨T6,H,L,⟨ae,q⟩,N⟩:=HN.o;have n:=Z4 H L q N;have A:=dH q.B0;have f2:=q.B0.frozen 2;clear H L q N;go_wp2;refine zt ?_;refine⟨rfl,?_⟩;rw[O.o];refine l.o.fin (bc.trans n.o.1 n.o.2.2.2 (aV.B6 n.o.2.1 n.o.2.2.1 6 (λe=>by have:=n.o.2.2.1.nil e;exact absurd R.o this.1) rfl))
def Ky(hc:c.ok)(T:Nat->Tg)(wp p:Nat)(g:Gs)(x:Wi)(hg:GAt w c T wp g)(h:aO w c T wp p x)(hx:x.ok c)(hrd:x.ready c g=true)(hk:x.B6=6):C 339 #[Z p 0] w λe w'=>e=.returned (.tuple #[])/\aV w w' c T wp (aM c g x).1 p (aM c g x).2:=by
 have D:=Z1 (ch w c hc T wp p g x hg h hx);rw[hrd]at D;have L:c.st+1<c.st+2:=zO;obtain⟨N,O⟩:homeN c x.key<c.st+2/\x.home c=((homeN c x.key:Nat):Int):=⟨by have:=cJ hc x.key;omega,cy hc _⟩;have A:=Z1 (qw (c:=c) (g:=g) hk);have X:=Z1 (λU F (t:GAt U c F wp g) (u:aO U c F wp p x.y)=>vY U c hc F wp p g x.y t u (okY hx) hk);obtain⟨vs,h⟩:=h;have P:=Z2 hg h;have B:=hk;have HK:=Z1 B;clear hg h hrd hx B L N
 go_in
 go_wp2_with fail;refine zm D.o λw1 j=>?_;have d:=P.o.2.up j;have v:=dH d.B0;rw[hk]at v;have q3:=gv d.B0;have q4:=gw d.B0;have f3:=d.B0.frozen 3;have f4:=d.B0.frozen 4;have k:=Z2 j d;clear d j D hk O;go_wp2_with fail;have l:=(k.o.2.B0.B4 3 (I (-1))).B4 4 (.bool false);rw[iV]at l;obtain⟨T2,t,u,Q,R⟩:=bc.after k.o.1 (aV.own (x':=x.y) (P.o.1.up k.o.1) k.o.2 ((aI.B4 _ _ _ _).trans (aI.B4 _ _ _ _)) l rfl k.o.2.nil);have z:Hid (WsI w _ c T T2 wp p g x):=Z1 ⟨t,u,Q,R⟩;clear t u Q R l v q3 q4 f3 f4;refine(X.o _ _ z.o.g_ z.o.at_).mono ?_;rintro e3 w3 ⟨a,m⟩;by_cases b:x.D9.E9=true/\fW x.D9.D8 x.D9.D2=0
 ·have n:=a b;clear a m;obtain⟨rfl,a⟩:=n;have G:Hid (aM c g x=(g,{x with B8:= -1,B3:=false,E0:=od x.D9.D8 x.D9.D2 x.D9.C0,B6:=7})):=Z1 (by rw[A.o,OB b]);have H:=Z1 a;clear a b;obtain⟨T6,q,r,⟨S,f⟩,s⟩:=H.o;have i:=Z4 q r f s;have v:=dH f.B0;have f2:=f.B0.frozen 2;clear q r f s;go_wp2;refine zt ?_;refine⟨rfl,?_⟩;rw[G.o];refine z.o.fin (bc.trans i.o.1 i.o.2.2.2 (aV.B6 i.o.2.1 i.o.2.2.1 7 (λe=>⟨zP,zP⟩) rfl))
 ·have n:=m b;clear a m;obtain⟨rfl,a⟩:=n;have G:Hid (aM c g x=(g,{x with B8:= -1,B3:=false,B6:=10})):=Z1 (by rw[A.o,Oz b]);have H:=Z1 a;clear a b;obtain⟨T6,q,r,⟨S,f⟩,s⟩:=H.o;have i:=Z4 q r f s;have v:=dH f.B0;have f2:=f.B0.frozen 2;clear q r f s;go_wp2;refine zt ?_;refine⟨rfl,?_⟩;rw[G.o];refine z.o.fin (bc.trans i.o.1 i.o.2.2.2 (aV.B6 i.o.2.1 i.o.2.2.1 10 (λe=>⟨zP,zP⟩) rfl))
def Kz(hc:c.ok)(T:Nat->Tg)(wp p:Nat)(g:Gs)(x:Wi)(hg:GAt w c T wp g)(h:aO w c T wp p x)(hx:x.ok c)(hrd:x.ready c g=true)(hk:x.B6=7)(hf:(g.lock ((homeN c x.key:Nat):Int)).line.length<=900):C 339 #[Z p 0] w λe w'=>e=.returned (.tuple #[])/\aV w w' c T wp (aM c g x).1 p (aM c g x).2:=by
 have z:=Z1 (ch w c hc T wp p g x hg h hx);rw[hrd]at z;have B:c.st+1<c.st+2:=zO;obtain⟨r,s⟩:homeN c x.key<c.st+2/\x.home c=((homeN c x.key:Nat):Int):=⟨by have:=cJ hc x.key;omega,cy hc _⟩;have O:Hid (aM c g x=((g.ask ((homeN c x.key:Nat):Int) x.task true).1,{x with B8:=if(g.ask ((homeN c x.key:Nat):Int) x.task true).2=true then -1 else((homeN c x.key:Nat):Int),B3:=false,B6:=8})):=Z1 (by rw[qy hk,s];rfl);have P:=Z1 (λU b (d:GAt U c b wp g) (f:aO U c b wp p x.y)=>m9 U c hc b wp p g x.y d f (okY hx) (homeN c x.key) r true 8 hf);have Q:=Z1 (λU b (d:GAt U c b wp g) (f:aO U c b wp p x.y)=>iP U c hc b wp p g x.y d f hx.key);clear hf;obtain⟨vs,h⟩:=h;have D:=Z2 hg h;have t:=hk;have HK:=Z1 t;clear hg h hrd hx t B r
 go_in
 go_wp2_with fail;refine zm z.o λw1 i=>?_;have a:=D.o.2.up i;have A:=dH a.B0;rw[hk]at A;have R:=gv a.B0;have S:=gw a.B0;have X:=a.B0.frozen 3;have f4:=a.B0.frozen 4;have j:=Z2 i a;clear a i z hk s;go_wp2_with fail;have k:=(j.o.2.B0.B4 3 (I (-1))).B4 4 (.bool false);rw[iV]at k;obtain⟨T2,d,f,F,G⟩:=bc.after j.o.1 (aV.own (x':=x.y) (D.o.1.up j.o.1) j.o.2 ((aI.B4 _ _ _ _).trans (aI.B4 _ _ _ _)) k rfl j.o.2.nil);have l:Hid (WsI w _ c T T2 wp p g x):=Z1 ⟨d,f,F,G⟩;clear d f F G k A R S X f4;refine zm (Q.o _ _ l.o.g_ l.o.at_) λw2 u=>?_;have m:=Z1 u;clear u;go_wp2_with fail;refine zm (P.o _ _ (l.o.g_.up m.o) (l.o.at_.up m.o)) λw3 v=>?_;have HN:=Z1 (bc.after m.o v);clear v;obtain⟨T6,H,L,⟨ad,n⟩,N⟩:=HN.o;have q:=Z4 H L n N;have A:=dH n.B0;have f2:=n.B0.frozen 2;clear H L n N;go_wp2;refine zt ?_;refine⟨rfl,?_⟩;rw[O.o];refine l.o.fin (bc.trans q.o.1 q.o.2.2.2 (aV.B6 q.o.2.1 q.o.2.2.1 8 (λe=>⟨zP,zP⟩) rfl))
def KA(hc:c.ok)(T:Nat->Tg)(wp p:Nat)(g:Gs)(x:Wi)(hg:GAt w c T wp g)(h:aO w c T wp p x)(hx:x.ok c)(hrd:x.ready c g=true)(hk:x.B6=8)(hky:ap g.mp.ls x.key≠none)(hn:g.ev.length<=70000):C 339 #[Z p 0] w λe w'=>e=.returned (.tuple #[])/\aV w w' c T wp (aM c g x).1 p (aM c g x).2:=by
 have q:=Z1 (ch w c hc T wp p g x hg h hx);rw[hrd]at q;have u:c.st+1<c.st+2:=zO;obtain⟨v,z⟩:homeN c x.key<c.st+2/\x.home c=((homeN c x.key:Nat):Int):=⟨by have:=cJ hc x.key;omega,cy hc _⟩;have L:Hid (aM c g x=(({g with mp:=(eo c g.mp x.key x.E0).1}:Gs).note (x.y.event 6),{x with B8:= -1,B3:=false,B6:=9})):=Z1 (by rw[qz hk];rfl);have N:=Z1 (λU r (i:GAt U c r wp g) (j:aO U c r wp p x.y)=>yo U c hc r wp p g x.y i j (okY hx) hky hn);clear hky hn;obtain⟨vs,h⟩:=h;have A:=Z2 hg h;have m:=hk;have HK:=Z1 m;clear hg h hrd hx m u v
 go_in
 go_wp2_with fail;refine zm q.o λw1 b=>?_;have a:=A.o.2.up b;have s:=dH a.B0;rw[hk]at s;have O:=gv a.B0;have P:=gw a.B0;have Q:=a.B0.frozen 3;have R:=a.B0.frozen 4;have d:=Z2 b a;clear a b q hk z;go_wp2_with fail;have f:=(d.o.2.B0.B4 3 (I (-1))).B4 4 (.bool false);rw[iV]at f;obtain⟨S,i,j,B,D⟩:=bc.after d.o.1 (aV.own (x':=x.y) (A.o.1.up d.o.1) d.o.2 ((aI.B4 _ _ _ _).trans (aI.B4 _ _ _ _)) f rfl d.o.2.nil);have t:Hid (WsI w _ c T S wp p g x):=Z1 ⟨i,j,B,D⟩;clear i j B D f s O P Q R;refine zm (N.o _ _ t.o.g_ t.o.at_) λw3 n=>?_;have X:=Z1 n;clear n;obtain⟨T6,F,G,⟨aa,k⟩,H⟩:=X.o;have l:=Z4 F G k H;have s:=dH k.B0;have f2:=k.B0.frozen 2;clear F G k H;go_wp2;refine zt ?_;refine⟨rfl,?_⟩;rw[L.o];refine t.o.fin (bc.trans l.o.1 l.o.2.2.2 (aV.B6 l.o.2.1 l.o.2.2.1 9 (λe=>⟨zP,zP⟩) rfl))
def KB(hc:c.ok)(T:Nat->Tg)(wp p:Nat)(g:Gs)(x:Wi)(hg:GAt w c T wp g)(h:aO w c T wp p x)(hx:x.ok c)(hrd:x.ready c g=true)(hk:x.B6=9)(hh:g.held ((homeN c x.key:Nat):Int) x.task≠0)(hf:(g.lock ((homeN c x.key:Nat):Int)).line.length<=900):C 339 #[Z p 0] w λe w'=>e=.returned (.tuple #[])/\aV w w' c T wp (aM c g x).1 p (aM c g x).2:=by
 have z:=Z1 (ch w c hc T wp p g x hg h hx);rw[hrd]at z;have B:c.st+1<c.st+2:=zO;obtain⟨r,s⟩:homeN c x.key<c.st+2/\x.home c=((homeN c x.key:Nat):Int):=⟨by have:=cJ hc x.key;omega,cy hc _⟩;have O:Hid (aM c g x=(g.drop ((homeN c x.key:Nat):Int) x.task,{x with B8:= -1,B3:=false,B6:=10})):=Z1 (by rw[qA hk,s]);have P:=Z1 (λU b (d:GAt U c b wp g) (f:aO U c b wp p x.y)=>j7 U c hc b wp p g x.y d f (okY hx) (homeN c x.key) r 10 hh hf);have Q:=Z1 (λU b (d:GAt U c b wp g) (f:aO U c b wp p x.y)=>iP U c hc b wp p g x.y d f hx.key);clear hf hh;obtain⟨vs,h⟩:=h;have D:=Z2 hg h;have t:=hk;have HK:=Z1 t;clear hg h hrd hx t B r
 go_in
 go_wp2_with fail;refine zm z.o λw1 i=>?_;have a:=D.o.2.up i;have A:=dH a.B0;rw[hk]at A;have R:=gv a.B0;have S:=gw a.B0;have X:=a.B0.frozen 3;have f4:=a.B0.frozen 4;have j:=Z2 i a;clear a i z hk s;go_wp2_with fail;have k:=(j.o.2.B0.B4 3 (I (-1))).B4 4 (.bool false);rw[iV]at k;obtain⟨T2,d,f,F,G⟩:=bc.after j.o.1 (aV.own (x':=x.y) (D.o.1.up j.o.1) j.o.2 ((aI.B4 _ _ _ _).trans (aI.B4 _ _ _ _)) k rfl j.o.2.nil);have l:Hid (WsI w _ c T T2 wp p g x):=Z1 ⟨d,f,F,G⟩;clear d f F G k A R S X f4;refine zm (Q.o _ _ l.o.g_ l.o.at_) λw2 u=>?_;have m:=Z1 u;clear u;go_wp2_with fail;refine zm (P.o _ _ (l.o.g_.up m.o) (l.o.at_.up m.o)) λw3 v=>?_;have HN:=Z1 (bc.after m.o v);clear v;obtain⟨T6,H,L,⟨ad,n⟩,N⟩:=HN.o;have q:=Z4 H L n N;have A:=dH n.B0;have f2:=n.B0.frozen 2;clear H L n N;go_wp2;refine zt ?_;refine⟨rfl,?_⟩;rw[O.o];refine l.o.fin (bc.trans q.o.1 q.o.2.2.2 (aV.B6 q.o.2.1 q.o.2.2.1 10 (λe=>⟨zP,zP⟩) rfl))
def GA(hc:c.ok)(T:Nat->Tg)(wp p:Nat)(g:Gs)(x:Wi)(hg:GAt w c T wp g)(h:aO w c T wp p x)(hx:x.ok c)(hrd:x.ready c g=true)(hk:x.B6=10)(hf:(g.lock ((c.st+1:Nat):Int)).line.length<=900):C 339 #[Z p 0] w λe w'=>e=.returned (.tuple #[])/\aV w w' c T wp (aM c g x).1 p (aM c g x).2:=by
 have v:=Z1 (ch w c hc T wp p g x hg h hx);rw[hrd]at v;have r:c.st+1<c.st+2:=zO;obtain⟨A,B⟩:homeN c x.key<c.st+2/\x.home c=((homeN c x.key:Nat):Int):=⟨by have:=cJ hc x.key;omega,cy hc _⟩;have P:Hid (aM c g x=((g.ask ((c.st+1:Nat):Int) x.task true).1,{x with B8:=if(g.ask ((c.st+1:Nat):Int) x.task true).2=true then -1 else((c.st+1:Nat):Int),B3:=false,B6:=11})):=Z1 (by rw[oK hk,cW];rfl);have Q:=Z1 (λU b (d:GAt U c b wp g) (f:aO U c b wp p x.y)=>m9 U c hc b wp p g x.y d f (okY hx) (c.st+1) r true 11 hf);have D:=Z1 (λU b (d:GAt U c b wp g) (f:aO U c b wp p x.y)=>iO U c hc b wp p g x.y d f);rw[cW]at D;clear hf;obtain⟨vs,h⟩:=h;have F:=Z2 hg h;have s:=hk;have HK:=Z1 s;clear hg h hrd hx s r A
 go_in
 go_wp2_with fail;refine zm v.o λw1 i=>?_;have a:=F.o.2.up i;have z:=dH a.B0;rw[hk]at z;have R:=gv a.B0;have S:=gw a.B0;have X:=a.B0.frozen 3;have f4:=a.B0.frozen 4;have j:=Z2 i a;clear a i v hk B;go_wp2_with fail;have k:=(j.o.2.B0.B4 3 (I (-1))).B4 4 (.bool false);rw[iV]at k;obtain⟨T2,d,f,G,H⟩:=bc.after j.o.1 (aV.own (x':=x.y) (F.o.1.up j.o.1) j.o.2 ((aI.B4 _ _ _ _).trans (aI.B4 _ _ _ _)) k rfl j.o.2.nil);have l:Hid (WsI w _ c T T2 wp p g x):=Z1 ⟨d,f,G,H⟩;clear d f G H k z R S X f4;refine zm (D.o _ _ l.o.g_ l.o.at_) λw2 t=>?_;have m:=Z1 t;clear t;go_wp2_with fail;refine zm (Q.o _ _ (l.o.g_.up m.o) (l.o.at_.up m.o)) λw3 u=>?_;have HN:=Z1 (bc.after m.o u);clear u;obtain⟨T6,L,N,⟨ad,n⟩,O⟩:=HN.o;have q:=Z4 L N n O;have z:=dH n.B0;have f2:=n.B0.frozen 2;clear L N n O;go_wp2;refine zt ?_;refine⟨rfl,?_⟩;rw[P.o];refine l.o.fin (bc.trans q.o.1 q.o.2.2.2 (aV.B6 q.o.2.1 q.o.2.2.1 11 (λe=>⟨zP,zP⟩) rfl))
def GB(hc:c.ok)(T:Nat->Tg)(wp p:Nat)(g:Gs)(x:Wi)(hg:GAt w c T wp g)(h:aO w c T wp p x)(hx:x.ok c)(hrd:x.ready c g=true)(hk:x.B6=11)(hf:g.E5)(hb:x.key∈g.q.busy)(hn:g.ev.length<=70000):C 339 #[Z p 0] w λe w'=>e=.returned (.tuple #[])/\aV w w' c T wp (aM c g x).1 p (aM c g x).2:=by
 have r:=Z1 (ch w c hc T wp p g x hg h hx);rw[hrd]at r;have v:c.st+1<c.st+2:=zO;obtain⟨z,A⟩:homeN c x.key<c.st+2/\x.home c=((homeN c x.key:Nat):Int):=⟨by have:=cJ hc x.key;omega,cy hc _⟩;have N:Hid (aM c g x=((g.note (x.y.event 7)).F6 x.key,{x with B8:= -1,B3:=false,done:=x.done+1,B6:=14})):=Z1 (by rw[oL hk]);have O:=Z1 (λU s (i:GAt U c s wp g) (j:aO U c s wp p x.y)=>AO U c hc s wp p g x.y i j (okY hx) hf hb hn);clear hf hb hn;obtain⟨vs,h⟩:=h;have B:=Z2 hg h;have m:=hk;have HK:=Z1 m;clear hg h hrd hx m v z
 go_in
 go_wp2_with fail;refine zm r.o λw1 b=>?_;have a:=B.o.2.up b;have t:=dH a.B0;rw[hk]at t;have P:=gv a.B0;have Q:=gw a.B0;have R:=a.B0.frozen 3;have S:=a.B0.frozen 4;have d:=Z2 b a;clear a b r hk A;go_wp2_with fail;have f:=(d.o.2.B0.B4 3 (I (-1))).B4 4 (.bool false);rw[iV]at f;obtain⟨X,i,j,D,F⟩:=bc.after d.o.1 (aV.own (x':=x.y) (B.o.1.up d.o.1) d.o.2 ((aI.B4 _ _ _ _).trans (aI.B4 _ _ _ _)) f rfl d.o.2.nil);have u:Hid (WsI w _ c T X wp p g x):=Z1 ⟨i,j,D,F⟩;clear i j D F f t P Q R S;refine zm (O.o _ _ u.o.g_ u.o.at_) λw3 n=>?_;have HN:=Z1 n;clear n;obtain⟨T6,G,H,⟨ab,k⟩,L⟩:=HN.o;have l:=Z4 G H k L;have t:=dH k.B0;have f2:=k.B0.frozen 2;clear G H k L;go_wp2;refine zt ?_;refine⟨rfl,?_⟩;rw[N.o];refine u.o.fin (bc.trans l.o.1 l.o.2.2.2 (aV.B6 l.o.2.1 l.o.2.2.1 14 (λe=>⟨zP,zP⟩) rfl))
def GC(hc:c.ok)(T:Nat->Tg)(wp p:Nat)(g:Gs)(x:Wi)(hg:GAt w c T wp g)(h:aO w c T wp p x)(hx:x.ok c)(hrd:x.ready c g=true)(hk:x.B6=12)(hh:g.held ((c.st+1:Nat):Int) x.task≠0)(hf:(g.lock ((c.st+1:Nat):Int)).line.length<=900):C 339 #[Z p 0] w λe w'=>e=.returned (.tuple #[])/\aV w w' c T wp (aM c g x).1 p (aM c g x).2:=by
 have v:=Z1 (ch w c hc T wp p g x hg h hx);rw[hrd]at v;have r:c.st+1<c.st+2:=zO;obtain⟨A,B⟩:homeN c x.key<c.st+2/\x.home c=((homeN c x.key:Nat):Int):=⟨by have:=cJ hc x.key;omega,cy hc _⟩;have P:Hid (aM c g x=(g.drop ((c.st+1:Nat):Int) x.task,{x with B8:= -1,B3:=false,B6:=13})):=Z1 (by rw[oM hk,cW]);have Q:=Z1 (λU b (d:GAt U c b wp g) (f:aO U c b wp p x.y)=>j7 U c hc b wp p g x.y d f (okY hx) (c.st+1) r 13 hh hf);have D:=Z1 (λU b (d:GAt U c b wp g) (f:aO U c b wp p x.y)=>iO U c hc b wp p g x.y d f);rw[cW]at D;clear hf hh;obtain⟨vs,h⟩:=h;have F:=Z2 hg h;have s:=hk;have HK:=Z1 s;clear hg h hrd hx s r A
 go_in
 go_wp2_with fail;refine zm v.o λw1 i=>?_;have a:=F.o.2.up i;have z:=dH a.B0;rw[hk]at z;have R:=gv a.B0;have S:=gw a.B0;have X:=a.B0.frozen 3;have f4:=a.B0.frozen 4;have j:=Z2 i a;clear a i v hk B;go_wp2_with fail;have k:=(j.o.2.B0.B4 3 (I (-1))).B4 4 (.bool false);rw[iV]at k;obtain⟨T2,d,f,G,H⟩:=bc.after j.o.1 (aV.own (x':=x.y) (F.o.1.up j.o.1) j.o.2 ((aI.B4 _ _ _ _).trans (aI.B4 _ _ _ _)) k rfl j.o.2.nil);have l:Hid (WsI w _ c T T2 wp p g x):=Z1 ⟨d,f,G,H⟩;clear d f G H k z R S X f4;refine zm (D.o _ _ l.o.g_ l.o.at_) λw2 t=>?_;have m:=Z1 t;clear t;go_wp2_with fail;refine zm (Q.o _ _ (l.o.g_.up m.o) (l.o.at_.up m.o)) λw3 u=>?_;have HN:=Z1 (bc.after m.o u);clear u;obtain⟨T6,L,N,⟨ad,n⟩,O⟩:=HN.o;have q:=Z4 L N n O;have z:=dH n.B0;have f2:=n.B0.frozen 2;clear L N n O;go_wp2;refine zt ?_;refine⟨rfl,?_⟩;rw[P.o];refine l.o.fin (bc.trans q.o.1 q.o.2.2.2 (aV.B6 q.o.2.1 q.o.2.2.1 13 (λe=>⟨zP,zP⟩) rfl))
def GD(hc:c.ok)(T:Nat->Tg)(wp p:Nat)(g:Gs)(x:Wi)(hg:GAt w c T wp g)(h:aO w c T wp p x)(hx:x.ok c)(hrd:x.ready c g=true)(hk:x.B6=14)(hh:g.held ((c.st+1:Nat):Int) x.task≠0)(hf:(g.lock ((c.st+1:Nat):Int)).line.length<=900):C 339 #[Z p 0] w λe w'=>e=.returned (.tuple #[])/\aV w w' c T wp (aM c g x).1 p (aM c g x).2:=by
 have v:=Z1 (ch w c hc T wp p g x hg h hx);rw[hrd]at v;have r:c.st+1<c.st+2:=zO;obtain⟨A,B⟩:homeN c x.key<c.st+2/\x.home c=((homeN c x.key:Nat):Int):=⟨by have:=cJ hc x.key;omega,cy hc _⟩;have P:Hid (aM c g x=(g.drop ((c.st+1:Nat):Int) x.task,{x with B8:= -1,B3:=false,B6:=0})):=Z1 (by rw[oN hk,cW]);have Q:=Z1 (λU b (d:GAt U c b wp g) (f:aO U c b wp p x.y)=>j7 U c hc b wp p g x.y d f (okY hx) (c.st+1) r 0 hh hf);have D:=Z1 (λU b (d:GAt U c b wp g) (f:aO U c b wp p x.y)=>iO U c hc b wp p g x.y d f);rw[cW]at D;clear hf hh;obtain⟨vs,h⟩:=h;have F:=Z2 hg h;have s:=hk;have HK:=Z1 s;clear hg h hrd hx s r A
 go_in
 go_wp2_with fail;refine zm v.o λw1 i=>?_;have a:=F.o.2.up i;have z:=dH a.B0;rw[hk]at z;have R:=gv a.B0;have S:=gw a.B0;have X:=a.B0.frozen 3;have f4:=a.B0.frozen 4;have j:=Z2 i a;clear a i v hk B;go_wp2_with fail;have k:=(j.o.2.B0.B4 3 (I (-1))).B4 4 (.bool false);rw[iV]at k;obtain⟨T2,d,f,G,H⟩:=bc.after j.o.1 (aV.own (x':=x.y) (F.o.1.up j.o.1) j.o.2 ((aI.B4 _ _ _ _).trans (aI.B4 _ _ _ _)) k rfl j.o.2.nil);have l:Hid (WsI w _ c T T2 wp p g x):=Z1 ⟨d,f,G,H⟩;clear d f G H k z R S X f4;refine zm (D.o _ _ l.o.g_ l.o.at_) λw2 t=>?_;have m:=Z1 t;clear t;go_wp2_with fail;refine zm (Q.o _ _ (l.o.g_.up m.o) (l.o.at_.up m.o)) λw3 u=>?_;have HN:=Z1 (bc.after m.o u);clear u;obtain⟨T6,L,N,⟨ad,n⟩,O⟩:=HN.o;have q:=Z4 L N n O;have z:=dH n.B0;have f2:=n.B0.frozen 2;clear L N n O;go_wp2;refine zt ?_;refine⟨rfl,?_⟩;rw[P.o];refine l.o.fin (bc.trans q.o.1 q.o.2.2.2 (aV.B6 q.o.2.1 q.o.2.2.1 0 (λe=>⟨zP,zP⟩) rfl))
def eM.F4{w:World}{c:Cg}{wp p:Nat}{vs:Value}(h:eM w c T wp p x vs)(hg:bj w w' c T wp g'):∃T',aW T T' w.heap.size/\GAt w' c T' wp g'/\eM w' c T' wp p x vs/\ag (λb=>eN (T b)\/b=p) w w':=by
 obtain⟨T',a,g,d⟩:=hg;exact⟨T',a,g,h.B7 d (λb e f=>by rcases e with e|e<;>rw[e]at f<;>exact f) λb i e=>a.keepT i (by rcases e with e|e<;>rw[e]<;>intro k f<;>cases f),d.C3 λb e=>.inl e⟩
def NG(x:Wi)(np:Nat)(ld:Ld):(cr wp vs x).setIfInBounds 7 (Z np 0)=cr wp (Z np 0) {x with D9:=ld}:=rfl
def KC(hc:c.ok)(T:Nat->Tg)(wp p:Nat)(g:Gs)(x:Wi)(hg:GAt w c T wp g)(h:aO w c T wp p x)(hx:x.ok c)(hrd:x.ready c g=true)(hk:x.B6=4)(hky:ap g.mp.ls x.key≠none)(hn:g.ev.length<=70000):C 339 #[Z p 0] w λe w'=>e=.returned (.tuple #[])/\aV w w' c T wp (aM c g x).1 p (aM c g x).2:=by
 have HR:=Z1 (ch w c hc T wp p g x hg h hx);rw[hrd]at HR;have az:c.st+1<c.st+2:=zO;obtain⟨a0,a5⟩:homeN c x.key<c.st+2/\x.home c=((homeN c x.key:Nat):Int):=⟨by have:=cJ hc x.key;omega,cy hc _⟩;have HX:Hid (aM c g x=(g.note (x.y.event 5),{x with B8:= -1,B3:=false,D9:=(ap g.mp.ls x.key).getD .new,B6:=5})):=Z1 (by rw[qt hk];rfl);have b9:Hid (x.D9.C6 c->True):=Z1 λ_=>trivial;have al:=hx.key;have a7:=Z1 (λU T' (ld:Ld) (hld:ld.C6 c) (a1:GAt U c T' wp g) (a2:aO U c T' wp p {x.y with D9:=ld})=>nB U c T' wp p g {x.y with D9:=ld} a1 a2 ⟨hx.task,hx.B6,.inl rfl,hx.key,hld,hx.E0,hx.done⟩ hn 5 zO);have G:=Z2 hky al;clear hn hky al;obtain⟨vs,h⟩:=h;have HG:=Z2 hg h;have am:=hk;have HK:=Z1 am;clear hg h hrd hx am az a0
 go_in
 go_wp2_with fail;refine zm HR.o λw1 H=>?_;have d:=HG.o.2.up H;have q2:=dH d.B0;rw[hk]at q2;have q3:=gv d.B0;have q4:=gw d.B0;have f3:=d.B0.frozen 3;have f4:=d.B0.frozen 4;have L:=Z2 H d;clear d H HR hk a5;go_upto_region 13 with fail
 have i:=(L.o.2.B0.B4 3 (I (-1))).B4 4 (.bool false);rw[iV]at i;obtain⟨D,a1,a2,a3,a4⟩:=bc.after L.o.1 (aV.own (x':=x.y) (HG.o.1.up L.o.1) L.o.2 ((aI.B4 _ _ _ _).trans (aI.B4 _ _ _ _)) i rfl L.o.2.nil);have N:Hid (WsI w _ c T D wp p g x):=Z1 ⟨a1,a2,a3,a4⟩;clear a1 a2 a3 a4 i q2 q3 q4 f3 f4;obtain⟨sp,v,tp,lb,S,h1,h2,q,_,h5⟩:=N.o.g_.storeAt;have O:=q.J4 hc x.key;have a:=(q.row _ O).get q.D7;obtain⟨z,F⟩:∃z,ap S.rows[homeN c x.key].zs x.key=some z:=by
  cases F:ap S.rows[homeN c x.key].zs x.key with
  |none=>rw[F]at a;exact absurd a G.o.1
  |some z=>exact⟨z,rfl⟩
 rw[F]at a;have hs:=Cg.small hc;generalize hU:((w1.setCell (Y p 3) (I (-1))).setCell (Y p 4) (.bool false))=U at*;clear hU;have bh:=Z1 h1;have bi:=Z1 (λW (hW:M U W)=>iP W c hc D wp p g x.y (N.o.g_.up hW) (N.o.at_.up hW) G.o.2);have bj:=Z1 (λW (hW:M U W)=>i8 W c D sp v tp lb S (h2.up hW) (by rw[q.n];exact hs.2.1) (homeN c x.key) O);have r:=Z1 (λW (hW:M U W)=>rE W c _ _ _ _ (((h2.up hW).F1 _ O).at_) x.key G.o.2);rw[ji,F]at r;have bk:=Z1 (λW (hW:M U W)=>DF W c hc D sp v tp lb S g.mp (h2.up hW) q x.key O z F);have bl:=Z1 (show z.x.C6 c from q.C6 _ (bR (by rw[a];rfl:ap g.mp.ls x.key=some z.x)));have bm:=Z1 h5;have an:(ap g.mp.ls x.key).getD .new=z.x:=by rw[a];rfl
 rw[an]at HX;obtain⟨ao,P⟩:=N.o.at_;have Q:=Z1 P;have s:=(zi U);have hS:=P.B0.drew;have aq:x.key.val=.agg #[E x.key.hi,E x.key.lo]:=rfl;rw[aq]at r;simp only[PT,Qd]at r;generalize S.rows[homeN c x.key].p=ca at*;clear h1 h2 q h5 a F an P aq O;refine bW 15 (S:=λV=>Blk V p 203 (cr wp ao x.y)) zR zR hS ?_;simp only[OM,OO,ON,OQ];try simp only[zD,zE,Nat.reduceAdd,zG]
 refine zL ?_;refine zq 4 ?_ (λW hW=>?_) ?_;rotate_left
 ·have q0:=iy hW;exact zf
 refine zL ?_;refine zq 12 ?_ (λW hW=>?_) ?_;rotate_left
 ·have q5:=rS hW;have q6:=rT hW;exact zf
 refine zo 5 λK hK=>?_;go_simp
 (refine(bh.o _ s).mono ?_)
 rintro e3 w3 ⟨rfl,rfl⟩;refine zJ hK hS ?_;refine zo 7 λK hK=>?_;go_simp;refine zm (bi.o _ s) λw4 R=>?_;have t:=af s R;have u:=hS.later R;refine zJ hK u ?_;refine zo 8 λK hK=>?_;go_simp
 (refine(bj.o _ t).mono ?_)
 rintro e5 w5 ⟨rfl,rfl⟩;refine zJ hK u ?_;refine zo 13 λK hK=>?_;go_simp;refine zm (r.o _ t) λw6 X=>?_;have A:=af t X;have B:=u.later X;refine zJ hK B ?_;refine zo 14 λK hK=>?_;go_simp
 (refine(bk.o _ A).mono ?_)
 rintro e7 w7 ⟨rfl,T7,t1,t2,t3,t4⟩;obtain⟨g7,k7⟩:=bm.o _ _ _ A t1 t2 t3;have j:=k7.B0 B λe=>by rw[Q.o.tp]at e;exact e
 refine zJ hK j ?_;rw[bI];have aa:=(t1.keepT B.lt (by rw[Q.o.tp];intro k f;cases f)).trans Q.o.tp;have l:=Z6 t1 g7 k7 t4 A aa;have q7:=DE j;have f7:=j.frozen 7;have bt:=Z1 j;clear s hS u B j t A R X t1 t2 t3 t4 g7 k7 aa;go_wp2_with fail;have hO:=aI.B4 p w7 7 (Z z.p 0);have i:=bt.o.B4 7 (Z z.p 0);rw[NG wp ao x.y z.p z.x]at i;have ab:=hO.B7;have m:Hid (aW D T7 w6.heap.size/\GAt _ c T7 wp g/\eM _ c T7 wp p {x.y with D9:=z.x} (Z z.p 0)/\ag (λb=>eN (D b)\/b=p) w6 _):=Z1 ⟨l.o.1,l.o.2.1.only l.o.2.2.2.2.2 hO,⟨i,l.o.2.2.2.2.2,.inr ⟨z.p,rfl,l.o.2.2.2.1.B7 ab λb e2 e3=>by rw[e3,l.o.2.2.2.2.2]at e2;cases e2⟩⟩,(l.o.2.2.1.C3 λb e=>.inl e).trans (ab.C3 λb e=>.inr e)⟩;clear hO i ab q7 f7;refine zm (a7.o _ _ z.x bl.o m.o.2.1 ⟨_,m.o.2.2.1⟩) λw9 ar=>?_;obtain⟨T9,c1,c2,c3,c4⟩:=m.o.2.2.1.F4 ar;have HC:=Z4 c1 c2 c3 c4;have q2:=dH c3.B0;have f2:=c3.B0.frozen 2;clear ar c1 c2 c3 c4;go_wp2;refine zt ?_;refine⟨rfl,?_⟩;rw[HX.o];refine N.o.fin (bc.after l.o.2.2.2.2.1 (bc.trans m.o.1 m.o.2.2.2 (bc.trans HC.o.1 HC.o.2.2.2 (aV.B6 HC.o.2.1 HC.o.2.2.1 5 (λe=>by cases e) rfl))))
structure ge(c:Cg)(ps:List (List Cl)):Prop where
 cfg:c.ok
 each:∀p∈ps,p.length<=1000/\∀y∈p,y.ok
 E5:ps.flatten.length<=1000
structure dI(c:Cg)(ps:List (List Cl))(e:En):Prop where
 L:lG c e
 Q:gb c ps e
 E:fC c ps e
section
variable {c:Cg} {ps:List (List Cl)} {e:En} {t j:Nat}
def dI.new(hp:ge c ps)(n:Nat)(hn:ps.length+n<=32):dI c ps (.new c ps n):=⟨.new hp.cfg ps n hn,.new c ps n,.new c ps n⟩
def dI.go(hp:ge c ps)(h:dI c ps e)(hu:e.used<=30000)(hr:e.ready c t=true):dI c ps (e.go c t):=⟨h.L.go hp.cfg hr,h.Q.go hp.cfg h.L hr,h.E.go hp.cfg h.L h.Q hp.each hu hr⟩
def dI.evs(h:dI c ps e)(hu:e.used<=30000):e.g.ev.length<=60000:=by have:=h.E.len;omega
def dI.E5(hp:ge c ps)(h:dI c ps e)(hu:e.used<=30000):e.g.E5:=by
 have a:=h.L.lk.E5 (n:=c.st+1) zO;have b:e.g.lock ((c.st+1:Nat):Int)=e.g.ln:=by have:=Go.Fw.lock_ln h.L.lk.len;simpa using this
 rw[b]at a;have f:=h.L.lk.S9;have i:=h.Q.E5;have j:=hp.E5;have k:=h.E.L9.B9;have l:=h.evs hu;exact⟨zO,zO,λt d=>by have:=(h.L.lk.H7 t d).1;have:=h.L.lk.n32;constructor<;>omega,⟨zO,zO,zO⟩,zO⟩
def dI.S4(hp:ge c ps)(h:dI c ps e){x:Ci}(hx:e.cs[t]?=some x):x.ok c:=by
 have b:=h.Q.prog t x hx;obtain⟨g,i⟩:=hp.each _ (Qx b);have a:=h.L.I1 t x hx;have m:=h.L.J0 t x hx;have o:=cz hx;have d:=h.L.lk.n32;refine⟨i,g,by unfold En.count at d;omega,a.nth,?_,a.B8.imp id λ⟨n,j,k,_⟩=>⟨n,j,k⟩,h.E.P0 t x hx⟩;by_cases f:x.at_=0
 ·obtain⟨r,l,_⟩:=kC hp.cfg x.call;rw[f,l];simp
 ·refine Pg λq=>(a.rem f).2.2 ?_;unfold dZ;rw[Rc];omega
def dI.wok(hp:ge c ps)(h:dI c ps e)(hu:e.used<=30000)(hx:e.ws[j]?=some x):x.ok c:=by
 have a:=h.L.Q1 j x hx;have l:=h.L.I4 j x hx;have m:=cz hx;have b:=h.L.lk.n32;obtain⟨d,f,g,o⟩:=h.E.K9 j x hx;exact⟨by unfold En.count at b;omega,a.B6,a.B8.imp id λ⟨n,i,k,_⟩=>⟨n,i,k⟩,g,d,f,zO⟩
def DG(hc0:c.ok)(x:Cl):(aF c x).length<=1000:=by
 obtain⟨r,a,_,_,_,_,_,_,h,_⟩:=kC hc0 x;rw[a];simp;omega
def dI.U5(hp:ge c ps)(h:dI c ps e)(hu:e.used<=30000){x:Ci}(hx:e.cs[t]?=some x)(hr:x.ready e.g=true):Lo c e.g x:=by
 have u:=Ci.G0 hr;have f:=h.L.I1 t x hx;have m:=(h.S4 hp hx).call u;obtain⟨o,v⟩:=f.place (hc0:=hp.cfg) u;have ae:=h.evs hu;have i:be c x x.at_=opNow c x:=rfl;have j:∀n:Nat,n<c.st+2->(e.g.lock n).line.length<=900:=λn N=>OJ (h.L.lk.E5 N) zP
 rcases v with⟨w,y⟩|⟨w,z,A,O,P,Q,R⟩
 ·have S:(be c x x.at_).1=1:=by rw[i,y]
  exact⟨zO,λq=>absurd S q,λ_=>zO,λq=>zO,λq=>zO,λq=>zO,λq=>zO,λq=>zO⟩
 ·rw[<-i]at z A O P Q R;refine⟨zO,λ_=>w,λq=>zO,λq=>?_,λq=>?_,λq=>?_,λq=>?_,λq=>zO⟩
  ·obtain⟨n,p,b,_⟩:=z q;exact⟨n,p,b,j n b⟩
  ·obtain⟨_,T,_⟩:=JU c e.g x.call;have af:=h.E.L9.B9;refine⟨h.E5 hp hu,by rw[T];exact(xT hp.cfg h.E.C6 m.2.2 zO).2,?_⟩;rw[(xP e.g c h.L.lk x.call).2.2];omega
  ·obtain⟨n,p,b,U,X,q5⟩:=A q;have hl:x.at_+1<(aF c x.call).length:=by
    refine Pg λq=>X ?_;unfold fP;rw[Rc];omega
   refine⟨n,p,b,f.has hr b U,j n b,hl,λd=>?_⟩;have B:∀k,be c x (x.at_+1+k)=(fP c x).getD k (0,0):=λk=>oI _ _ _;have e2:((fP c x).headD (0,0)).2=lineN c:=by
    have D:=B 0;rw[Qt]at D;rw[D]at d
    cases hq:fP c x with
    |nil=>rw[hq]at d;exact d
    |cons a r=>rw[hq]at d;exact d
   have F:=q5 (.inr e2);have G:=B 3;rw[F,show x.at_+1+3=x.at_+4 from by omega]at G;refine⟨?_,?_⟩
   ·have H:(fP c x).length=4:=by rw[F];rfl
    unfold fP at H;rw[PW]at H;omega
   ·rw[G];simp[eS,lineN];omega
  ·have s:gU (dZ c x)=true:=jY.2 ⟨_,by rw[o];exact Qc,q⟩;have hk:=xS hp.cfg s;have l:=mY hk.2 zO;exact⟨h.E5 hp hu,l,jh _ (dn l).2.1⟩
end
def Sy{α:Type}{motive:List α->Prop}(l:List α)(nil:motive [])(append_singleton:∀(r:List α) (y:α),motive r->motive (r++[y])):motive l:=by
 have h:∀l:List α,motive l.reverse:=λl=>by
  induction l with
  |nil=>exact nil
  |cons a r ih=>rw[List.reverse_cons];exact append_singleton _ _ ih
 have:=h l.reverse
 rwa [List.reverse_reverse]at this
section
variable {c:Cg} {ps:List (List Cl)} {e:En} {g':Gs} {t j:Nat}
end
def Tk(x:Vt):Bool:=x.kind==2&&(x.call.k==3&&x.rep.err==0)
def Ti(n:Int)(x:Vt):Bool:=x.kind==2&&(x.call.k==4&&(x.call.handle==n&&x.rep.err==0))
def Th(l:List Vt)(n:Int):Bool:=l.any (Ti n)
def cutsM(c:Cg)(l:List Vt):Nat:=(fK c l).B9.length
def TJ{α:Type}{l:List (Option α)}{n:Int}(h:findE l n=0):1<=n/\n<=l.length:=by
 unfold findE at h;split at h
 ·cases h
 ·omega
def Tt(x:Cl):
  (x.k=3/\(doM c m x).2.err=0/\(doM c m x).1.B9=m.B9++[some m.ls]/\(doM c m x).2.I9=m.B9.length+1/\(doM c m x).2.handle=m.B9.length+1)\/
  (x.k=4/\(doM c m x).2.err=0/\1<=x.handle/\x.handle<=m.B9.length/\(doM c m x).1.B9=m.B9.set (x.handle.toNat-1) none)\/
  ((doM c m x).1.B9=m.B9/\¬(x.k=3/\(doM c m x).2.err=0)/\¬(x.k=4/\(doM c m x).2.err=0)):=by
 by_cases b:aH x=0
 ·by_cases d:x.k=3
  ·have e:doM c m x=if 64<=liveN m.B9 then(m,.of 6)else({m with B9:=m.B9++[some m.ls]},⟨0,m.B9.length+1,m.B9.length+1,.zero,az⟩):=by
    unfold doM;rw[Oz (by simpa using b),Oz zO,Oz zO,OB d]
   rw[e];by_cases a:64<=liveN m.B9
   ·rw[OB a];exact .inr (.inr ⟨rfl,λq=>by have:=q.2;simp[Rp.of]at this,λq=>zO⟩)
   ·rw[Oz a];exact .inl ⟨d,rfl,rfl,rfl,rfl⟩
  ·by_cases f:x.k=4
   ·have e:doM c m x=if findE m.B9 x.handle=0 then({m with B9:=m.B9.set (x.handle.toNat-1) none},.zero)else(m,.of (findE m.B9 x.handle)):=by
     unfold doM;rw[Oz (by simpa using b),Oz zO,Oz zO,Oz d,OB f]
    rw[e];by_cases a:findE m.B9 x.handle=0
    ·rw[OB a];obtain⟨g,h⟩:=TJ a;exact .inr (.inl ⟨f,rfl,g,h,rfl⟩)
    ·rw[Oz a];exact .inr (.inr ⟨rfl,λq=>d q.1,λq=>a q.2⟩)
   ·refine .inr (.inr ⟨?_,λq=>d q.1,λq=>f q.1⟩);unfold doM;rw[Oz (by simpa using b)];split
    ·split<;>rfl
    split
    ·rfl
    first|rw[Oz d,Oz f]|skip
    split
    ·split
     ·split<;>rfl
     ·rfl
    split
    ·split<;>rfl
    split
    ·split<;>rfl
    split<;>rfl
 ·have e:doM c m x=(m,.of (aH x)):=by unfold doM;rw[OB b]
  rw[e];exact .inr (.inr ⟨rfl,λq=>b q.2,λq=>b q.2⟩)
def Tq(k:K2)(a:Adv):(eo c m k a).1.B9=m.B9:=by unfold eo;split<;>rfl
structure TM(c:Cg)(l:List Vt):Prop where
 snap:∀(i:Nat) (h:i<l.length),Tk l[i]=true->l[i].rep.I9=(cutsM c (l.take i):Int)+1/\l[i].rep.handle=(cutsM c (l.take i):Int)+1/\(fK c l).B9[cutsM c (l.take i)]?=some (if Th l ((cutsM c (l.take i):Int)+1)=true then none else some (fK c (l.take i)).ls)
 free:∀n,Th l n=true->1<=n/\n<=cutsM c l
def Tj(x:Vt)(n:Int):Th (l++[x]) n=(Th l n||Ti n x):=by unfold Th;rw[List.any_append];simp
def TE{c:Cg}{l:List Vt}{x:Vt}(h:mT c (l++[x])):mT c l/\(cd c (fK c l) x).2=true:=by
 refine⟨λk a=>?_,?_⟩
 ·have:=h k zT;rw[PK a,QN zO]at this;exact this
 ·have:=h l.length zS
  simpa using this
def TK{c:Cg}:mT c l->TM c l:=by
 induction l using Sy with
 |nil=>exact λ_=>⟨λi h=>by simp at h,λn h=>by simp[Th]at h⟩
 |append_singleton l x ih=>
  intro P;obtain⟨Q,H⟩:=TE P;obtain⟨r,o⟩:=ih Q;have s:fK c (l++[x])=(cd c (fK c l) x).1:=sS c l x;have p:(fK c (l++[x])).B9=(fK c l).B9->Tk x=false->(∀n,Ti n x=false)->TM c (l++[x]):=λf g m=>by
   have d:∀n,Th (l++[x]) n=Th l n:=λn=>by rw[Tj,m,Bool.or_false]
   refine⟨λi t b=>?_,λn j=>?_⟩
   ·by_cases a:i<l.length
    ·rw[PK a]at b ⊢;rw[QN zO,f,d];exact r i a b
    ·obtain rfl:i=l.length:=by simp at t;omega
     simp[g]at b
   ·rw[d]at j;unfold cutsM;rw[f];exact o n j
  by_cases u:x.kind=2
  ·have L:cd c (fK c l) x=((doM c (fK c l) x.call).1,decide ((doM c (fK c l) x.call).2=x.rep)):=by unfold cd;rw[OB u]
   rw[L]at H s;have B:(doM c (fK c l) x.call).2=x.rep:=QL H
   rcases Tt c (fK c l) x.call with⟨f,g,m,D,z⟩|⟨f,g,m,D,z⟩|⟨f,g,m⟩
   ·rw[B]at g D z;have d:∀n,Th (l++[x]) n=Th l n:=λn=>by
     rw[Tj];have:Ti n x=false:=by unfold Ti;simp[f]
     rw[this,Bool.or_false]
    have e:(fK c (l++[x])).B9=(fK c l).B9++[some (fK c l).ls]:=by rw[s];exact m
    refine⟨λi t b=>?_,λn j=>?_⟩
    ·by_cases a:i<l.length
     ·rw[PK a]at b ⊢;rw[QN zO,e,d];obtain⟨F,G,v⟩:=r i a b;refine⟨F,G,?_⟩;rw[Pk (OZ.1 v).1];exact v
     ·obtain rfl:i=l.length:=by simp at t;omega
      rw[QN (OA _),PO,e,d];have R:Th l ((cutsM c l:Int)+1)=false:=by
       cases w:Th l ((cutsM c l:Int)+1)with
       |false=>rfl
       |true=>have:=(o _ w).2;omega
      rw[R];refine⟨by rw[Qi (OA _)];simpa[cutsM]using D,by rw[Qi (OA _)];simpa[cutsM]using z,?_⟩;show((fK c l).B9++[some (fK c l).ls])[(fK c l).B9.length]?=_;simp
    ·rw[d]at j;have:=o n j;unfold cutsM at this ⊢;rw[e,OS];simp;omega
   ·rw[B]at g;have e:(fK c (l++[x])).B9=(fK c l).B9.set (x.call.handle.toNat-1) none:=by rw[s];exact z
    have A:∀n,Ti n x=decide (x.call.handle=n):=λn=>by
     unfold Ti;by_cases w:x.call.handle=n<;>simp[u,f,g,w]
    have N:Tk x=false:=by unfold Tk;simp[f]
    refine⟨λi t b=>?_,λn j=>?_⟩
    ·by_cases a:i<l.length
     ·rw[PK a]at b ⊢;rw[QN zO,e,Tj,A];obtain⟨F,G,v⟩:=r i a b;refine⟨F,G,?_⟩;generalize cutsM c (l.take i)=q at*;have w:=(OZ.1 v).1;by_cases O:x.call.handle=(q:Int)+1
      ·rw[OB (by simp[O]),show x.call.handle.toNat-1=q by omega,Ro w]
      ·rw[Qf zO,v];simp[O]
     ·obtain rfl:i=l.length:=by simp at t;omega
      simp[N]at b
    ·rw[Tj,A]at j;unfold cutsM;rw[e,PI]
     rcases Bool.or_eq_true_iff.1 j with q|q
     ·exact o n q
     ·have:=QL q;omega
   ·rw[B]at g m;refine p (by rw[s];exact f) ?_ λn=>?_
    ·unfold Tk;by_cases y:x.call.k=3
     ·have:¬x.rep.err=0:=λq=>g ⟨y,q⟩;simp[this]
     ·simp[y]
    ·unfold Ti;by_cases y:x.call.k=4
     ·have:¬x.rep.err=0:=λq=>m ⟨y,q⟩;simp[this]
     ·simp[y]
  ·refine p ?_ (by unfold Tk;simp[u]) λn=>by unfold Ti;simp[u]
   rw[s];unfold cd;rw[Oz u];split
   ·exact Tq _ _ _ _
   ·rfl
def TF{c:Cg}{l:List Vt}(hl:mT c l)(hi:i<l.length):cutsM c (l.take (i+1))=if Tk l[i]=true then cutsM c (l.take i)+1 else cutsM c (l.take i):=by
 have f:=hl i hi;have k:=oH (c:=c) hi;unfold cutsM;rw[k];generalize l[i]=x at*;generalize fK c (l.take i)=m at*;by_cases b:x.kind=2
 ·have g:cd c m x=((doM c m x.call).1,decide ((doM c m x.call).2=x.rep)):=by unfold cd;rw[OB b]
  rw[g]at f ⊢;have h:(doM c m x.call).2=x.rep:=QL f;unfold Tk
  rcases Tt c m x.call with⟨d,a,e,n,j⟩|⟨d,a,e,n,j⟩|⟨d,a,e⟩
  ·rw[h]at a;simp[b,d,a,e]
  ·simp[d,j]
  ·rw[h]at a;show(doM c m x.call).1.B9.length=_;rw[d,Oz];intro q;simp[b]at q;exact a q
 ·rw[Oz (by unfold Tk;simp[b])];unfold cd;rw[Oz b];split
  ·rw[Tq]
  ·rfl
section
set_option maxRecDepth 100000
def TB(hi:∀x∈l,x.ok)(hd:Int)(A:Option Addr)(k n:Nat)(w:World)(hr:an w w.heap.size 34 A n (vts l))(hl:n<=80000):
  C 32 #[.slice A n k,I hd] w (J (.bool (Th l hd)) w):=by
 have G:=jU hi;rw[<-iL]at hr;have R:n=l.length:=by have:=kA G hr;simpa using this
 have m:=Z3 hi G R;clear hi G R
 go_in
 go_wp2;go_loopw [9] (λi wr=>∃(j:Nat),j<=n/\i=I j/\Hid (Th (l.take j) hd=false)/\Hid (M w wr)) (λi _=>n-(intOf i).toNat)
 case atStart=>exact⟨0,OK _,rfl,Z1 rfl,Z1 (Oy _ _)⟩
 case round=>
  obtain⟨j,hj,rfl,H,L⟩:=hrel;by_cases am:j<n
  ·have v:j<(l.map aK).length:=by have:=m.o.2.2;simp;omega
   have f:j<l.length:=by have:=m.o.2.2;omega
   obtain⟨b,o,rfl,_,g⟩:=mw m.o.2.1 (hr.below L.o) v;have y:(l.map aK)[j]=aK l[j]:=zS;rw[y]at g;have u:=oG (m.o.1 _ (OR f));have z:Th (l.take (j+1)) hd=Ti hd l[j]:=by
    rw[OG f,Tj,H.o,Bool.false_or]
   have p:Ti hd l[j]=true->Th l hd=true:=λq=>by
    unfold Th;exact Sq.2 ⟨_,OR f,q⟩
   generalize l[j]=x at*;have a:=Z3 u.size u.all (dw g);have c:=Z2 z p;have HR:=Z1 hr;have S:=eu (w:=wr) (t:=79) u.c0;have c3:=eu (w:=wr) (t:=79) (show(aK x).cs[3]?=some (I x.call.k)from rfl);have c7:=eu (w:=wr) (t:=79) (show(aK x).cs[7]?=some (I x.call.handle)from rfl);have T:=eu (w:=wr) (t:=79) (show(aK x).cs[14]?=some (I x.rep.err)from rfl);have af:(j:Int)<(n:Int):=zO;have r:(aK x).cs=x.arr:=rfl;have B:(aK x).kind=x.kind:=rfl;have D:Ti hd x=(x.kind==2&&(x.call.k==4&&(x.call.handle==hd&&x.rep.err==0))):=rfl;rw[D]at c;rw[r]at a S c3 c7 T;rw[B]at S;have F:=ae L.o (.cells x.arr 79);have h:=Z1 F;generalize x.arr=d at*;generalize x.kind=U at*;generalize x.call.k=X at*;generalize x.call.handle=yh at*;generalize x.rep.err=ye at*;clear g u y hr z v f r B F p D;by_cases N:U=2
   ·subst N;by_cases O:X=4
    ·subst O;by_cases P:yh=hd
     ·subst P;by_cases Q:ye=0
      ·subst Q;have HT:=Z1 (c.o.2 zS);clear c
       go_wp2_with (first|(refine aG ba rfl (.tmp 11) rfl (Y b (o+j*34)) zF d a.o.1 a.o.2.2 ?_)|(refine aS ba rfl rfl ?_)|(refine aT ba rfl (.tmp 6) (.tmp 12) rfl _ rfl zF d _ zF _ a.o.1 ba.D6 a.o.2.1 ?_))
       go_ret;exact⟨by rw[HT.o];rfl,h.o⟩
      ·have q4:(ye==0)=false:=by simpa using Q
       rw[q4]at c;clear Q
       go_wp2_with (first|(refine aG ba rfl (.tmp 11) rfl (Y b (o+j*34)) zF d a.o.1 a.o.2.2 ?_)|(refine aS ba rfl rfl ?_)|(refine aT ba rfl (.tmp 6) (.tmp 12) rfl _ rfl zF d _ zF _ a.o.1 ba.D6 a.o.2.1 ?_))
       go_roundw
       case rel=>exact⟨j+1,zO,by go_num,Z1 (by rw[c.o.1];simp),h⟩
       case measure=>simp[intOf];omega
     ·have q3:(yh==hd)=false:=by simpa using P
      rw[q3]at c;clear P
      go_wp2_with (first|(refine aG ba rfl (.tmp 11) rfl (Y b (o+j*34)) zF d a.o.1 a.o.2.2 ?_)|(refine aS ba rfl rfl ?_)|(refine aT ba rfl (.tmp 6) (.tmp 12) rfl _ rfl zF d _ zF _ a.o.1 ba.D6 a.o.2.1 ?_))
      go_roundw
      case rel=>exact⟨j+1,zO,by go_num,Z1 (by rw[c.o.1];simp),h⟩
      case measure=>simp[intOf];omega
    ·have q2:(X==4)=false:=by simpa using O
     rw[q2]at c;clear O
     go_wp2_with (first|(refine aG ba rfl (.tmp 11) rfl (Y b (o+j*34)) zF d a.o.1 a.o.2.2 ?_)|(refine aS ba rfl rfl ?_)|(refine aT ba rfl (.tmp 6) (.tmp 12) rfl _ rfl zF d _ zF _ a.o.1 ba.D6 a.o.2.1 ?_))
     go_roundw
     case rel=>exact⟨j+1,zO,by go_num,Z1 (by rw[c.o.1];simp),h⟩
     case measure=>simp[intOf];omega
   ·have q1:(U==2)=false:=by simpa using N
    rw[q1]at c;clear N
    go_wp2_with (first|(refine aG ba rfl (.tmp 11) rfl (Y b (o+j*34)) zF d a.o.1 a.o.2.2 ?_)|(refine aS ba rfl rfl ?_)|(refine aT ba rfl (.tmp 6) (.tmp 12) rfl _ rfl zF d _ zF _ a.o.1 ba.D6 a.o.2.1 ?_))
    go_roundw
    case rel=>exact⟨j+1,zO,by go_num,Z1 (by rw[c.o.1];simp),h⟩
    case measure=>simp[intOf];omega
  ·obtain rfl:n=j:=zO;have s:Th l hd=false:=by
    have:=H.o
    rwa [m.o.2.2,PO]at this
   have HX:=Z1 s;clear s H;go_wp2;go_ret;exact⟨by rw[HX.o];rfl,L.o⟩
end
def DH(r:Nat->Bool)(pick:Int)(n:Nat):Int:=match fM r (pickN pick n) n n 0 with
 |some t=>(t:Int)
 |none=> -1
def cntN(o:Nat->Bool):Nat->Nat
 |0=>0
 |n+1=>cntN o n+if o n=true then 0 else 1
def BJ(o:Nat->Bool):∀n,cntN o n<=n
 |0=>OA _
 |n+1=>by have:=BJ o n;unfold cntN;split<;>omega
def ifC(p:Nat):Value:=.iface 117 (Z p 0)
def ifW(p:Nat):Value:=.iface 119 (Z p 0)
def BK(w:World):(method 176 117 (.pointer (some a)) "Over").run prog w=.ok (257,.pointer (some a)) w:=zR
def KD(w:World):(method 176 117 (.pointer (some a)) "Ready").run prog w=.ok (258,.pointer (some a)) w:=zR
def ML(w:World):(method 176 117 (.pointer (some a)) "Step").run prog w=.ok (259,.pointer (some a)) w:=zR
def MM(w:World):(method 176 119 (.pointer (some a)) "Over").run prog w=.ok (337,.pointer (some a)) w:=zR
def KE(w:World):(method 176 119 (.pointer (some a)) "Ready").run prog w=.ok (338,.pointer (some a)) w:=zR
def MN(w:World):(method 176 119 (.pointer (some a)) "Step").run prog w=.ok (339,.pointer (some a)) w:=zR
def NH(hc:c.ok)(T:Nat->Tg)(wp p:Nat)(g:Gs)(x:Ci)(hg:GAt w c T wp g)(h:cY w c T wp p x)(hx:x.ok c):C 100 #[ifC p] w (J (.bool (x.ready g)) w):=by
 have j:=Z1 (oT w c T wp p x h hx);have k:=Z1 (λU (d:M w U)=>qU U c hc T wp p g x (hg.up d) (h.up d) hx);have l:Hid (x.over=true->x.ready g=false):=Z1 λe=>by unfold Ci.ready;rw[e];rfl
 have n:=BK;have q:=KD;generalize x.over=m at*;generalize x.ready g=r at*;clear hg h hx;unfold ifC
 go_in
 go_wp2_with fail;refine zm j.o λs a=>?_
 cases m with
 |true=>
  go_wp2;go_ret;exact⟨cN (l.o zS).symm,a⟩
 |false=>
  have f:=Z1 a;clear a;go_wp2_with fail;refine zm (k.o _ f.o) λt b=>?_;have i:=Z1 (af f.o b);clear b;go_wp2;go_ret;exact⟨cN zS,i.o⟩
def NI(hc:c.ok)(T:Nat->Tg)(wp p:Nat)(g:Gs)(x:Wi)(hg:GAt w c T wp g)(h:aO w c T wp p x)(hx:x.ok c):C 100 #[ifW p] w (J (.bool (x.ready c g)) w):=by
 have j:=Z1 (tf w c T wp p x h);have k:=Z1 (λU (d:M w U)=>ch U c hc T wp p g x (hg.up d) (h.up d) hx);have l:Hid (x.over=true->x.ready c g=false):=Z1 λe=>by unfold Wi.ready;rw[e];rfl
 have n:=MM;have q:=KE;generalize x.over=m at*;generalize x.ready c g=r at*;clear hg h hx;unfold ifW
 go_in
 go_wp2_with fail;refine zm j.o λs a=>?_
 cases m with
 |true=>
  go_wp2;go_ret;exact⟨cN (l.o zS).symm,a⟩
 |false=>
  have f:=Z1 a;clear a;go_wp2_with fail;refine zm (k.o _ f.o) λt b=>?_;have i:=Z1 (af f.o b);clear b;go_wp2;go_ret;exact⟨cN zS,i.o⟩
def AQ{pick:Int}{n:Nat}(hn:0<n):ed pick n=(pickN pick n:Int):=by
 unfold ed pickN;rw[Oz zO];have:=RY pick (show(n:Int)≠0 by omega);omega
def vJ(vs:List Value)(pick:Int)(A:Option Addr)(k n:Nat)(w:World)(hr:an w w.heap.size 1 A n vs)(hn0:0<n)(hn:n<=1000)(hp:aq pick)
  (hcan:∀j (hj:j<vs.length) U,M w U->C 100 #[vs[j]] U (J (.bool (r j)) U)):
  C 51 #[.slice A n k,I pick] w (J (I (DH r pick n)) w):=by
 have y:n=vs.length:=by have:=hr.len;simpa using this
 have P:=Z1 hcan;have Q:=Z1 y;have z:=Mx (p:=pick) hn0;have h:=AQ (pick:=pick) hn0;obtain⟨a,u⟩:∃a,a=pickN pick n:=⟨_,rfl⟩;rw[<-u]at z h;obtain⟨b,c⟩:∃b,b=DH r pick n:=⟨_,rfl⟩;have f:Hid (b=match fM r a n (n-0) 0 with|some t=>(t:Int)|none=> -1):=Z1 (by rw[c,u];rfl);rw[<-c];have B:=Z1 h;clear y hcan u c h
 go_in
 go_wp2_with fail;refine(pS pick n w hp ⟨zO,zO⟩).mono ?_;rintro e1 w1 ⟨rfl,rfl⟩;rw[B.o];go_wp2_with fail;go_loopw [14] (λi wr=>∃(q:Nat),q<=n/\i=I q/\Hid (b=match fM r a n (n-q) q with|some t=>(t:Int)|none=> -1)/\M w wr) (λi _=>n-(intOf i).toNat)
 case atStart=>exact⟨0,zO,rfl,f,Oy _ _⟩
 case round=>
  clear f;obtain⟨q,hq,rfl,f,l⟩:=hrel;by_cases S:q<n
  ·obtain⟨j,hj⟩:∃j,j=(a+q)%n:=⟨_,rfl⟩;have D:j<n:=by rw[hj];exact Rj _ zO
   have F:((a:Int)+(q:Int))%(n:Int)=(j:Int):=by rw[hj,Int.natCast_emod,Int.natCast_add]
   have m:j<vs.length:=by have:=Q.o;omega
   obtain⟨ad,v,rfl,_,x,hc⟩:=(hr.below l).at_ D;have G:v=vs[j]:=by simp[m]at x;exact x.symm
   subst G;have d:fM r a n (n-q) q=if r j=true then some j else fM r a n (n-(q+1)) (q+1):=by
    rw[show n-q=(n-(q+1))+1 from by omega,fM,hj]
   have H:=Z1 (P.o j m);generalize vs[j]=v at*;have T:((n:Int)==0)=false:=zT;have X:(a:Int)<(n:Int):=zO;have aa:(0:Int)<=(a:Int)+(q:Int):=zO;have R:(j:Int)<(n:Int):=zO;have L:=Z1 d;have N:=Z1 F;clear d hj x;go_wp2_with fail;refine zm (H.o _ l) λw2 O=>?_;have s:=af l O
   cases hrt:r j with
   |true=>
    have g:Hid ((j:Int)=b):=by show _=_;rw[f.o,L.o,hrt];rfl
    clear hrt;go_wp2;go_ret;exact⟨aC (by first|exact g.o|(rw[N.o];exact g.o)),s⟩
   |false=>
    have g:Hid (b=match fM r a n (n-(q+1)) (q+1)with|some t=>(t:Int)|none=> -1):=by show _=_;rw[f.o,L.o,hrt];rfl
    clear hrt;go_wp2;go_roundw
    case rel=>exact⟨q+1,zO,by go_num,g,s⟩
    case measure=>simp[intOf];omega
  ·have g:Hid (b= -1):=by
    show _=_;rw[f.o,show n-q=0 by omega];rfl
   go_wp2;go_ret;exact⟨aC g.o.symm,l⟩
def GE(o:Nat->Bool)(ps:List Nat)(A:Option Addr)(k n:Nat)(w:World)(hr:an w w.heap.size 1 A n (ps.map ifC))(hn:n<=1000)
  (hov:∀j (hj:j<ps.length) U,M w U->C 257 #[Z (ps[j]) 0] U (J (.bool (o j)) U)):
  C 101 #[.slice A n k] w (J (I (cntN o n:Int)) w):=by
 have g:n=ps.length:=by have:=hr.len;simpa using this
 have x:=Z1 hov;have y:=Z1 g;have G:=BK;clear g hov
 go_in
 go_wp2;go_loopw [3,8] (λs i wr=>∃(q:Nat),q<=n/\i=I q/\s=I (cntN o q:Int)/\M w wr) (λ_ i _=>n-(intOf i).toNat)
 case atStart=>exact⟨0,zO,rfl,rfl,Oy _ _⟩
 case round=>
  obtain⟨q,H,rfl,rfl,a⟩:=hrel;by_cases h:q<n
  ·have b:q<ps.length:=by have:=y.o;omega
   obtain⟨z,v,rfl,_,d,l⟩:=(hr.below a).at_ h;have m:v=ifC ps[q]:=by simp[b]at d;exact d.symm
   subst m;have p:=Z1 (x.o q b);have r:cntN o (q+1)=cntN o q+if o q=true then 0 else 1:=rfl
   have D:=BJ o q;generalize ps[q]=B at*;generalize cntN o q=S at*;have F:wr.cell? (z.add q)=some (.iface 117 (Z B 0)):=l;have t:=Z1 r;clear r d l;go_wp2_with fail;refine zm (p.o _ a) λL u=>?_;have c:=af a u
   cases hot:o q with
   |true=>
    have f:Hid (S=cntN o (q+1)):=Z1 (by rw[t.o,hot];rfl);clear hot;go_wp2;go_roundw
    case rel=>exact⟨q+1,zO,by go_num,by rw[<-f.o],c⟩
    case measure=>simp[intOf];omega
   |false=>
    have f:Hid (((S:Int)+1)=((cntN o (q+1):Nat):Int)):=Z1 (by rw[t.o,hot];rfl);clear hot;go_wp2;go_roundw
    case rel=>exact⟨q+1,zO,by go_num,by rw[<-f.o],c⟩
    case measure=>simp[intOf];omega
  ·obtain rfl:q=n:=zO;go_wp2;go_ret;exact⟨rfl,a⟩
def KF:∃z,cE prog 40 73 z 11 96:=by
 have h:(prog.info? 73).map (λi=>(i.zero.isSome,i.size,i.bytes))=some (true,11,96):=zR;have a:=dU.zero
 cases hi:prog.info? 73 with
 |none=>simp[hi]at h
 |some i=>
  cases hzz:i.zero with
  |none=>simp[hi,hzz]at h
  |some z=>
   simp[hi,hzz]at h a;exact⟨z,underlying40,by simp[hi,hzz,h],a⟩
def MO(l:List Cl):∀u∈cls l,u.oneCell'=true:=λu a=>by
 obtain⟨x,_,b⟩:=QU.1 a;have:=mF x;rw[Re]at this;exact this u (Array.mem_toList_iff.1 b)
def GF(hc:c.ok)(T:Nat->Tg)(wp:Nat)(g:Gs)(hg:GAt w c T wp g)(t:Nat)(ht:t<32)(prog:List Cl)(A:Option Addr)(k n:Nat)(hr:an w w.heap.size 11 A n (cls prog))(hn:n<=1000):
  Calls Tryz.prog 49 #[Z wp 0,I t,.slice A n k] w λe w'=>∃p,e=.returned (Z p 0)/\cY w' c (ext T w.heap.size .free) wp p (.new prog t)/\w.heap.size<=p/\M w w':=by
 have H:=Cg.I0 hc;have y:=Z1 (oS w c hc T wp g hg);have s:=AY hr;obtain⟨z,r⟩:=KF;obtain⟨B,f,h,i,j⟩:=info_parts r.info;have a:=Z5 r f h i j;have L:((c.st:Int)+2==0)=false:=zT;have N:decide ((32:Int)<=(t:Int))=false:=zT;have O:decide ((t:Int)<0)=false:=zS;have D:Hid (w.ownsRow w.heap.size 73 11 (.slice none 0 0) 0 []):=Z1 (Pn w _ _ _);have F:=Z1 s;clear hg r f h i j s
 go_in
 go_wp2_with fail;refine y.o.mono ?_;rintro P Q ⟨rfl,rfl⟩
 go_wp2_with (at_builtin;go_must (refine bP w rfl (.const (.slice none 0 0)) (.tmp 19) 40 rfl w.heap.size 73 B z 11 96 underlying40 a.o.2.1 a.o.2.2.1 a.o.2.2.2.1 a.o.2.2.2.2 a.o.1.cells zP (.slice none 0 0) 0 [] rfl D.o w.heap.size A n k (cls prog) rfl hr (MO prog) zU zO (OA _) ?_);intro R w' l u _;obtain⟨v,x,rfl,_,_⟩:=ak l)
 have d:=(Oy w.heap.size w).grown u (OA _) λq G=>by cases G
 go_ret;have m:w'.ownsRow w.heap.size 73 11 (.slice v n x) n (cls prog):=by simpa using l
 refine⟨w'.heap.size,rfl,⟨.slice v n x,.slice none 0 0,Blk.A8 w' _ _ rfl,cC T _ d.size,?_,λb e=>cC T _ (m.lt b e).1,.inl ⟨rfl,rfl⟩,λb e=>by cases e⟩,d.size,ae d _⟩;show World.ownsRow _ 0 _ 11 _ prog.length (cls prog);rw[<-F.o];exact aP (m.alloc _) (OK _)
def GG(hc:c.ok)(T:Nat->Tg)(wp:Nat)(g:Gs)(hg:GAt w c T wp g)(t:Nat)(ht:t<32):
  C 50 #[Z wp 0,I t] w λe w'=>∃p,e=.returned (Z p 0)/\aO w' c (ext T w.heap.size .free) wp p (.new t)/\w.heap.size<=p/\M w w':=by
 have b:=Cg.I0 hc;have a:=Z1 (oS w c hc T wp g hg);have d:((c.st:Int)+2==0)=false:=zT;have f:decide ((32:Int)<=(t:Int))=false:=zT;have h:decide ((t:Int)<0)=false:=zS;clear hg
 go_in
 go_wp2_with fail;refine a.o.mono ?_;rintro i j ⟨rfl,rfl⟩;go_wp2;go_ret;exact⟨w.heap.size,rfl,⟨.pointer none,Blk.A8 w _ _ rfl,cC T _ (OA _),.inl ⟨rfl,by show(0:Nat)≠5;decide,by show(0:Nat)≠6;decide⟩⟩,OA _,ae (Oy _ w) _⟩
def jp(wp:Nat)(vt vw:Value)(nc used:Nat):Array Value:=#[Z wp 0,vt,vw,I (nc:Int),I (used:Int)]
structure ew(w:World)(c:Cg)(T:Nat->Tg)(B wp ep:Nat)(e:En)(pcs pws:List Nat)(A:Option Addr)(k:Nat)(vw:Value)(used:Nat):Prop where
 B0:Blk w ep 116 (jp wp (.slice A e.count k) vw e.cs.length used)
 te:T ep=.free
 out:∀b,b<B->T b=.eng
 size:B<=w.heap.size
 g:GAt w c T wp e.g
 row:w.ownsRow 0 123 1 (.slice A e.count k) e.count (pcs.map ifC++pws.map ifW)
 tr:∀b,(Value.slice A e.count k).ownBlock=some b->T b=.free
 lc:pcs.length=e.cs.length
 lw:pws.length=e.ws.length
 D7:(pcs++pws).Nodup
 cs:∀(i:Nat) (x:Ci) p,e.cs[i]?=some x->pcs[i]?=some p->cY w c T wp p x
 ws:∀(j:Nat) (x:Wi) p,e.ws[j]?=some x->pws[j]?=some p->aO w c T wp p x
def ew.o:=@ew.out
def kY(w:World)(c:Cg)(B ep:Nat)(e:En):Prop:=∃T wp pcs pws A k vw,ew w c T B wp ep e pcs pws A k vw e.used
section
variable {w w':World} {c:Cg} {T T':Nat→Tg} {B wp ep:Nat} {e:En} {pcs pws:List Nat} {A:Option Addr} {k:Nat} {vw:Value} {used t j p:Nat} {g':Gs}
def cI.K5{x:Ci}{vp vo:Value}(h:cI w c T wp p x vp vo)(hK:ag L w w')(h1:¬L p)(h2:∀b,vp.ownBlock=some b->¬L b)(h3:∀b,vo.ownBlock=some b->¬L b)(hT:∀b,b<w.heap.size->T b=.free->T' b=.free):cI w' c T' wp p x vp vo:=
 ⟨hK.B0 h.B0 h1,hT _ h.B0.lt h.tp,hK.C8 h.prog h2,λb e=>hT _ (h.prog.lt b e).2 (h.I5 b e),h.ops.imp id λa=>hK.C8 a h3,λb e=>by
  rcases h.ops with a|a
  ·rw[a.1]at e;cases e
  ·exact hT _ (a.lt b e).2 (h.G4 b e)⟩
def eM.K5{vs:Value}(h:eM w c T wp p x vs)(hK:ag L w w')(h1:¬L p)(hL:∀b,T b=.fz->¬L b)(hT:∀b,b<w.heap.size->T b=.free\/T b=.fz->T' b=T b):eM w' c T' wp p x vs:=
 ⟨hK.B0 h.B0 h1,(hT _ h.B0.lt (.inl h.tp)).trans h.tp,h.D9.imp id λ⟨a,e,d⟩=>⟨a,e,((d.more (G:=λb=>T b=.fz/\b<w.heap.size) λb f e=>⟨e,f⟩).B7 hK λb e=>hL b e.1).more λb _ e=>(hT b e.2 (.inr e.1)).trans e.1⟩⟩
def cY.B0{x:Ci}(h:cY w c T wp p x):∃xs,Blk w p 201 xs:=by
 obtain⟨a,b,h⟩:=h;exact⟨_,h.B0⟩
def aO.B0(h:aO w c T wp p x):∃xs,Blk w p 203 xs:=by
 obtain⟨a,h⟩:=h;exact⟨_,h.B0⟩
def cY.D1{x:Ci}{q:Nat}{t:TypeId}{xs:Array Value}(h:cY w c T wp p x)(hq:Blk w q t xs)(hqt:t=201\/t=203)(hne:p≠q)(hK:ag (λb=>eN (T b)\/b=q) w w')(hT:aW T T' w.heap.size):cY w' c T' wp p x:=by
 obtain⟨l,m,h⟩:=h;have d:∀b,T b=.free->b≠q->¬(eN (T b)\/b=q):=λb n g a=>by
  rcases a with a|a
  ·rw[n]at a;exact a
  ·exact g a
 have i:t≠73/\t≠250:=by rcases hqt with e|e<;>rw[e]<;>decide
 refine⟨l,m,h.K5 hK (d _ h.tp hne) (λb e=>d b (h.I5 b e) λg=>aB h.prog hq i.1.symm (g▸e)) (λb e=>d b (h.G4 b e) λg=>?_) λb o e=>(hT.keepT o (by rw[e];intro k f;cases f)).trans e⟩
 rcases h.ops with j|j
 ·rw[j.1]at e;cases e
 ·exact aB j hq i.2.symm (g▸e)
def aO.D1(h:aO w c T wp p x)(hq:T q=.free)(hne:p≠q)(hK:ag (λb=>eN (T b)\/b=q) w w')(hT:aW T T' w.heap.size):aO w' c T' wp p x:=by
 obtain⟨g,h⟩:=h;refine⟨g,h.K5 hK (λa=>?_) (λb d a=>?_) λb i e=>hT.keepT i (by rcases e with e|e<;>rw[e]<;>intro k f<;>cases f)⟩
 ·rcases a with a|a
  ·rw[h.tp]at a;exact a
  ·exact hne a
 ·rcases a with a|a
  ·rw[d]at a;exact a
  ·rw[a,hq]at d;cases d
def ew.up(h:ew w c T B wp ep e pcs pws A k vw used)(hb:M w w'):ew w' c T B wp ep e pcs pws A k vw used:=
 ⟨h.B0.later hb,h.te,h.o,OJ h.size hb.size,h.g.up hb,aN h.row hb,h.tr,h.lc,h.lw,h.D7,λi x p a b=>(h.cs i x p a b).up hb,λj x p a b=>(h.ws j x p a b).up hb⟩
def KG{l m:List Nat}{i j a b:Nat}(h:(l++m).Nodup)(h1:l[i]?=some a)(h2:l[j]?=some b)(hne:i≠j):a≠b:=λe=>by
 rw[Qa]at h;subst e;have c:=cz h1;exact hne ((List.getElem?_inj c h.1).1 (h1.trans h2.symm))
def KH{l m:List Nat}{i j a b:Nat}(h:(l++m).Nodup)(h1:m[i]?=some a)(h2:m[j]?=some b)(hne:i≠j):a≠b:=λe=>by
 rw[Qa]at h;subst e;have c:=cz h1;exact hne ((List.getElem?_inj c h.2.1).1 (h1.trans h2.symm))
def yr{l m:List Nat}{i j a b:Nat}(h:(l++m).Nodup)(h1:l[i]?=some a)(h2:m[j]?=some b):a≠b:=by
 rw[Qa]at h;exact h.2.2 a (Qx h1) b (Qx h2)
def ew.core{tt:TypeId}{xs:Array Value}(h:ew w c T B wp ep e pcs pws A k vw used)(hq:Blk w q tt xs)(htt:tt=201\/tt=203)(hqf:T q=.free)(hK:ag (λb=>eN (T b)\/b=q) w w')(hT:aW T T' w.heap.size):
  Blk w' ep 116 (jp wp (.slice A e.count k) vw e.cs.length used)/\T' ep=.free/\(∀b,b<B->T' b=.eng)/\B<=w'.heap.size/\w'.ownsRow 0 123 1 (.slice A e.count k) e.count (pcs.map ifC++pws.map ifW)/\(∀b,(Value.slice A e.count k).ownBlock=some b->T' b=.free)/\Below B w w':=by
 have g:∀b,T b=.free->b≠q->¬(eN (T b)\/b=q):=λb l d a=>by
  rcases a with a|a
  ·rw[l]at a;exact a
  ·exact d a
 have j:tt≠116/\tt≠123:=by rcases htt with e|e<;>rw[e]<;>decide
 have m:B<=q:=Pg λe=>by
  have:=h.o q zO;rw[hqf]at this
  cases this
 refine⟨hK.B0 h.B0 (g _ h.te (fq h.B0 hq j.1.symm)),(hT.keepT h.B0.lt (by rw[h.te];intro k f;cases f)).trans h.te,λb i=>(hT.keepT (OV i h.size) (by rw[h.o b i];intro k f;cases f)).trans (h.o b i),OJ h.size hK.size,hK.C8 h.row λb e=>g b (h.tr b e) λd=>aB h.row hq j.2.symm (d▸e),λb e=>(hT.keepT (h.row.lt b e).2 (by rw[h.tr b e];intro k f;cases f)).trans (h.tr b e),(hK.C3 λb e=>?_).L1 h.size⟩
 rcases e with e|e
 ·refine Pg λd=>?_;rw[h.o b zO]at e;exact e
 ·omega
def ew.K3{x x':Ci}(h:ew w c T B wp ep e pcs pws A k vw used)(hx:e.cs[t]?=some x)(hp:pcs[t]?=some p)(hN:bp w w' c T wp g' p x'):
  ∃T',ew w' c T' B wp ep {e with g:=g',cs:=e.cs.set t x'} pcs pws A k vw used/\Below B w w':=by
 obtain⟨T',l,s,u,m⟩:=hN;have d:=h.cs t x p hx hp;obtain⟨R,o⟩:=d.B0;obtain⟨P,Q,f⟩:=d;obtain⟨v,z,D,F,G,H,L⟩:=h.core o (.inl rfl) f.tp m l;have b:({e with g:=g',cs:=e.cs.set t x'}:En).count=e.count:=by unfold En.count;simp
 have r:=cz hx;refine⟨T',⟨?_,z,D,F,s,?_,?_,by simp[h.lc],h.lw,h.D7,λi y q n a=>?_,λj y q n a=>?_⟩,L⟩
 ·rw[b];simp only[PI];exact v
 ·rw[b];exact G
 ·rw[b];exact H
 ·rcases dp n r with⟨rfl,rfl⟩|⟨N,O⟩
  ·rw[hp]at a;injection a with a;exact a▸u
  ·exact(h.cs i y q O a).D1 o (.inl rfl) (KG h.D7 a hp N) m l
 ·exact(h.ws j y q n a).D1 f.tp (yr h.D7 hp a).symm m l
def ew.M5(h:ew w c T B wp ep e pcs pws A k vw used)(hx:e.ws[j]?=some x)(hp:pws[j]?=some p)(hN:aV w w' c T wp g' p x'):
  ∃T',ew w' c T' B wp ep {e with g:=g',ws:=e.ws.set j x'} pcs pws A k vw used/\Below B w w':=by
 obtain⟨T',l,s,t,m⟩:=hN;have d:=h.ws j x p hx hp;obtain⟨P,o⟩:=d.B0;obtain⟨O,f⟩:=d;obtain⟨u,v,z,D,F,G,H⟩:=h.core o (.inr rfl) f.tp m l;have b:({e with g:=g',ws:=e.ws.set j x'}:En).count=e.count:=by unfold En.count;simp
 have r:=cz hx;refine⟨T',⟨?_,v,z,D,s,?_,?_,h.lc,by simp[h.lw],h.D7,λi y q n a=>?_,λi y q n a=>?_⟩,H⟩
 ·rw[b];exact u
 ·rw[b];exact F
 ·rw[b];exact G
 ·exact(h.cs i y q n a).D1 o (.inr rfl) (yr h.D7 a hp) m l
 ·rcases dp n r with⟨rfl,rfl⟩|⟨L,N⟩
  ·rw[hp]at a;injection a with a;exact a▸t
  ·exact(h.ws i y q N a).D1 f.tp (KH h.D7 a hp L) m l
def ew.own(h:ew w c T B wp ep e pcs pws A k vw used)(hO:aI ep w w'){used':Nat}(hb:Blk w' ep 116 (jp wp (.slice A e.count k) vw e.cs.length used')):ew w' c T B wp ep e pcs pws A k vw used'/\Below B w w':=by
 have hK:=hO.B7;have t:B<=ep:=Pg λq=>by
  have:=h.o ep zO;rw[h.te]at this
  cases this
 refine⟨⟨hb,h.te,h.o,OJ h.size hK.size,h.g.only h.te hO,hK.C8 h.row λb e f=>aB h.row h.B0 zP (f▸e),h.tr,h.lc,h.lw,h.D7,λi x p d l=>?_,λj x p d l=>?_⟩,(hK.C3 λb e=>zO).L1 h.size⟩
 ·obtain⟨n,r,a⟩:=h.cs i x p d l;refine⟨n,r,a.K5 hK (fq a.B0 h.B0 zP) (λb e f=>aB a.prog h.B0 zP (f▸e)) (λb e f=>?_) λb _ e=>e⟩
  rcases a.ops with m|m
  ·rw[m.1]at e;cases e
  ·exact aB m h.B0 zP (f▸e)
 ·obtain⟨s,a⟩:=h.ws j x p d l;exact⟨s,a.K5 hK (fq a.B0 h.B0 zP) (λb e f=>by rw[f,h.te]at e;cases e) λb _ _=>rfl⟩
end
def DI{c:Cg}{e:En}(hp:ge c ps)(hi:dI c ps e)(hu:e.used<=30000)(hx:e.ws[j]?=some x)(hr:x.ready c e.g=true)(w:World)(T:Nat->Tg)(wp p:Nat)(hg:GAt w c T wp e.g)(h:aO w c T wp p x):
  C 339 #[Z p 0] w λr w'=>r=.returned (.tuple #[])/\aV w w' c T wp (aM c e.g x).1 p (aM c e.g x).2:=by
 have a:=hi.wok hp hu hx;have f:=hi.L.Q1 j x hx;have hd:=f.B6;have N:=Wi.G1 hr;have o:=hi.L.lk;have l:=hi.E5 hp hu;have S:=hi.evs hu;have b:∀n:Nat,n<c.st+2->(e.g.lock n).line.length<=900:=λn y=>OJ (o.E5 y) zP;have d:c.st+1<c.st+2:=zO;have i:homeN c x.key<c.st+2:=by have:=cJ hp.cfg x.key;omega
 have B:x.home c=((homeN c x.key:Nat):Int):=cy hp.cfg _;have G:=f.M4 o hr;have s:∀n:Nat,n<c.st+2->cS c e.g x n≠none->e.g.held n x.task≠0:=λn y O=>f.has o hr y (by rw[f.cl n y];exact O);have v:=hi.Q.wb j x hx;have u:(x.B6=1\/x.B6=2\/x.B6=11\/x.B6=12\/x.B6=14)->cS c e.g x (c.st+1)≠none:=λq=>by
  unfold cS;by_cases H:x.B6=1
  ·rw[OB H,OB ⟨rfl,λq=>G q.2⟩];simp
  ·rw[Oz H,OB zO,OB rfl];simp
 have z:x.B6=0\/x.B6=1\/x.B6=2\/x.B6=3\/x.B6=4\/x.B6=5\/x.B6=6\/x.B6=7\/x.B6=8\/x.B6=9\/x.B6=10\/x.B6=11\/x.B6=12\/x.B6=14:=zO
 rcases z with k|k|k|k|k|k|k|k|k|k|k|k|k|k
 ·exact Ku w c hp.cfg T wp p e.g x hg h a hr k (b _ d)
 ·cases hq:e.g.q.line with
  |nil=>
   by_cases D:e.g.q.over=true
   ·exact Gy w c hp.cfg T wp p e.g x hg h a hr k l hq D
   ·have F:∀m:Nat,m<c.st+2->clG e.g x.task m=if m=c.st+1 then some true else none:=λm P=>by
     rw[f.cl m P];unfold cS;rw[OB k];by_cases A:m=c.st+1
     ·rw[OB A,OB ⟨A,λq=>G q.2⟩]
     ·rw[Oz A,Oz λq=>A q.1]
    have U:=hi.L.I4 j x hx;have X:=cz hx;have R:=(o.sleep (t:=x.task) (by unfold En.count;omega) (f.has o hr d (by rw[F _ d];simp)) F G).1;exact Gz w c hp.cfg T wp p e.g x hg h a hr k l hq (by simpa using D) R
  |cons kk r=>exact Gx w c hp.cfg T wp p e.g x hg h a hr k l kk r hq (hi.Q.q.ld kk (by rw[hq];simp)) zO
 ·exact Kv w c hp.cfg T wp p e.g x hg h a hr k (s _ d (u zO)) (b _ d)
 ·exact Kw w c hp.cfg T wp p e.g x hg h a hr k (b _ i)
 ·exact KC w c hp.cfg T wp p e.g x hg h a hr k (hi.Q.bk _ (v ⟨zO,zO⟩)) zO
 ·exact Kx w c hp.cfg T wp p e.g x hg h a hr k (s _ i (by unfold cS;rw[Oz zO,Oz zO,OB zO,OB B.symm];simp)) (b _ i)
 ·exact Ky w c hp.cfg T wp p e.g x hg h a hr k
 ·exact Kz w c hp.cfg T wp p e.g x hg h a hr k (b _ i)
 ·exact KA w c hp.cfg T wp p e.g x hg h a hr k (hi.Q.bk _ (v ⟨zO,zO⟩)) zO
 ·exact KB w c hp.cfg T wp p e.g x hg h a hr k (s _ i (by unfold cS;rw[Oz zO,Oz zO,Oz zO,OB zO,OB B.symm];simp)) (b _ i)
 ·exact GA w c hp.cfg T wp p e.g x hg h a hr k (b _ d)
 ·exact GB w c hp.cfg T wp p e.g x hg h a hr k l (v ⟨zO,zO⟩) zO
 ·exact GC w c hp.cfg T wp p e.g x hg h a hr k (s _ d (u zO)) (b _ d)
 ·exact GD w c hp.cfg T wp p e.g x hg h a hr k (s _ d (u zO)) (b _ d)
def gQ(c:Cg)(e:En)(pick:Int):Int:=match e.next c pick with
 |some t=>(t:Int)
 |none=> -1
def ja(c:Cg)(e:En)(pick:Int):En:=match e.next c pick with
 |some t=>e.go c t
 |none=>e
def vK:DH (e.ready c) pick e.count=gQ c e pick:=rfl
def ew.can{w:World}{c:Cg}{wp ep:Nat}{e:En}(hp:ge c ps)(hi:dI c ps e)(hu:e.used<=30000)(h:ew w c T B wp ep e pcs pws A k vw used)(j:Nat)(hj:j<(pcs.map ifC++pws.map ifW).length)(U:World)(hU:M w U):
  C 100 #[(pcs.map ifC++pws.map ifW)[j]] U λr w'=>r=.returned (.bool (e.ready c j))/\M U w':=by
 have b:=h.up hU;by_cases d:j<pcs.length
 ·have i:j<e.cs.length:=by rw[<-h.lc];exact d
  have a:=OL i;have f:(pcs.map ifC++pws.map ifW)[j]=ifC pcs[j]:=by
   rw[PK (by simpa using d),List.getElem_map]
  rw[f,Mv a];exact NH U c hp.cfg T wp _ e.g _ b.g (b.cs j _ _ a (OL d)) (hi.S4 hp a)
 ·have l:j-pcs.length<pws.length:=by simp at hj;omega
  have m:j-pcs.length<e.ws.length:=by rw[<-h.lw];exact l
  have a:=OL m;have f:(pcs.map ifC++pws.map ifW)[j]=ifW pws[j-pcs.length]:=by
   rw[Qi (by simpa using d),List.getElem_map];simp
  have n:j=e.cs.length+(j-pcs.length):=by have:=h.lc;omega
  have o:=Mw (c:=c) a;rw[<-n]at o;rw[f,o];exact NI U c hp.cfg T wp _ e.g _ b.g (b.ws _ _ _ a (OL l)) (hi.wok hp hu a)
def BL{w:World}{c:Cg}{wp ep:Nat}{e:En}{u2:Nat}(h:ew w c T B wp ep e pcs pws A k vw used):ew w c T B wp ep {e with used:=u2} pcs pws A k vw used:=⟨h.B0,h.te,h.o,h.size,h.g,h.row,h.tr,h.lc,h.lw,h.D7,h.cs,h.ws⟩
def BM{w:World}{n:Nat}{t:TypeId}{xs:List Value}(h:w.ownsRow B t 1 (.slice A n k) n xs)(hj:j<n):∃ad,A=some ad/\∀U,M w U->∀v,xs[j]?=some v->U.cell? (ad.add j)=some v:=by
 obtain⟨ad,v,c,_,_,_⟩:=(an.C4 h).at_ hj;refine⟨ad,c,λU e v f=>?_⟩;obtain⟨g,i,b,_,a,d⟩:=(an.C4 (aN h e)).at_ hj;rw[c]at b;injection b with b;subst b;rw[f]at a;injection a with a;rw[a];exact d
def yu{α:Type}{l:List α}(h:i<l.length):∃a,l[i]?=some a:=⟨_,OL h⟩
def yw(vt vw:Value)(nc used n:Nat):(jp wp vt vw nc used).setIfInBounds 4 (I (n:Int))=jp wp vt vw nc n:=rfl
def GH(B ep:Nat)(e:En)(ps:List (List Cl))(hp:ge c ps)(hi:dI c ps e)(hu:e.used<=30000)(hn0:0<e.count)(h:kY w c B ep e)(pick:Int)(hpk:aq pick):
  C 11 #[Z ep 0,I pick] w λr w'=>r=.returned (I (gQ c e pick))/\kY w' c B ep (ja c e pick)/\Below B w w':=by
 obtain⟨T,R,s,u,A,k,vw,h⟩:=h;have au:=hi.L.lk.n32;have v:=Z1 (λU (m:M w U)=>vJ (e.ready c) _ pick A k e.count U (an.C4 (h.up m).row) hn0 zO hpk (ew.can hp hi hu (h.up m)));rw[vK]at v;have S:w.cell? (Y ep 1)=some (.slice A e.count k):=h.B0.cell 1;have H:=Z1 h;have i:gQ c e pick=match e.next c pick with|some t=>(t:Int)|none=> -1:=rfl
 have l:ja c e pick=match e.next c pick with|some t=>e.go c t|none=>e:=rfl
 have hw:IntKind.i64.wrap ((e.used:Int)+1)=((e.used+1:Nat):Int):=by rw[OX];omega
 cases hnx:e.next c pick with
 |none=>
  rw[hnx]at i l;simp only at i l;rw[i]at v ⊢;rw[l];clear h i l hnx hi hp;generalize e.count=n at*
  go_in
  go_wp2_with fail;refine zm (v.o _ (Oy _ _)) λQ a=>?_;have q:=Z1 a;clear a S;go_wp2;go_ret;exact⟨rfl,⟨T,R,s,u,A,k,vw,H.o.up q.o⟩,q.o.mono H.o.size⟩
 |some t=>
  obtain⟨hr,y⟩:=vn hnx;rw[hnx]at i l;simp only at i l;rw[i]at v ⊢;rw[l];clear i l hnx
  rcases i6 hr with⟨x,d,P⟩|⟨j,x,rfl,d,P⟩
  ·obtain⟨O,b⟩:=yu (show t<s.length by have:=h.lc;have:=cz d;omega);have X:(s.map ifC++u.map ifW)[t]?=some (ifC O):=by
    rw[Pk (by simpa using cz b),Pz,b];rfl
   obtain⟨ad,rfl,z⟩:=BM h.row y;have ab:=Z1 (λU m=>z U m _ X);have ac:=Z1 (λU (m:M w U)=>DD U c hp.cfg T R O e.g x (h.up m).g ((h.up m).cs t x O d b) (hi.S4 hp d) P (DG hp.cfg _) (hi.U5 hp hu d P));have D:=Dn (c:=c) d;have hm:=ML;have al:=y;rw[D];have HX:=Z1 d;have ae:=Z1 b;clear h d b X hr hi hp D z y;generalize af:e.count=n at*
   go_in
   go_wp2_with fail;refine zm (v.o _ (Oy _ _)) λQ a=>?_;have q:=Z1 a;have S:Q.cell? (Y ep 1)=some (.slice (some ad) n k):=by
    have:=(H.o.B0.later a).cell 1;rw[<-af];exact this
   have c2:=ab.o Q a;unfold ifC at c2;have ar:decide ((t:Int)<0)=false:=by simp;try omega
   clear a;go_wp2_with fail;refine zm (ac.o _ q.o) λw2 F=>?_;obtain⟨T2,f,G⟩:=(H.o.up q.o).K3 HX.o ae.o F;have p:=Z2 f G;have c4:w2.cell? (Y ep 4)=some (I (e.used:Int)):=f.B0.cell 4;have f4:=f.B0.frozen 4;clear S c2 F f G;go_wp2;go_ret;have N:=p.o.1.B0.B4 4 (I ((e.used+1:Nat):Int));rw[yw]at N;obtain⟨ah,ai⟩:=p.o.1.own (aI.B4 _ _ _ _) N;refine⟨rfl,⟨T2,R,s,u,some ad,k,vw,?_⟩,((q.o.mono H.o.size).trans p.o.2).trans ai⟩;exact BL ah
  ·obtain⟨O,b⟩:=yu (show j<u.length by have:=h.lw;have:=cz d;omega);have X:(s.map ifC++u.map ifW)[e.cs.length+j]?=some (ifW O):=by
    rw[Ph (by simp[h.lc]),Pz,Pe,h.lc,show e.cs.length+j-e.cs.length=j from by omega,b];rfl
   obtain⟨ad,rfl,z⟩:=BM h.row y;have ab:=Z1 (λU m=>z U m _ X);have ac:=Z1 (λU (m:M w U)=>DI hp hi hu d P U T R O (h.up m).g ((h.up m).ws j x O d b));have D:=Do (c:=c) d;have hm:=MN;have al:=y;rw[D];have HX:=Z1 d;have ae:=Z1 b;clear h d b X hr hi hp D z y;generalize af:e.count=n at*
   go_in
   go_wp2_with fail;refine zm (v.o _ (Oy _ _)) λQ a=>?_;have q:=Z1 a;have S:Q.cell? (Y ep 1)=some (.slice (some ad) n k):=by
    have:=(H.o.B0.later a).cell 1;rw[<-af];exact this
   have c2:=ab.o Q a;unfold ifW at c2;have ar:decide ((e.cs.length+j:Int)<0)=false:=by simp;try omega
   clear a;go_wp2_with fail;refine zm (ac.o _ q.o) λw2 F=>?_;obtain⟨T2,f,G⟩:=(H.o.up q.o).M5 HX.o ae.o F;have p:=Z2 f G;have c4:w2.cell? (Y ep 4)=some (I (e.used:Int)):=f.B0.cell 4;have f4:=f.B0.frozen 4;clear S c2 F f G;go_wp2;go_ret;have N:=p.o.1.B0.B4 4 (I ((e.used+1:Nat):Int));rw[yw]at N;obtain⟨ah,ai⟩:=p.o.1.own (aI.B4 _ _ _ _) N;refine⟨rfl,⟨T2,R,s,u,some ad,k,vw,?_⟩,((q.o.mono H.o.size).trans p.o.2).trans ai⟩;exact BL ah
section
variable {c:Cg} {ps:List (List Cl)} {e:En}
def KK(t:Nat):(e.go c t).count=e.count/\(e.go c t).cs.length=e.cs.length/\(e.go c t).ws.length=e.ws.length/\(e.go c t).used<=e.used+1:=by
 unfold En.go;split
 ·split
  ·simp[En.count]
  ·exact⟨rfl,rfl,rfl,OW _⟩
 ·split
  ·simp[En.count]
  ·exact⟨rfl,rfl,rfl,OW _⟩
def qV:(ja c e p).count=e.count/\(ja c e p).cs.length=e.cs.length/\(ja c e p).ws.length=e.ws.length/\(ja c e p).used<=e.used+1:=by
 unfold ja;split
 ·exact KK _
 ·exact⟨rfl,rfl,rfl,OW _⟩
def dI.step(hp:ge c ps)(h:dI c ps e)(hu:e.used<=30000)(p:Int):dI c ps (ja c e p):=by
 unfold ja;split
 ·rename_i t a;exact h.go hp hu (vn a).1
 ·exact h
def rU(r:List Int):En.run c e (p::r)=if e.next c p=none then e else En.run c (ja c e p) r:=by
 show(match En.step c e p with|some e'=>En.run c e' r|none=>e)=_;unfold En.step ja
 cases e.next c p with
 |none=>rfl
 |some t=>rw[Oz zS];rfl
def dI.run(hp:ge c ps):∀(l:List Int) {e:En},dI c ps e->e.used+l.length<=30000->dI c ps (En.run c e l)/\(En.run c e l).used<=e.used+l.length/\(En.run c e l).count=e.count/\(En.run c e l).cs.length=e.cs.length/\(En.run c e l).ws.length=e.ws.length
 |[],e,h,_=>⟨h,OA _,rfl,rfl,rfl⟩
 |p::r,e,h,hu=>by
  rw[rU];simp only[OC]at hu;split
  ·exact⟨h,zS,rfl,rfl,rfl⟩
  ·obtain⟨c1,c2,c3,c4⟩:=qV (c:=c) (e:=e) p;obtain⟨a,g,b,d,f⟩:=dI.run hp r (h.step hp zO p) zO;exact⟨a,by simp only[OC];omega,b.trans c1,d.trans c2,f.trans c3⟩
def yy:gQ c e p<0↔e.next c p=none:=by
 unfold gQ
 cases e.next c p with
 |none=>simp
 |some t=>simp
end
structure Lp(w wr:World)(c:Cg)(B ep:Nat)(ps:List (List Cl))(e e':En)(l:List Int)(j:Nat):Prop where
 at_:kY wr c B ep e'
 inv:dI c ps e'
 used:e'.used<=e.used+j
 count:e'.count=e.count
 rest:En.run c e l=En.run c e' (l.drop j)
 below:Below B w wr
def KL(w:World)(c:Cg)(B ep:Nat)(e:En)(ps:List (List Cl))(hp:ge c ps)(hi:dI c ps e)(hn0:0<e.count)(h:kY w c B ep e)(l:List Int)(hl:∀p∈l,aq p)(A:Option Addr)(k n:Nat)(hr:an w B 1 A n (i64s l))(hu:e.used+n<=30000):
  C 27 #[Z ep 0,.slice A n k] w λr w'=>(∃q:Int,r=.returned (I q))/\kY w' c B ep (En.run c e l)/\Below B w w':=by
 have y:n=l.length:=by have:=hr.len;simpa[i64s]using this
 have O:=Z1 y;have S:Hid (Lp w w c B ep ps e e l 0):=Z1 ⟨h,hi,OA _,rfl,rfl,Oy _ _⟩;have H:=Z2 hp hl;clear h hi hp hl y
 go_in
 go_wp2;go_loopw [5,10] (λs i wr=>∃j:Nat,j<=n/\i=I j/\s=I j/\Hid (∃d,Lp w wr c B ep ps e d l j)) (λ_ i _=>n-(intOf i).toNat)
 case atStart=>exact⟨0,OK _,rfl,rfl,Z1 ⟨e,S.o⟩⟩
 case round=>
  obtain⟨j,hj,rfl,rfl,L⟩:=hrel;obtain⟨d,b⟩:=L.o;by_cases P:j<n
  ·obtain⟨ad,v,rfl,_,N,R⟩:=(hr.below b.below).at_ P;have t:j<l.length:=by have:=O.o;omega
   have Q:v=I l[j]:=by simp[i64s,t]at N;exact N.symm
   subst Q;have z:=Pu t;have D:=H.o.2 _ (OR t);have u:d.used<=30000:=by have:=b.used;omega
   have T:=Z1 (GH wr c B ep d ps H.o.1 b.inv u (by rw[b.count];exact hn0) b.at_ l[j] D);have a:=Z3 b z u;generalize l[j]=g at*;have aa:(j:Int)<(n:Int):=zO;clear b z N D u L;go_wp2_with fail;refine T.o.mono ?_;rintro r2 w2 ⟨rfl,F,G⟩;have f:=Z2 F G;clear F G;by_cases m:d.next c g=none
   ·have U:=(yy g).2 m;have x:=Z1 m;clear m;go_wp2;go_ret;refine⟨⟨_,rfl⟩,?_,a.o.1.below.trans f.o.2⟩;rw[a.o.1.rest,a.o.2.1,rU,OB x.o];have:=f.o.1;unfold ja at this;rw[x.o]at this;exact this
   ·have ab:¬gQ c d g<0:=λq=>m ((yy g).1 q);have x:=Z1 m;have ac:IntKind.i64.wrap ((j:Int)+1)=(j:Int)+1:=by rw[OX];omega
    clear m;go_wp2;go_roundw
    case rel=>
     obtain⟨X,c2,c3,c4⟩:=qV (c:=c) (e:=d) g;refine⟨j+1,zO,by go_num,by go_num,Z1 ⟨_,f.o.1,a.o.1.inv.step H.o.1 a.o.2.2 g,?_,X.trans a.o.1.count,?_,a.o.1.below.trans f.o.2⟩⟩
     ·have:=a.o.1.used;omega
     ·rw[a.o.1.rest,a.o.2.1,rU,Oz x.o]
    case measure=>simp[intOf];omega
  ·obtain rfl:j=n:=zO;have a:=Z1 b;clear b L;go_wp2;go_ret;refine⟨⟨_,rfl⟩,?_,a.o.below⟩;rw[a.o.rest,List.drop_of_length_le (by have:=O.o;omega)];exact a.o.at_
end Go.Fw
