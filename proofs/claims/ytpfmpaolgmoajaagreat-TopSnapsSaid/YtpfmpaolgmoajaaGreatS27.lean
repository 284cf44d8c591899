/- Lemmas of this claim. Conditions: as each says. -/
import Derived.Test.YtpfmpaolgmoajaaGreatS26
import Derived.Test.YtpfmpaolgmoajaaGreatS22
set_option linter.unusedVariables false
set_option linter.unusedSimpArgs false
set_option maxHeartbeats 4000000
set_option maxRecDepth 20000
set_option linter.defProp false
open Go.Proofs.Tryz
namespace Go.Fw
open Go.RowKit open Go.Proofs hiding intOf
variable {T:Nat->Tg}{wp k used p k' q np:Nat}{pcs pws:List Nat}{vw:Value}{A':Option Addr}{WA W':World}{cs:Array Value}{S:Nat->Prop}(st sa lo:Int)(w:World)(c:Cg)(ps:List (List Cl))(hi wk:Int)(m:Nat)(A:Option Addr)(f:Cl->Nat)(wr:World)(wd:Int)(raw:List Int)(n:Nat)(l:List Vt)(kp j:Nat)(TO:Int)(F:Nat)(Ap:Option Addr)
def openN(e:En):Nat:=cntN (λj=>(e.cs[j]?.map Ci.over).getD true) e.cs.length
def an.S3{w:World}{B n k:Nat}{A:Option Addr}{xs:List Value}(h:an w B 1 A n xs)(hk:k<=n):an w B 1 A k (xs.take k):=by
 refine⟨by rw[PG,h.1];omega,λf=>?_⟩;obtain⟨b,e,c,d⟩:=h.2 zO;refine⟨b,e,c,λj u a=>d j u ?_⟩;rw[QX]at a;split at a
 ·exact a
 ·cases a
section
variable (w:World) (c:Cg) (B ep:Nat) (e:En) (ps:List (List Cl))
def Tx{A:Option Addr}(h:ew w c T B wp ep e pcs pws A k vw used):
  C 28 #[Z ep 0] w λr w'=>r=.returned (Z wp 0)/\w=w':=by
 have a:w.cell? (Y ep 0)=some (Z wp 0):=h.B0.cell 0;clear h
 go_in
 go_wp2;go_ret;exact⟨rfl,rfl⟩
def GJ(hp:ge c ps)(hi:dI c ps e){A:Option Addr}(h:ew w c T B wp ep e pcs pws A k vw used):
  C 52 #[Z ep 0] w λr w'=>r=.returned (I (openN e:Int))/\M w w':=by
 have D:=hi.L.lk.n32;have g:e.cs.length<=e.count:=by unfold En.count;omega
 have x:Hid (∀U,M w U->C 101 #[.slice A e.cs.length k] U λr w'=>r=.returned (I (openN e:Int))/\M U w'):=Z1 λU i=>by
  have y:an U U.heap.size 1 A e.cs.length (pcs.map ifC):=by
   have l:=an.S3 (an.C4 (h.up i).row) g;rw[QN (by simp[h.lc]),OT (by simp[h.lc])]at l;exact l
  refine GE _ pcs A k e.cs.length U y zO λj p V z=>?_;have q:j<e.cs.length:=by rw[<-h.lc];exact p
  have b:=OL q;rw[b];exact oT V c T wp _ _ (((h.up i).up z).cs j _ _ b (OL p)) (hi.S4 hp b)
 have s:=Z1 h.B0;obtain⟨_,_,d,H,F⟩:=ak h.row
 cases d
 generalize t:e.count=n at*;generalize u:e.cs.length=m at*;have f:=(zi w);have G:m<=k:=zO;clear h hi hp t u
 go_in
 go_upto_region 3 with fail
 refine zH (S:=λU=>M w U) f ?_;refine zq 3 ?_ (λW hW=>?_) ?_;rotate_left
 ·have N:W.cell? (Y ep 1)=some (.slice A n k):=(s.o.later hW).cell 1;exact zf
 refine zL ?_;refine zq 7 ?_ (λW hW=>?_) ?_;rotate_left
 ·have O:W.cell? (Y ep 3)=some (I (m:Int)):=(s.o.later hW).cell 3;exact zf
 refine zL ?_;refine zo 9 λK hK=>?_;go_simp;refine zm (x.o _ f) λP v=>?_;have a:=af f v;refine zJ hK a ?_;go_wp2;go_ret;exact⟨rfl,a⟩
def GK(hp:ge c ps)(hi:dI c ps e)(hu:e.used<=30000)(hn0:0<e.count){A:Option Addr}(h:ew w c T B wp ep e pcs pws A k vw used):
  C 55 #[Z ep 0] w λr w'=>r=.returned (.bool (decide (gQ c e 0<0)))/\M w w':=by
 have f:=hi.L.lk.n32;have a:=Z1 (vJ (e.ready c) _ 0 A k e.count w (an.C4 h.row) hn0 zO aD (ew.can hp hi hu h));rw[vK]at a;have g:w.cell? (Y ep 1)=some (.slice A e.count k):=h.B0.cell 1;generalize e.count=n at*;generalize gQ c e 0=q at*;clear h hi hp
 go_in
 go_wp2_with fail;refine zm a.o λi b=>?_;have d:=Z1 b;clear b;go_wp2;go_ret;exact⟨rfl,d.o⟩
def j8:cU prog 38 5:=⟨zR,zR,zR⟩
def pT(ve vq:Value)(e:En)(r:Bool):Array Value:=#[ve,I (e.used:Int),I (openN e:Int),vq,.bool r]
def yz(hp:ge c ps)(hi:dI c ps e)(hu:e.used<=30000)(hn0:0<e.count)(h:kY w c B ep e):
  C 12 #[Z ep 0] w λr w'=>∃ve vq,r=.returned (.agg (pT ve vq e (decide (gQ c e 0<0))))/\w'.ownsRow w.heap.size 79 34 ve e.g.ev.length (vts e.g.ev)/\w'.ownsRow w.heap.size 58 2 vq e.g.q.line.length (cG e.g.q.line)/\M w w':=by
 obtain⟨T,L,a2,a3,A,k,vw,h⟩:=h;have a4:=hi.evs hu;have j:=hi.E5 hp hu;have R:=zh w (.cells #[.slice none 0 0,I 0,I 0,.slice none 0 0,.bool false] 38);have X:=Blk.A8 w 38 #[.slice none 0 0,I 0,I 0,.slice none 0 0,.bool false] rfl;have HE:=Z1 (λU (l:M w U)=>AJ U c T L e.g (h.up l).g zO λx hx=>(hi.E.L9.O3 x hx).ok);have HO:=Z1 (λU (l:M w U)=>GJ U c B ep e ps hp hi (h.up l));have HQ:=Z1 (λU (l:M w U)=>gP U c T L e.g (h.up l).g);have HW:Hid (∀U,M w U->C 54 #[Z L 10] U λr w'=>∃v,r=.returned v/\aL 2 U w' 58 v e.g.q.line.length (cG e.g.q.line)):=Z1 λU l=>by
  obtain⟨cs,sp,lb,ab⟩:=(h.up l).g;exact vZ L 10 _ cs _ e.g.q U ab.wq ⟨j.q.1,j.q.2.1,j.q.2.2⟩
 have HR:=Z1 (λU (l:M w U)=>GK U c B ep e ps hp hi hu hn0 (h.up l));have HB:=Z1 h.B0;generalize decide (gQ c e 0<0)=rs at*;have ad:Hid (∀ve vq,pT ve vq e rs=#[ve,I (e.used:Int),I (openN e:Int),vq,.bool rs]):=Z1 λ_ _=>rfl;generalize openN e=on at*;generalize ae:vts e.g.ev=vv at*;generalize ag:e.g.ev.length=nl at*;generalize ah:cG e.g.q.line=kk at*;generalize ai:e.g.q.line.length=kl at*;clear h hi hp j ae ag ah ai
 go_in
 go_upto_region 3 with fail
 have aj:=Z1 X;generalize w.alloc (.cells #[.slice none 0 0,I 0,I 0,.slice none 0 0,.bool false] 38)=V at*;have N:M w V.drew/\M V V.drew:=⟨R.drew,(zi V)⟩;clear X;refine bW (S:=λU=>M w U/\M V U) 20 zR zR N ?_;simp only[OM,OO,ON,OQ];try simp only[zD,zE,Nat.reduceAdd,zG]
 refine zL ?_;refine zq 3 ?_ (λW hW=>?_) ?_;rotate_left
 ·have q0:W.cell? (Y ep 0)=some (Z L 0):=(HB.o.later hW.1).cell 0;exact zf
 refine zL ?_;refine zq 8 ?_ (λW hW=>?_) ?_;rotate_left
 ·have q4:W.cell? (Y ep 4)=some (I (e.used:Int)):=(HB.o.later hW.1).cell 4;exact zf
 refine zL ?_;refine zq 14 ?_ (λW hW=>?_) ?_;rotate_left
 ·have q0:W.cell? (Y ep 0)=some (Z L 0):=(HB.o.later hW.1).cell 0;exact zf
 refine zL ?_;refine zo 4 λK hK=>?_;go_simp
 (refine(HE.o _ N.1).mono ?_)
 rintro e2 w2 ⟨ve,rfl,m⟩;obtain⟨A2,k2,rfl,_,_,_⟩:=m.form;have n:=And.intro (af N.1 m.below) (af N.2 m.below);have u:=aP m.own N.1.size;refine zJ hK n ?_;refine zo 10 λK hK=>?_;go_simp;refine zm (HO.o _ n.1) λw3 y=>?_;have d:=And.intro (af n.1 y) (af n.2 y);have z:=aN u y;refine zJ hK d ?_;refine zo 15 λK hK=>?_;go_simp
 (refine(HQ.o _ d.1).mono ?_)
 rintro e4 w4 ⟨rfl,rfl⟩;refine zJ hK d ?_;refine zo 16 λK hK=>?_;go_simp
 (refine(HW.o _ d.1).mono ?_)
 rintro e5 w5 ⟨vq,rfl,i⟩;obtain⟨A5,k5,rfl,_,_,_⟩:=i.form;have p:=And.intro (af d.1 i.below) (af d.2 i.below);have D:=aN z i.below;have F:=aP i.own d.1.size;refine zJ hK p ?_;refine zo 18 λK hK=>?_;go_simp;refine zm (HR.o _ p.1) λw6 s=>?_;have G:=And.intro (af p.1 s) (af p.2 s);have H:=aN D s;have t:=aN F s;refine zJ hK G ?_;rw[bI];have O:=Z3 G H t;have P:=aj.o.later G.2;clear N n d p G u z D H F t m i y s R;refine zj j8 P ?_;intro w9 ak Q;go_wp2;refine OH (au j8 rfl ak rfl _ rfl) rfl ⟨.slice A2 nl k2,.slice A5 kl k5,congrArg (λa=>Ending.returned (Value.agg a)) (ad.o _ _).symm,?_,?_,Q.below O.o.1.1 (OA _)⟩
 ·exact Q.B7.C8 O.o.2.1 λb e f=>aB O.o.2.1 P zP (f▸e)
 ·exact Q.B7.C8 O.o.2.2 λb e f=>aB O.o.2.2 P zP (f▸e)
end
def KM(p:Nat):Value:=Z p 0
def mG{w:World}{B B':Nat}{e e':TypeId}{s s' n n':Nat}{v v':Value}{xs xs':List Value}(h:w.ownsRow B e s v n xs)(h':w.ownsRow B' e' s' v' n' xs')(hne:e≠e')(b:Nat)(h1:v.ownBlock=some b):v'.ownBlock≠some b:=by
 rcases h'.2 with⟨rfl,_⟩|⟨g,d,f,rfl,_,c,_⟩
 ·simp[Value.ownBlock]
 ·intro a;simp[Value.ownBlock]at a;subst a;exact aB h c hne h1
structure ey(w:World)(c:Cg)(T:Nat->Tg)(N wp ep:Nat)(g:Gs)(m:Nat)(xs:List Ci)(ys:List Wi)(pcs pws qs:List Nat)(A:Option Addr)(k:Nat)(A2:Option Addr)(k2:Nat):Prop where
 B0:Blk w ep 116 (jp wp (.slice A (xs.length+ys.length) k) (.slice A2 qs.length k2) m 0)
 ne:N<=ep
 fr:∀b,N<=b->T b=.free
 size:N<=w.heap.size
 g:GAt w c T wp g
 row:w.ownsRow N 123 1 (.slice A (xs.length+ys.length) k) (xs.length+ys.length) (pcs.map ifC++pws.map ifW)
 I7:w.ownsRow N 119 1 (.slice A2 qs.length k2) qs.length (qs.map KM)
 lc:pcs.length=xs.length
 lw:pws.length=ys.length
 D7:(pcs++pws).Nodup
 cs:∀(i:Nat) (x:Ci) p,xs[i]?=some x->pcs[i]?=some p->cY w c T wp p x
 ws:∀(j:Nat) (x:Wi) p,ys[j]?=some x->pws[j]?=some p->aO w c T wp p x
section
variable {w w' w1:World} {c:Cg} {T:Nat→Tg} {N wp ep m:Nat} {g:Gs} {xs:List Ci} {ys:List Wi} {pcs pws qs:List Nat} {A A2:Option Addr} {k k2:Nat}
def yA(hf:∀b,N<=b->T b=.free){n:Nat}(h:N<=n):ext T n .free=T:=by
 funext b;by_cases a:b<n
 ·exact br T _ a
 ·rw[cC T _ zO,hf b zO]
def GAt.low(h:GAt w c T wp g)(hf:∀b,N<=b->T b=.free)(hK:ag (λb=>N<=b) w w'):GAt w' c T wp g:=by
 obtain⟨d,i,j,h⟩:=h;have a:=hK.B0 h.B0 (λe=>by have:=h.tw;rw[hf _ e]at this;cases this);exact⟨d,i,j,h.P5 a (bF.refl _ _ _) h.tw (h.G3.D1 hK (λb e f=>by rw[hf _ f]at e;rcases e with e|e;exact e;cases e) λ_ _=>rfl) (h.E4.D1 hK (λb n e f=>by rw[hf _ f]at e;cases e) λ_ _ _=>rfl) h.nl (h.ln.D1 a (λ_ _ _=>rfl) hK (λb e f=>by rw[hf _ f]at e;rcases e with e|e<;>cases e) λ_ _ _=>rfl) (h.wq.D1 a (λ_ _ _=>rfl) hK (λb e f=>by rw[hf _ f]at e;cases e) λ_ _ _=>rfl) (h.ev.D1 rfl hK (λb e f=>by rw[hf _ f]at e;cases e) λ_ _ _=>rfl)⟩
def ey.up(h:ey w c T N wp ep g m xs ys pcs pws qs A k A2 k2)(hb:M w w'):ey w' c T N wp ep g m xs ys pcs pws qs A k A2 k2:=
 ⟨h.B0.later hb,h.ne,h.fr,OJ h.size hb.size,h.g.up hb,aN h.row hb,aN h.I7 hb,h.lc,h.lw,h.D7,λi x p a b=>(h.cs i x p a b).up hb,λj x p a b=>(h.ws j x p a b).up hb⟩
def ey.B7(h:ey w c T N wp ep g m xs ys pcs pws qs A k A2 k2){L:Nat->Prop}(hK:ag L w w')(hL:∀b,L b->b=ep\/(Value.slice A (xs.length+ys.length) k).ownBlock=some b\/(Value.slice A2 qs.length k2).ownBlock=some b):
  GAt w' c T wp g/\(∀(p:Nat) (x:Ci),cY w c T wp p x->cY w' c T wp p x)/\(∀(p:Nat) (x:Wi),aO w c T wp p x->aO w' c T wp p x)/\Below N w w'/\N<=w'.heap.size:=by
 have f:∀b,L b->N<=b:=λb e=>by
  rcases hL b e with rfl|e|e
  ·exact h.ne
  ·exact(h.row.lt b e).1
  ·exact(h.I7.lt b e).1
 have u:∀(t:TypeId) (q:Nat) (y:Array Value),Blk w q t y->t≠116->t≠123->t≠119->¬L q:=λt q y d i j l e=>by
  rcases hL q e with rfl|e|e
  ·exact fq d h.B0 i rfl
  ·exact aB h.row d j.symm e
  ·exact aB h.I7 d l.symm e
 have z:∀(t:TypeId) (B s n:Nat) (v:Value) (D:List Value) (b:Nat),w.ownsRow B t s v n D->v.ownBlock=some b->t≠116->t≠123->t≠119->¬L b:=λt B s n v D b d o i j l e=>by
  rcases hL b e with rfl|e|e
  ·exact aB d h.B0 i o
  ·exact mG d h.row j b o e
  ·exact mG d h.I7 l b o e
 refine⟨h.g.low h.fr (hK.C3 f),λp x a=>?_,λp x a=>?_,(hK.C3 f).L1 h.size,OJ h.size hK.size⟩
 ·obtain⟨G,H,a⟩:=a;refine⟨G,H,a.K5 hK (u _ _ _ a.B0 zP zP zP) (λb e=>z _ _ _ _ _ _ b a.prog e zP zP zP) (λb e=>?_) λ_ _ e=>e⟩
  rcases a.ops with r|r
  ·rw[r.1]at e;cases e
  ·exact z _ _ _ _ _ _ b r e zP zP zP
 ·obtain⟨O,a⟩:=a;refine⟨O,a.K5 hK (u _ _ _ a.B0 zP zP zP) (λb F P=>?_) λ_ _ _=>rfl⟩;rw[h.fr b (f b P)]at F
  cases F
def yB{α β:Type}{xs:List α}{ps:List β}{x y:α}{p q:β}{i:Nat}(hl:ps.length=xs.length)(h1:(xs++[x])[i]?=some y)(h2:(ps++[p])[i]?=some q):(xs[i]?=some y/\ps[i]?=some q)\/(y=x/\q=p):=by
 rcases Nat.lt_trichotomy i xs.length with a|a|a
 ·rw[Pk a]at h1;rw[Pk (by rw[hl];exact a)]at h2;exact .inl ⟨h1,h2⟩
 ·subst a;rw[Ph (OA _),QY]at h1;rw[<-hl,Ph (OA _),QY]at h2;injection h1 with h1;injection h2 with h2;exact .inr ⟨h1.symm,h2.symm⟩
 ·rw[Ps zT]at h1
  cases h1
def ti{l:List Nat}(h:l.Nodup)(hp:p∉l):(l++[p]).Nodup:=
 Qa.2 ⟨h,zS,λa d b c e=>by simp at c;subst c;subst e;exact hp d⟩
def ey.U6(h:ey w c T N wp ep g m xs [] pcs [] qs A k A2 k2){x:Ci}(hc:cY w c T wp p x)(hp:p∉pcs)(hg:w.grownBy w1 (Value.slice A xs.length k).ownBlock)(hr:w1.ownsRow N 123 1 (.slice A' (xs.length+1) k') (xs.length+1) (pcs.map ifC++[ifC p])):
  ey (w1.setCell (Y ep 1) (.slice A' (xs.length+1) k')) c T N wp ep g m (xs++[x]) [] (pcs++[p]) [] qs A' k' A2 k2/\Below N w (w1.setCell (Y ep 1) (.slice A' (xs.length+1) k')):=by
 have hK:ag (λb=>b=ep\/(Value.slice A xs.length k).ownBlock=some b) w (w1.setCell (Y ep 1) (.slice A' (xs.length+1) k')):=(dl (ag.refl (λb=>b=ep\/(Value.slice A xs.length k).ownBlock=some b) w) hg (λ_ h=>h) λ_ e=>.inr e).setCell (p:=Y ep 1) (.inl (.inl rfl)) _;obtain⟨t,l,u,v,z⟩:=h.B7 hK λb e=>by rcases e with e|e;exact .inl e;exact .inr (.inl e)
 have r:=aB h.row h.B0 zP;have n:=h.B0.grown hg (λe=>r e.symm);have o:=aB hr n zP;have s:=h.D7;rw[PC]at s;refine⟨⟨?_,h.ne,h.fr,z,t,?_,?_,by simp[h.lc],rfl,?_,λi y q a d=>?_,λj y q a d=>u _ _ (h.ws j y q a d)⟩,v⟩
 ·have:=n.B4 1 (.slice A' (xs.length+1) k');simpa[jp]using this
 ·have:=bA (p:=Y ep 1) hr o (.slice A' (xs.length+1) k')
  simpa using this
 ·exact hK.C8 h.I7 λb e f=>by
   rcases f with rfl|f
   ·exact aB h.I7 h.B0 zP e
   ·exact mG h.I7 h.row zP b e f
 ·rw[PC];exact ti s hp
 ·rcases yB h.lc a d with⟨a,d⟩|⟨rfl,rfl⟩
  ·exact l _ _ (h.cs i y q a d)
  ·exact l _ _ hc
def ey.U7(h:ey w c T N wp ep g m xs ys pcs pws qs A k A2 k2)(hg:w.grownBy w1 (Value.slice A2 qs.length k2).ownBlock)(hr:w1.ownsRow N 119 1 (.slice A' (qs.length+1) k') (qs.length+1) (qs.map KM++[KM p])):
  ey (w1.setCell (Y ep 2) (.slice A' (qs.length+1) k')) c T N wp ep g m xs ys pcs pws (qs++[p]) A k A' k'/\(∀(p:Nat) (x:Wi),aO w c T wp p x->aO (w1.setCell (Y ep 2) (.slice A' (qs.length+1) k')) c T wp p x)/\Below N w (w1.setCell (Y ep 2) (.slice A' (qs.length+1) k')):=by
 have hK:ag (λb=>b=ep\/(Value.slice A2 qs.length k2).ownBlock=some b) w (w1.setCell (Y ep 2) (.slice A' (qs.length+1) k')):=(dl (ag.refl (λb=>b=ep\/(Value.slice A2 qs.length k2).ownBlock=some b) w) hg (λ_ h=>h) λ_ e=>.inr e).setCell (p:=Y ep 2) (.inl (.inl rfl)) _;obtain⟨t,o,r,u,v⟩:=h.B7 hK λb e=>by rcases e with e|e;exact .inl e;exact .inr (.inr e)
 have s:=aB h.I7 h.B0 zP;have a:=h.B0.grown hg (λe=>s e.symm);have d:=aB hr a zP;refine⟨⟨?_,h.ne,h.fr,v,t,?_,?_,h.lc,h.lw,h.D7,λi y q l n=>o _ _ (h.cs i y q l n),λj y q l n=>r _ _ (h.ws j y q l n)⟩,r,u⟩
 ·have:=a.B4 2 (.slice A' (qs.length+1) k');simpa[jp]using this
 ·exact hK.C8 h.row λb e f=>by
   rcases f with rfl|f
   ·exact aB h.row h.B0 zP e
   ·exact mG h.row h.I7 zP b e f
 ·have:=bA (p:=Y ep 2) hr d (.slice A' (qs.length+1) k')
  simpa using this
def ey.U8(h:ey w c T N wp ep g m xs ys pcs pws qs A k A2 k2){y:Wi}(hc:aO w c T wp p y)(hp:p∉pcs++pws)(hg:w.grownBy w1 (Value.slice A (xs.length+ys.length) k).ownBlock)(hr:w1.ownsRow N 123 1 (.slice A' (xs.length+ys.length+1) k') (xs.length+ys.length+1) ((pcs.map ifC++pws.map ifW)++[ifW p])):
  ey (w1.setCell (Y ep 1) (.slice A' (xs.length+ys.length+1) k')) c T N wp ep g m xs (ys++[y]) pcs (pws++[p]) qs A' k' A2 k2/\Below N w (w1.setCell (Y ep 1) (.slice A' (xs.length+ys.length+1) k')):=by
 have hK:ag (λb=>b=ep\/(Value.slice A (xs.length+ys.length) k).ownBlock=some b) w (w1.setCell (Y ep 1) (.slice A' (xs.length+ys.length+1) k')):=(dl (ag.refl (λb=>b=ep\/(Value.slice A (xs.length+ys.length) k).ownBlock=some b) w) hg (λ_ h=>h) λ_ e=>.inr e).setCell (p:=Y ep 1) (.inl (.inl rfl)) _;obtain⟨t,o,r,u,v⟩:=h.B7 hK λb e=>by rcases e with e|e;exact .inl e;exact .inr (.inl e)
 have s:=aB h.row h.B0 zP;have l:=h.B0.grown hg (λe=>s e.symm);have n:=aB hr l zP;refine⟨⟨?_,h.ne,h.fr,v,t,?_,?_,h.lc,by simp[h.lw],?_,λi y q a d=>o _ _ (h.cs i y q a d),λj y q a d=>?_⟩,u⟩
 ·have:=l.B4 1 (.slice A' (xs.length+ys.length+1) k');simpa[jp,PQ]using this
 ·have:=bA (p:=Y ep 1) hr n (.slice A' (xs.length+ys.length+1) k');simpa[PQ]using this
 ·exact hK.C8 h.I7 λb e f=>by
   rcases f with rfl|f
   ·exact aB h.I7 h.B0 zP e
   ·exact mG h.I7 h.row zP b e f
 ·rw[<-Pv];exact ti h.D7 hp
 ·rcases yB h.lw a d with⟨a,d⟩|⟨rfl,rfl⟩
  ·exact r _ _ (h.ws j y q a d)
  ·exact r _ _ hc
def ey.done{xs:List Ci}{ys:List Wi}{B:Nat}(h:ey w c T N wp ep g m xs ys pcs pws qs A k A2 k2)(hm:m=xs.length)(hB:B<=N)(hT:∀b,b<B->T b=.eng):kY w c B ep ⟨g,xs,ys,0⟩:=
 ⟨T,wp,pcs,pws,A,k,.slice A2 qs.length k2,by rw[hm]at h;exact h.B0,h.fr _ h.ne,hT,OJ hB h.size,h.g,aP h.row (OK _),λb e=>h.fr _ (h.row.lt b e).1,h.lc,h.lw,h.D7,h.cs,h.ws⟩
def ey.new(hf:∀b,N<=b->T b=.free)(hN:N<=w.heap.size)(hg:GAt w c T wp g)(hn:N<=ep)(hb:Blk w ep 116 (jp wp (.slice none 0 0) (.slice none 0 0) m 0)):ey w c T N wp ep g m [] [] [] [] [] none 0 none 0:=
 ⟨hb,hn,hf,hN,hg,Pn _ _ _ _,Pn _ _ _ _,rfl,rfl,Sh,λi x p e=>by simp at e,λi x p e=>by simp at e⟩
def ey.fresh{xs:List Ci}{ys:List Wi}(h:ey w c T N wp ep g m xs ys pcs pws qs A k A2 k2){p:Nat}(hp:w.heap.size<=p):p∉pcs++pws:=λa=>by
 rcases Po.1 a with a|a
 ·obtain⟨i,b⟩:=List.mem_iff_getElem?.1 a;have d:=cz b;obtain⟨f,e⟩:=(h.cs i _ p (OL (by rw[<-h.lc];exact d)) b).B0;have:=e.lt;omega
 ·obtain⟨i,b⟩:=List.mem_iff_getElem?.1 a;have d:=cz b;obtain⟨f,e⟩:=(h.ws i _ p (OL (by rw[<-h.lw];exact d)) b).B0;have:=e.lt;omega
end
def vL:cE prog 113 123 .nilIface 1 16:=⟨underlying113,zR,rfl⟩
def KN:cE prog 114 119 (.pointer none) 1 8:=⟨underlying114,zR,rfl⟩
def DJ(st sa lo hi:Int)(ps:List (List Cl))(A:Option Addr)(n k:Nat)(wk:Int)(hP:dv w A n ps)(hn:n<=1000000)(hwk:aq wk)(h0:cj st sa lo hi ps wk≠0):
  C 10 #[.agg #[I st,I sa,I lo,I hi],.slice A n k,I wk] w λr w'=>r=.returned (.tuple #[.pointer none,I (cj st sa lo hi ps wk)])/\M w w':=by
 have a:=zh w (.cells #[I st,I sa,I lo,I hi] 23);have f:=Z1 (λW (hW:M w W)=>oU st sa lo hi ps A n k wk W (hP.up hW) hn hwk);generalize cj st sa lo hi ps wk=e at*;have g:(e==0)=false:=by simpa using h0
 have c:=Z1 a;clear hP h0 a
 go_in
 go_wp2_with fail;refine zm (f.o _ c.o) λh b=>?_;have d:=Z1 (af c.o b);clear b;go_wp2;exact OH (results_tmp2 rfl _ _ _) rfl ⟨rfl,d.o⟩
def csN(ps:List (List Cl)):List Ci:=ps.mapIdx λi p=>.new p i
def wsN(m j:Nat):List Wi:=(List.range j).map λi=>.new (m+i)
def KO{ps:List (List Cl)}{j:Nat}(h:j<ps.length):(csN ps).take (j+1)=(csN ps).take j++[.new ps[j] j]:=by
 have a:j<(csN ps).length:=by simpa[csN]using h
 rw[OG a];simp[csN]
def KP:wsN m (j+1)=wsN m j++[.new (m+j)]:=by simp[wsN,List.range_succ]
def NK(w wr:World)(c:Cg)(T:Nat->Tg)(N wp ep:Nat)(ps:List (List Cl))(j:Nat):Prop:=∃pcs A k,ey wr c T N wp ep (.new c) ps.length ((csN ps).take j) [] pcs [] [] A k none 0/\M w wr
def NL(w wr:World)(c:Cg)(T:Nat->Tg)(N wp ep:Nat)(ps:List (List Cl))(j:Nat):Prop:=∃pcs pws A k A2 k2,ey wr c T N wp ep (.new c) ps.length (csN ps) (wsN ps.length j) pcs pws pws A k A2 k2/\M w wr
def KQ(hc:c.ok)(ps:List (List Cl))(A:Option Addr)(n k m:Nat)(hP:dv w A n ps)(hn:ps.length+m<=32)(hall:∀p∈ps,p.length<=1000)(h0:cj c.st c.sa c.lo c.hi ps m=0):
  Calls prog 10 #[.agg #[.int .i64 c.st,.int .i64 c.sa,.int .i64 c.lo,.int .i64 c.hi],.slice A n k,.int .i64 m] w λr w'=>∃ep,r=.returned (.tuple #[.pointer (some ⟨ep,0,none⟩),.int .i64 0])/\kY w' c w.heap.size ep (.new c ps m)/\Below w.heap.size w w':=by
 have ba:=ae (Oy w.heap.size w) (.cells #[.int .i64 c.st,.int .i64 c.sa,.int .i64 c.lo,.int .i64 c.hi] 23);have bb:=hP.len;have HC:=Z1 (λW (hW:Below w.heap.size w W)=>oU c.st c.sa c.lo c.hi ps A n k m W (hP.up hW) (by omega) (by unfold aq;omega));rw[h0]at HC;have HG:Hid (∀W,Below w.heap.size w W->Calls prog 48 #[.agg #[.int .i64 c.st,.int .i64 c.sa,.int .i64 c.lo,.int .i64 c.hi]] W λe w'=>∃T N h,e=.returned (.tuple #[.pointer (some ⟨h,0,none⟩),.int .i64 0])/\GAt w' c T h (.new c)/\(∀b,b<w.heap.size->T b=.eng)/\(∀b,N<=b->T b=.free)/\N=w'.heap.size/\Below W.heap.size W w'):=Z1 λW hW=>(Kh W c hc λ_=>.eng).mono λe w' ⟨T',h,e1,e2,e3,e4,e5⟩=>⟨ext T' w'.heap.size .free,w'.heap.size,h,e1,e2.free,λb hb=>(br T' _ (by have:=hW.size;have:=e5.size;omega)).trans (e3 b (by have:=hW.size;omega)),λb hb=>cC T' _ hb,rfl,e5⟩;have HB:=Z1 ba;have u:=Z5 hP hn hall hc bb;have cz:(n:Int)<=32/\(m:Int)<=32:=by omega
 have cf:n<=32:=by omega
 clear ba hP h0 hn hall hc bb
 go_in
 go_wp2_with fail;refine zm (HC.o _ HB.o) λw1 G=>?_;have au:=Z1 (af HB.o G);have R:=(Blk.A8 w 23 #[.int .i64 c.st,.int .i64 c.sa,.int .i64 c.lo,.int .i64 c.hi] rfl).later G;have q0:=R.cell 0;have q1:=R.cell 1;have q2:=R.cell 2;have q3:=R.cell 3;clear G;go_wp2_with fail;refine(HG.o _ au.o).mono ?_;rintro e2 w2 ⟨T,N,h,rfl,bc,bd,av,aw,G⟩;clear q0 q1 q2 q3 R;have ax:=Z1 (af au.o G);have a:=ey.new (m:=ps.length) av (w:=w2.alloc (.cells (jp h (.slice none 0 0) (.slice none 0 0) ps.length 0) 116)) (ep:=w2.heap.size) (by rw[aw];simp) (bc.up (ae (Oy _ w2) _)) (by omega) (Blk.A8 w2 _ _ rfl);have HD:=Z5 a bd av (ae ax.o (.cells (jp h (.slice none 0 0) (.slice none 0 0) ps.length 0) 116)) (show w.heap.size<=N by rw[aw];exact ax.o.size);try rw[<-u.o.2.2.2.2]at HD
 generalize b1:w2.heap.size=ep at*;clear a bd av G bc;go_wp2_with fail;have H0:Hid (NK w (w2.alloc (.cells (jp h (.slice none 0 0) (.slice none 0 0) n 0) 116)) c T N h ep ps 0):=Z1 ⟨[],none,0,by rw[OO,<-u.o.2.2.2.2];exact HD.o.1,HD.o.2.2.2.1⟩;have HT:=Z3 HD.o.2.1 HD.o.2.2.1 HD.o.2.2.2.2;clear HB au ax HC HG HD aw b1;go_loopw [35] (λi wr=>∃j:Nat,j<=n/\i=.int .i64 j/\Hid (NK w wr c T N h ep ps j)) (λi _=>n-(intOf i).toNat)
 case atStart=>exact⟨0,OK _,rfl,H0⟩
 case round=>
  obtain⟨j,hj,rfl,X⟩:=hrel;obtain⟨aa,A1,k1,a,s⟩:=X.o;by_cases b2:j<n
  ·have ay:j<ps.length:=by have:=u.o.2.2.2.2;omega
   obtain⟨ad,A3,k3,rfl,_,cc,_,_,be⟩:=(u.o.1.up s).at_ ay;have c0:(j:Int)<(n:Int):=by omega
   have bf:=u.o.2.2.1 _ (OR ay);have az:=KO ay;have H:((csN ps).take j).length=j:=by simp[csN];omega
   have HS:=Z3 az H s;have HN:=Z1 (λW (hW:Below wr.heap.size wr W)=>GF W c u.o.2.2.2.1 T h (.new c) (a.g.up hW) j (by omega) ps[j] A3 k3 ps[j].length (be.up hW) bf);have l:=Z1 a;generalize ps[j]=pj at*;clear az a s X bf be;have hS:Blk wr.drew ep 116 (jp h (.slice A1 j k1) (.slice none 0 0) n 0):=by
    have:=l.o.B0.drew;rw[H,<-u.o.2.2.2.2]at this;exact this
   go_upto_region 9 with fail
   refine bW 12 (S:=λU=>Blk U ep 116 (jp h (.slice A1 j k1) (.slice none 0 0) n 0)) (by kernel_rfl) (by kernel_rfl) hS ?_;simp only[OM,OO,ON,OQ];try simp only[zD,zE,Nat.reduceAdd,zG]
   refine zp 0 ?_;refine zp 1 ?_;refine zp 2 ?_;refine zp 3 ?_;refine zq 4 ?_ (λW hW=>?_) ?_;rotate_left
   ·have q1:W.cell? ⟨ep,1,none⟩=some (.slice A1 j k1):=hW.cell 1;exact zf
   refine zp 5 ?_;refine zp 6 ?_;refine zp 7 ?_;refine zo 8 λK hK=>?_;go_simp
   (refine(HN.o _ ((Oy wr.heap.size wr).drew)).mono ?_)
   rintro e4 w4 ⟨p,rfl,t,a1,x⟩;have L:=hS.later x;refine hK _ _ L ?_;clear hK;refine zn ?_;refine zo 9 λK hK=>?_;go_simp;refine hK _ _ L ?_;clear hK;refine zn ?_;refine zo 10 λK hK=>?_;go_simp;refine hK _ _ (L.alloc _) ?_;clear hK;refine zn ?_;refine zo 11 λK hK=>?_;have d:=(l.o.up (Oy wr.heap.size wr).drew).up x;have P:w4.ownsRow N 123 1 (.slice A1 j k1) j (aa.map ifC):=by
    have:=d.row;rw[Qs,PC,H]at this;exact this
   refine tC vL (by decide) (.tmp 44) (.tmp 50) rfl (by rfl) P d.size rfl (by rfl) rfl (by simp[Value.oneCell']) (by omega) (by unfold maxLen;omega) ?_;intro v5 w5 y z;obtain⟨A5,k5,rfl,_,_⟩:=ak y;have v:=L.grown z λe=>aB P L (by decide) e.symm;refine hK _ _ v ?_;clear hK;refine zn ?_;refine zd ?_;rw[bI];have B:cY w4 c T h p (.new pj j):=by
    rw[yA HT.o.2.1 (by simpa using l.o.size)]at t;exact t
   have f:=d.U6 (w1:=w5) B (λhm=>(l.o.up (Oy wr.heap.size wr).drew).fresh a1 (RU _ hm)) (by rw[H];exact z) (A':=A5) (k':=k5) (by rw[H];exact y);rw[H,<-HS.o.1]at f;have q5:=v.cell 1;have f5:=v.frozen 1;have HA:=Z1 f;clear f B t P d y z L v hS;go_wp2;go_roundw
   case rel=>
    refine⟨j+1,by omega,by go_num,Z1 ⟨_,A5,k5,HA.o.1,?_⟩⟩;exact(af (HS.o.2.2.drew) x).trans (HA.o.2.mono HT.o.2.2)
   case measure=>simp[intOf];omega
  ·obtain rfl:n=j:=by omega
   obtain⟨aa,A1,k1,a,s⟩:=X.o;have bg:(csN ps).take n=csN ps:=OT (by simp[csN];have:=u.o.2.2.2.2;omega);rw[bg]at a;have H1:Hid (NL w wr c T N h ep ps 0):=Z1 ⟨aa,[],A1,k1,none,0,a,s⟩;clear a s X bg;go_wp2_with fail;go_loopw [56] (λi wr=>∃q:Nat,q<=m/\i=.int .i64 q/\Hid (NL w wr c T N h ep ps q)) (λi _=>m-(intOf i).toNat)
   case atStart=>exact⟨0,OK _,rfl,H1⟩
   case round=>
    obtain⟨q,hq,rfl,X⟩:=hrel;obtain⟨aa,bh,A1,k1,A2,k2,a,s⟩:=X.o;have ai:=u.o.2.2.2.2;have t:(csN ps).length=n:=by simp[csN,ai]
    have O:(wsN ps.length q).length=q:=by simp[wsN]
    have D:bh.length=q:=by rw[a.lw,O]
    by_cases b2:q<m
    ·have c1:(q:Int)<(m:Int):=by omega
     have b6:n+q<32:=by have:=u.o.2.1;omega
     have cs:IntKind.i64.wrap ((n:Int)+(q:Int))=(n:Int)+(q:Int):=by rw[OX];omega
     have HN:Hid (Calls prog 50 #[.pointer (some ⟨h,0,none⟩),.int .i64 ((n:Int)+(q:Int))] wr λe w'=>∃p,e=.returned (.pointer (some ⟨p,0,none⟩))/\aO w' c (ext T wr.heap.size .free) h p (.new (n+q))/\wr.heap.size<=p/\Below wr.heap.size wr w'):=Z1 (by
      have:=GG wr c u.o.2.2.2.1 T h (.new c) a.g (n+q) b6;rw[Int.natCast_add]at this;exact this)
     have l:=Z2 a s;clear a s X ai;go_wp2_with fail;refine HN.o.mono ?_;rintro e4 w4 ⟨p,rfl,aj,a1,x⟩;have B:aO w4 c T h p (.new (n+q)):=by
      rw[yA HT.o.2.1 l.o.1.size]at aj;exact aj
     have d:=l.o.1.up x;have a2:=d.I7;have F:=d.B0;have a3:=d.size;rw[D]at a2 F;rw[t,O]at F;have a4:=Z3 d B a1;have b7:=Z1 (af l.o.2 x);have bi:=Z1 F;have q4:w4.cell? ⟨ep,2,none⟩=some (.slice A2 q k2):=F.cell 2;have bj:=Z1 a2;clear aj B d x F a2;go_upto_region 16 with(at_builtin;go_must (refine bZ KN (by decide) rfl (.tmp 69) (.tmp 71) rfl rfl bj.o a3 rfl rfl rfl (by simp[Value.oneCell']) (by omega) (by unfold maxLen;omega) ?_);intro v5 w5 y z;obtain⟨A5,k5,rfl,_,_⟩:=ak y;have v:=bi.o.grown z λe=>aB bj.o bi.o (by decide) e.symm;have q5:=v.cell 2;have f5:=v.frozen 2)
     have f:=a4.o.1.U7 (w1:=w5) (p:=p) (A':=A5) (k':=k5) (by rw[D];exact z) (by rw[D];exact y);rw[D]at f;clear y z v q5 f5 q4;generalize w5.setCell ⟨ep,2,none⟩ (.slice A5 (q+1) k5)=w6 at*;have a5:=f.1.row;have Q:=f.1.B0;have bt:=f.1.size;rw[t,O]at a5 Q;have q6:w6.cell? ⟨ep,1,none⟩=some (.slice A1 (n+q) k1):=Q.cell 1;have bk:=Z1 Q;have bl:=Z1 a5;have HA:=Z1 f;have HF:=Z3 t O D;clear f a5 Q t O D a3
     go_wp2_with (at_builtin;go_must (refine bZ vL (by decide) rfl (.tmp 79) (.tmp 82) rfl rfl bl.o bt rfl rfl rfl (by simp[Value.oneCell']) (by omega) (by unfold maxLen;omega) ?_);intro v7 w7 a6 a7;obtain⟨A7,k7,rfl,_,_⟩:=ak a6;have a8:=bk.o.grown a7 λe=>aB bl.o bk.o (by decide) e.symm;have q7:=a8.cell 1;have f7:=a8.frozen 1)
     have al:=HA.o.1.U8 (w1:=w7) (HA.o.2.1 _ _ a4.o.2.1) (λhm=>l.o.1.fresh a4.o.2.2 hm) (A':=A7) (k':=k7) (by rw[HF.o.1,HF.o.2.1];exact a7) (by rw[HF.o.1,HF.o.2.1];exact a6);rw[HF.o.1,HF.o.2.1]at al;have HZ:=Z1 al;clear al a6 a7 a8 q7 f7 q6;go_roundw
     case rel=>
      refine⟨q+1,by omega,by go_num,Z1 ⟨aa,bh++[p],A7,k7,A5,k5,?_,(b7.o.trans (HA.o.2.2.mono HT.o.2.2)).trans (HZ.o.2.mono HT.o.2.2)⟩⟩;rw[KP,<-u.o.2.2.2.2];have h9:=HZ.o.1;try rw[<-u.o.2.2.2.2]at h9
      exact h9
     case measure=>simp[intOf];omega
    ·obtain rfl:q=m:=by omega
     have l:=Z3 a s t;clear a s X ai t O D;go_wp2;refine OH (results_tmp2 rfl _ _ _) rfl ⟨ep,rfl,?_,l.o.2.1⟩;exact l.o.1.done (by rw[l.o.2.2];exact u.o.2.2.2.2.symm) HT.o.2.2 HT.o.1
def kG:Array Value:=#[.slice none 0 0,I 0,I 0,.slice none 0 0,.bool false]
def tj(hp:ge c ps)(A Ap:Option Addr)(n k np kp m:Nat)(hP:dv w A n ps)(hn:ps.length+m<=32)(hn0:0<ps.length+m)(h0:cj c.st c.sa c.lo c.hi ps m=0)
  (l:List Int)(hl:∀p∈l,aq p)(hr:an w w.heap.size 1 Ap np (i64s l))(hu:np<=30000):
  C 20 #[.agg #[I c.st,I c.sa,I c.lo,I c.hi],.slice A n k,I m,.slice Ap np kp] w λr w'=>∃ve vq,r=.returned (.tuple #[.agg (pT ve vq (En.run c (.new c ps m) l) (decide (gQ c (En.run c (.new c ps m) l) 0<0))),I 0])/\
   w'.ownsRow w.heap.size 79 34 ve (En.run c (.new c ps m) l).g.ev.length (vts (En.run c (.new c ps m) l).g.ev)/\w'.ownsRow w.heap.size 58 2 vq (En.run c (.new c ps m) l).g.q.line.length (cG (En.run c (.new c ps m) l).g.q.line)/\M w w':=by
 have T:=hP.len;have z:np=l.length:=by have:=hr.len;simpa[i64s]using this
 have P:(En.new c ps m).count=ps.length+m:=by simp[En.new,En.count]
 have hi:=dI.new hp m hn;have d:=hi.run hp l (by rw[<-z];simpa[En.new]using hu);have D:=ae (zh w (.cells #[I c.st,I c.sa,I c.lo,I c.hi] 23)) (.cells kG 38);have HC:=Z1 (λW (hW:M w W)=>KQ W c hp.cfg ps A n k m (hP.up hW) hn (λp h=>(hp.each p h).1) h0);have HR:=Z1 (λW s B (hB:w.heap.size<=B) (hW:M w W) (Q:kY W c B s (.new c ps m))=>KL W c B s (.new c ps m) ps hp hi zO Q l hl Ap kp np (by have:=(hr.below hW);exact⟨this.1,λh=>by obtain⟨ad,e,h1,R⟩:=this.2 h;exact⟨ad,e,zO,R⟩⟩) (by simpa[En.new]using hu));have HO:=Z1 (λW s B (Q:kY W c B s (En.run c (.new c ps m) l))=>yz W c B s _ ps hp d.1 (by have:=d.2.1;simp[En.new]at this ⊢;omega) (by rw[d.2.2.1];omega) Q);have U:=Z1 D;have F:=Blk.A8 (w.alloc (.cells #[I c.st,I c.sa,I c.lo,I c.hi] 23)) 38 kG (g:=w.heap.size+1) zS;have HK:=Z1 F;generalize En.run c (.new c ps m) l=e at*;clear hP h0 D F hp hn hn0 hl hr hu T z P hi d
 go_in
 go_wp2_with fail;refine(HC.o _ U.o).mono ?_;rintro e1 w1 ⟨s,rfl,G,t⟩;have j:=Z3 (af U.o t) G (HK.o.later t);clear t G;go_wp2_with fail;refine(HR.o _ _ _ zT j.o.1 j.o.2.1).mono ?_;rintro e2 w2 ⟨⟨q,rfl⟩,H,u⟩;have i:=Z3 (j.o.1.trans (u.mono zT)) H (show Blk w2 (w.heap.size+1) 38 kG from(u.block (w.heap.size+1) zS).trans j.o.2.2);clear u H;go_upto_region 5 with fail
 go_wp2_with fail;refine(HO.o _ _ _ i.o.2.1).mono ?_;rintro e3 w3 ⟨ve,vq,rfl,L,N,v⟩;have a:=Z4 (af i.o.1 v) (aP L i.o.1.size) (aP N i.o.1.size) (i.o.2.2.later v);clear L N v;generalize O:pT ve vq e (decide (gQ c e 0<0))=S at*;have x:S.size=5/\S.all (·.oneCell')=true:=by
  rw[<-O];have h1:=ak a.o.2.1;have R:=ak a.o.2.2.1;obtain⟨_,_,rfl,_⟩:=h1;obtain⟨_,_,rfl,_⟩:=R;exact⟨rfl,by simp[pT,Value.oneCell']⟩
 go_wp2_with (refine zj j8 (cs:=S) (hn:=x.1) (h1:=x.2) a.o.2.2.2 ?_;intro w9 X y)
 refine OH (cx j8 rfl X x.1 _ rfl) rfl ⟨ve,vq,by rw[O];rfl,?_,?_,y.below a.o.1 zO⟩
 ·exact y.B7.C8 a.o.2.1 λb e f=>aB a.o.2.1 a.o.2.2.2 zP (f▸e)
 ·exact y.B7.C8 a.o.2.2.1 λb e f=>aB a.o.2.2.1 a.o.2.2.2 zP (f▸e)
def ee(x:Cl):Nat:=if(x.k=1\/x.k=6)/\aH x=0 then 1 else 0
def stirsN(ps:List (List Cl)):Nat:=(ps.flatten.map ee).sum
def stepsN(c:Cg)(ps:List (List Cl)):Nat:=(ps.flatten.map λx=>(aF c x).length).sum
def mostN(c:Cg)(ps:List (List Cl))(m:Nat):Nat:=stepsN c ps+16*stirsN ps+6*m
def finL(c:Cg)(ps:List (List Cl))(m:Nat)(raw:List Int):List Int:=(cD (ps.length+m) raw (mostN c ps m+1)).1
def j9(c:Cg)(ps:List (List Cl))(m:Nat)(raw:List Int):En:=.run c (.new c ps m) (finL c ps m raw)
def kb(l:List Vt)(k:K2):Option Adv:=(l.reverse.find? λx=>x.kind=6/\x.key=k).map (·.E0)
def awC:Cg:=⟨2,4,4,2⟩
def awI:ByteArray:=⟨#[97]⟩
def awP:List (List Cl):=[[⟨6,awI,0,0,0,1,10,100,100,5,3⟩,⟨1,awI,1,250,0,0,0,0,0,0,0⟩]]
def dK(f:Cl->Nat)(l:List Cl):Nat:=(l.map f).sum
def oW(a b:List Cl):dK f (a++b)=dK f a+dK f b:=by simp[dK]
def lZ(l:List Cl)(h:∀x∈l,f x<=F):dK f l<=l.length*F:=by
 induction l with
 |nil=>simp[dK]
 |cons a t ih=>
  have b:=ih λx c=>h x (Pm _ c);have d:=h a (Qc ..);simp only[dK,Pi,List.sum_cons,OC]at b ⊢;rw[Qj];omega
def mH(h:∀p∈ps,p.length<=F):ps.flatten.length<=ps.length*F:=by
 induction ps with
 |nil=>simp
 |cons a t ih=>
  have c:=ih λx b=>h x (Pm _ b);have d:=h a (Qc ..);simp only[Sm,OS,OC];rw[Qj];omega
def vO{ps:List (List Cl)}{i:Nat}(h:i<ps.length):(ps.take (i+1)).flatten=(ps.take i).flatten++ps[i]:=by
 rw[OG h,Se,Sm,List.flatten_nil,PC]
def qB{c:Cg}(hc:c.ok)(x:Cl):(aF c x).length<=202:=by
 have:=vF hc x;unfold aF;split<;>simp<;>omega
def DK(hc:c.ok)(ps:List (List Cl))(A:Option Addr)(n k:Nat)(w:World)(hP:dv w A n ps)(hn:n<=32)(hall:∀p∈ps,p.length<=256/\∀x∈p,x.ok):
  C 46 #[.agg #[I c.st,I c.sa,I c.lo,I c.hi],.slice A n k] w λr w'=>r=.returned (I (stepsN c ps:Int))/\M w w':=by
 have S:=zh w (.cells #[I c.st,I c.sa,I c.lo,I c.hi] 23);have T:=Blk.A8 w 23 #[I c.st,I c.sa,I c.lo,I c.hi] rfl;have y:=hP.len;have z:=Z4 hP hall hc y;have ac:Hid (stepsN c ps=dK (λx=>(aF c x).length) (ps.take n).flatten):=Z1 (by rw[y,PO];rfl);have HO:=Z1 (λx (P:x.ok) W=>yk c hc x P W);have H0:Hid (M w (w.alloc (.cells #[I c.st,I c.sa,I c.lo,I c.hi] 23))/\Blk (w.alloc (.cells #[I c.st,I c.sa,I c.lo,I c.hi] 23)) w.heap.size 23 #[I c.st,I c.sa,I c.lo,I c.hi]):=Z1 ⟨S,T⟩;have U:∀i≤n,dK (λx=>(aF c x).length) (ps.take i).flatten<=i*(256*202):=λi hi=>by
  have h1:=lZ (λx=>(aF c x).length) 202 (ps.take i).flatten λx _=>qB hc x;have h2:=mH (ps.take i) 256 λp hp=>(hall p (Qb hp)).1;have h3:(ps.take i).length<=i:=zT;have h4:(ps.take i).length*256<=i*256:=Pr _ h3;have h5:(ps.take i).flatten.length*202<=i*256*202:=Pr _ zO;rw[QM]at h5;omega
 have HF:=Z1 U;clear hP hall hc y S T U
 go_in
 go_wp2;go_loopw [5,12] (λs i wr=>∃j q:Nat,j<=n/\i=I j/\s=I q/\Hid (q=dK (λx=>(aF c x).length) (ps.take j).flatten)/\Hid (M w wr/\Blk wr w.heap.size 23 #[I c.st,I c.sa,I c.lo,I c.hi])) (λ_ i _=>n-(intOf i).toNat)
 case atStart=>exact⟨0,0,OK _,rfl,rfl,Z1 (by simp[dK]),H0⟩
 case round=>
  obtain⟨j,q,hj,rfl,rfl,HQ,Q⟩:=hrel;by_cases ba:j<n
  ·have B:j<ps.length:=by have:=z.o.2.2.2;omega
   obtain⟨ad,A3,k3,rfl,_,v,_,_,X⟩:=(z.o.1.up Q.o.1).at_ B;have aa:=z.o.2.1 _ (OR B);have bb:(j:Int)<(n:Int):=zO;have ab:=HF.o j hj;have ah:Hid (dK (λx=>(aF c x).length) (ps.take (j+1)).flatten=q+dK (λx=>(aF c x).length) ps[j]):=Z1 (by rw[vO B,oW,HQ.o]);rw[<-HQ.o]at ab;generalize ps[j]=p at*;obtain⟨f,D⟩:∃f,f=p.length:=⟨_,rfl⟩;have R:=Z3 aa D X;have az:f<=256:=zO;have bc:q<=1654784:=by
    have:j*(256*202)<=32*(256*202):=Pr _ zO;omega
   rw[<-D]at v;clear aa D X ab;go_wp2_with fail;go_loopw [5,18] (λs i wi=>∃a e:Nat,a<=f/\i=I a/\s=I e/\Hid (e=q+dK (λx=>(aF c x).length) (p.take a))/\Hid (M w wi/\Blk wi w.heap.size 23 #[I c.st,I c.sa,I c.lo,I c.hi]/\M wr wi)) (λ_ i _=>f-(intOf i).toNat)
   case atStart=>exact⟨0,q,OK _,rfl,rfl,Z1 (by simp[dK]),Z1 ⟨Q.o.1,Q.o.2,Oy _ _⟩⟩
   case round=>
    obtain⟨a,e,bd,rfl,rfl,F,m⟩:=hrel;by_cases a0:a<f
    ·have t:a<p.length:=by have:=R.o.2.1;omega
     have G:=(R.o.2.2).up m.o.2.2;obtain⟨b,o,rfl,_,H⟩:=sf G t;have a1:(a:Int)<(f:Int):=zO;have P:=R.o.1.2 _ (OR t);have aj:Hid (dK (λx=>(aF c x).length) (p.take (a+1))=dK (λx=>(aF c x).length) (p.take a)+(aF c p[a]).length):=Z1 (by rw[OG t,oW];simp[dK]);have a2:e<=1654784+256*202:=by
      have h1:=lZ (λx=>(aF c x).length) 202 (p.take a) λx _=>qB z.o.2.2.1 x;have h2:(p.take a).length<=256:=zT;have h3:(p.take a).length*202<=256*202:=Pr _ h2;have:=F.o;omega
     generalize p[a]=x at*;have a3:=qB z.o.2.2.1 x;have d:=Z3 (show x.arr.size=11 from rfl) (mF x) (dw (cs:=x.arr) (b:=b) (o:=o+a*11) λj u h=>by have:=H j u h;rwa [<-PQ]at this);have HX:=Z1 (HO.o x P);have g:=m.o.2.1.alloc (.cells x.arr 73);have c0:=g.cell 0;have c1:=g.cell 1;have c2:=g.cell 2;have c3:=g.cell 3;generalize L:x.arr=cs at*;have HG:=Z1 L;clear H P v L g G
     go_wp2_with (first|(refine aG dU rfl (.tmp 20) rfl (Y b (o+a*11)) zF cs d.o.1 d.o.2.2 ?_)|(refine aS dU rfl rfl ?_)|(refine aT dU rfl (.tmp 9) (.tmp 21) rfl _ rfl zF cs _ zF _ d.o.1 dU.D6 d.o.2.1 ?_)|(refine aG dU rfl (.tmp 9) rfl (Y wr.heap.size 0) zF cs d.o.1 (ff _ _ _) ?_))
     have N:=HX.o (wr.alloc (.cells cs 73));rw[Cl.val,HG.o]at N;refine N.mono ?_;rintro e6 w6 ⟨v6,rfl,l⟩;obtain⟨A6,k6,rfl,_,_⟩:=ak l.own;have ao:=Z3 (af (ae m.o.1 (.cells cs 73)) l.below) ((m.o.2.1.alloc (.cells cs 73)).later l.below) (af (ae m.o.2.2 (.cells cs 73)) l.below);generalize (aF c x).length=ln at*;have be:IntKind.i64.wrap ((e:Int)+(ln:Int))=((e+ln:Nat):Int):=by rw[OX];omega
     clear l N c0 c1 c2 c3;go_wp2;go_roundw
     case rel=>exact⟨a+1,e+ln,zO,by go_num,by go_num,Z1 (by rw[aj.o,F.o];omega),ao⟩
     case measure=>simp[intOf];omega
    ·obtain rfl:f=a:=zO;have O:e=q+dK (λx=>(aF c x).length) p:=by
      have:=F.o;rw[OT (by have:=R.o.2.1;omega)]at this;exact this
     have ap:=Z1 O;clear O;go_wp2;go_roundw
     case rel=>exact⟨j+1,e,zO,by go_num,rfl,Z1 (by rw[ah.o,ap.o]),Z1 ⟨m.o.1,m.o.2.1⟩⟩
     case measure=>simp[intOf];omega
  ·obtain rfl:n=j:=zO;go_wp2;go_ret;exact⟨by rw[ac.o,HQ.o];rfl,Q.o.1⟩
def DL(k:Nat)(w:World)(hP:dv w A n ps)(hn:n<=32)(hall:∀p∈ps,p.length<=256/\∀x∈p,x.ok):
  C 47 #[.slice A n k] w λr w'=>r=.returned (I (stirsN ps:Int))/\M w w':=by
 have D:=hP.len;have HI:=Z4 hP hall True.intro D;have am:Hid (stirsN ps=dK ee (ps.take n).flatten):=Z1 (by rw[D,PO];rfl);have HO:=Z1 (λ(x:Cl) (T:x.ok) W=>oy x T.L7 W);have F:∀x:Cl,ee x<=1:=λx=>by unfold ee;split<;>omega
 have aa:∀i≤n,dK ee (ps.take i).flatten<=i*(256*1):=λi hi=>by
  have h1:=lZ ee 1 (ps.take i).flatten λx _=>F x;have h2:=mH (ps.take i) 256 λp hp=>(hall p (Qb hp)).1;have h3:(ps.take i).length<=i:=zT;have h4:(ps.take i).length*256<=i*256:=Pr _ h3;have h5:(ps.take i).flatten.length*1<=i*256*1:=Pr _ zO;rw[QM]at h5;omega
 have HF:=Z1 aa;clear hP hall D aa
 go_in
 go_wp2;go_loopw [3,10] (λs i wr=>∃j q:Nat,j<=n/\i=I j/\s=I q/\Hid (q=dK ee (ps.take j).flatten)/\Hid (M w wr)) (λ_ i _=>n-(intOf i).toNat)
 case atStart=>exact⟨0,0,OK _,rfl,rfl,Z1 (by simp[dK]),Z1 (Oy _ _)⟩
 case round=>
  obtain⟨j,q,hj,rfl,rfl,HQ,HW⟩:=hrel;by_cases bd:j<n
  ·have G:j<ps.length:=by have:=HI.o.2.2.2;omega
   obtain⟨ad,A3,k3,rfl,_,B,_,_,ab⟩:=(HI.o.1.up HW.o).at_ G;have ac:=HI.o.2.1 _ (OR G);have be:(j:Int)<(n:Int):=zO;have ag:=HF.o j hj;have ap:Hid (dK ee (ps.take (j+1)).flatten=q+dK ee ps[j]):=Z1 (by rw[vO G,oW,HQ.o]);rw[<-HQ.o]at ag;generalize ps[j]=p at*;obtain⟨m,H⟩:∃m,m=p.length:=⟨_,rfl⟩;have U:=Z3 ac H ab;have a5:m<=256:=zO;have bf:q<=8192:=by
    have:j*(256*1)<=32*(256*1):=Pr _ zO;omega
   rw[<-H]at B;clear ac H ab ag;go_wp2_with fail;go_loopw [3,16] (λs i wi=>∃c d:Nat,c<=m/\i=I c/\s=I d/\Hid (d=q+dK ee (p.take c))/\Hid (M w wi/\M wr wi)) (λ_ i _=>m-(intOf i).toNat)
   case atStart=>exact⟨0,q,OK _,rfl,rfl,Z1 (by simp[dK]),Z1 ⟨HW.o,Oy _ _⟩⟩
   case round=>
    obtain⟨c,d,bg,rfl,rfl,t,X⟩:=hrel;by_cases a6:c<m
    ·have y:c<p.length:=by have:=U.o.2.1;omega
     have L:=(U.o.2.2).up X.o.2;obtain⟨b,o,rfl,_,N⟩:=sf L y;have a7:(c:Int)<(m:Int):=zO;have T:=U.o.1.2 _ (OR y);have z:Hid (dK ee (p.take (c+1))=dK ee (p.take c)+ee p[c]):=Z1 (by rw[OG y,oW];simp[dK]);have a8:d<=8192+256:=by
      have h1:=lZ ee 1 (p.take c) λx _=>F x;have h2:(p.take c).length<=256:=zT;have:=t.o;omega
     generalize p[c]=x at*;have a9:=F x;have bh:(wr.alloc (.cells x.arr 73)).cell? (Y wr.heap.size 0)=some (I x.k):=(Blk.A8 wr 73 x.arr rfl).cell 0;have a:=Z3 (show x.arr.size=11 from rfl) (mF x) (dw (cs:=x.arr) (b:=b) (o:=o+c*11) λj u h=>by have:=N j u h;rwa [<-PQ]at this);have HX:=Z1 (HO.o x T);generalize O:x.arr=cs at*;have HG:=Z1 O;have P:Hid (ee x=if(x.k=1\/x.k=6)/\aH x=0 then 1 else 0):=Z1 rfl;have ah:Hid (C 95 #[.agg cs] (wr.alloc (.cells cs 73)) λe w'=>e=.returned (I (aH x))/\Below (wr.alloc (.cells cs 73)).heap.size (wr.alloc (.cells cs 73)) w'):=Z1 (by
      have:=HX.o (wr.alloc (.cells cs 73));rw[Cl.val,HG.o]at this;exact this)
     have v:=Z2 (ae X.o.1 (.cells cs 73)) (ae X.o.2 (.cells cs 73));generalize aH x=ce at*;generalize x.k=g at*;generalize ee x=sx at*;have bi:IntKind.i64.wrap ((d:Int)+1)=((d+1:Nat):Int):=by rw[OX];omega
     clear N T B O L;by_cases hk:g=1\/g=6
     ·have l:Hid (sx=if ce=0 then 1 else 0):=Z1 (by rw[P.o];simp[hk]);have ai:g=1\/(g==1)=false/\(g==6)=true:=by
       by_cases h:g=1
       ·exact .inl h
       ·have:g=6:=zO;subst this;exact .inr ⟨rfl,rfl⟩
      by_cases Q:ce=0
      ·subst Q
       rcases ai with rfl|⟨aj,ak⟩
       all_goals
        go_wp2_with (first|(refine aG dU rfl (.tmp 18) rfl (Y b (o+c*11)) zF cs a.o.1 a.o.2.2 ?_)|(refine aS dU rfl rfl ?_)|(refine aT dU rfl (.tmp 7) (.tmp 19) rfl _ rfl zF cs _ zF _ a.o.1 dU.D6 a.o.2.1 ?_)|(refine fh dU zF (.tmp 7) rfl (Y wr.heap.size 0) zF cs a.o.1 (ff _ _ _) ?_))
        refine zm ah.o λw6 f=>?_;have R:=Z2 (af v.o.1 f) (af v.o.2 f);clear f;go_wp2;go_roundw
        case rel=>exact⟨c+1,d+1,zO,by go_num,by go_num,Z1 (by rw[z.o,t.o,l.o];first|(simp;done)|(simp;omega)),R⟩
        case measure=>simp[intOf];omega
      ·have bj:(ce==0)=false:=by simpa using Q
       rcases ai with rfl|⟨aj,ak⟩
       all_goals
        go_wp2_with (first|(refine aG dU rfl (.tmp 18) rfl (Y b (o+c*11)) zF cs a.o.1 a.o.2.2 ?_)|(refine aS dU rfl rfl ?_)|(refine aT dU rfl (.tmp 7) (.tmp 19) rfl _ rfl zF cs _ zF _ a.o.1 dU.D6 a.o.2.1 ?_)|(refine fh dU zF (.tmp 7) rfl (Y wr.heap.size 0) zF cs a.o.1 (ff _ _ _) ?_))
        refine zm ah.o λw6 f=>?_;have R:=Z2 (af v.o.1 f) (af v.o.2 f);clear f;go_wp2;go_roundw
        case rel=>exact⟨c+1,d,zO,by go_num,rfl,Z1 (by rw[z.o,t.o,l.o,Oz Q];omega),R⟩
        case measure=>simp[intOf];omega
     ·have aj:(g==1)=false:=zT;have ak:(g==6)=false:=zT;have l:Hid (sx=0):=Z1 (by rw[P.o,Oz λh=>hk h.1])
      go_wp2_with (first|(refine aG dU rfl (.tmp 18) rfl (Y b (o+c*11)) zF cs a.o.1 a.o.2.2 ?_)|(refine aS dU rfl rfl ?_)|(refine aT dU rfl (.tmp 7) (.tmp 19) rfl _ rfl zF cs _ zF _ a.o.1 dU.D6 a.o.2.1 ?_)|(refine fh dU zF (.tmp 7) rfl (Y wr.heap.size 0) zF cs a.o.1 (ff _ _ _) ?_))
      go_roundw
      case rel=>exact⟨c+1,d,zO,by go_num,rfl,Z1 (by rw[z.o,t.o,l.o];omega),v⟩
      case measure=>simp[intOf];omega
    ·obtain rfl:m=c:=zO;have S:d=q+dK ee p:=by
      have:=t.o;rw[OT (by have:=U.o.2.1;omega)]at this;exact this
     have aw:=Z1 S;clear S;go_wp2;go_roundw
     case rel=>exact⟨j+1,d,zO,by go_num,rfl,Z1 (by rw[ap.o,aw.o]),Z1 X.o.1⟩
     case measure=>simp[intOf];omega
  ·obtain rfl:n=j:=zO;go_wp2;go_ret;exact⟨by rw[am.o,HQ.o];rfl,HW.o⟩
def GP{c:Cg}(hc:c.ok){ps:List (List Cl)}(hn:ps.length<=32)(hall:∀p∈ps,p.length<=256):stepsN c ps<=1654784:=by
 have a:=lZ (λx=>(aF c x).length) 202 ps.flatten λx _=>qB hc x;have b:=mH ps 256 hall;have d:ps.length*256<=32*256:=Pr _ hn;have e:ps.flatten.length*202<=8192*202:=Pr _ zO;have:stepsN c ps=dK (λx=>(aF c x).length) ps.flatten:=rfl;omega
def GQ{ps:List (List Cl)}(hn:ps.length<=32)(hall:∀p∈ps,p.length<=256):stirsN ps<=8192:=by
 have a:=lZ ee 1 ps.flatten λx _=>by unfold ee;split<;>omega
 have b:=mH ps 256 hall;have c:ps.length*256<=32*256:=Pr _ hn;have:stirsN ps=dK ee ps.flatten:=rfl;omega
def GR(hc:c.ok)(ps:List (List Cl))(A:Option Addr)(n k m:Nat)(hP:dv w A n ps)(hn:ps.length+m<=32)(hall:∀p∈ps,p.length<=256/\∀x∈p,x.ok)(h0:cj c.st c.sa c.lo c.hi ps m=0):
  C 9 #[.agg #[I c.st,I c.sa,I c.lo,I c.hi],.slice A n k,I m] w λr w'=>r=.returned (.tuple #[I (mostN c ps m:Int),I 0])/\M w w':=by
 have e:=zh w (.cells #[I c.st,I c.sa,I c.lo,I c.hi] 23);have f:=Blk.A8 w 23 #[I c.st,I c.sa,I c.lo,I c.hi] rfl;have s:=hP.len;have t:=Z1 (λW (hW:M w W)=>oU c.st c.sa c.lo c.hi ps A n k m W (hP.up hW) zO (by unfold aq;omega));rw[h0]at t;have v:=Z1 (λW (hW:M w W)=>DK c hc ps A n k W (hP.up hW) zO hall);have y:=Z1 (λW (hW:M w W)=>DL ps A n k W (hP.up hW) zO hall);have N:=GP hc zO λp j=>(hall p j).1;have O:=GQ (ps:=ps) zO λp j=>(hall p j).1;have z:Hid (mostN c ps m=stepsN c ps+16*stirsN ps+6*m):=Z1 rfl;generalize mostN c ps m=B at*;generalize stepsN c ps=l at*;generalize stirsN ps=b at*;have D:m<=32:=zO;have P:IntKind.i64.wrap (16*(b:Int))=16*(b:Int):=by rw[OX];omega
 have Q:IntKind.i64.wrap ((l:Int)+16*(b:Int))=(l:Int)+16*(b:Int):=by rw[OX];omega
 have R:IntKind.i64.wrap (6*(m:Int))=6*(m:Int):=by rw[OX];omega
 have S:IntKind.i64.wrap ((l:Int)+16*(b:Int)+6*(m:Int))=(B:Int):=by have:=z.o;rw[OX];omega
 have q:=Z2 e f;clear hP h0 e f hc hall hn s
 go_in
 go_wp2_with fail;refine zm (t.o _ q.o.1) λT d=>?_;have a:=Z2 (af q.o.1 d) (q.o.2.later d);clear d;have F:=a.o.2.cell 0;have G:=a.o.2.cell 1;have H:=a.o.2.cell 2;have L:=a.o.2.cell 3;go_wp2_with fail;refine zm (v.o _ a.o.1) λU g=>?_;have h:=Z1 (af a.o.1 g);clear g F G H L;go_wp2_with fail;refine zm (y.o _ h.o) λX i=>?_;have u:=Z1 (af h.o i);clear i;go_wp2;exact OH (results_tmp2 rfl _ _ _) rfl ⟨rfl,u.o⟩
def yE:(finL c ps m raw).length=mostN c ps m+1:=pd _ _ _
def MP(h0:0<ps.length+m)(h1:ps.length+m<=32):∀p∈finL c ps m raw,aq p:=λp a=>by
 have:=vM (ps.length+m) zO raw _ p a;unfold aq;omega
def AU(hp:ge c ps)(A Ap:Option Addr)(n k kp m:Nat)(hP:dv w A n ps)(hn:ps.length+m<=32)(hn0:0<ps.length+m)(hall:∀p∈ps,p.length<=256/\∀x∈p,x.ok)(h0:cj c.st c.sa c.lo c.hi ps m=0)
  (raw:List Int)(hl:∀p∈raw,aq p)(hr:an w w.heap.size 1 Ap raw.length (i64s raw))(hrl:raw.length<=100000)(hu:mostN c ps m+1<=30000):
  C 42 #[.agg #[I c.st,I c.sa,I c.lo,I c.hi],.slice A n k,I m,.slice Ap raw.length kp] w λr w'=>∃ve vq,r=.returned (.tuple #[.agg (pT ve vq (j9 c ps m raw) (decide (gQ c (j9 c ps m raw) 0<0))),I 0])/\
   w'.ownsRow w.heap.size 79 34 ve (j9 c ps m raw).g.ev.length (vts (j9 c ps m raw).g.ev)/\w'.ownsRow w.heap.size 58 2 vq (j9 c ps m raw).g.q.line.length (cG (j9 c ps m raw).g.q.line)/\M w w':=by
 have s:=hP.len;have D:=ae (zh w (.cells #[I c.st,I c.sa,I c.lo,I c.hi] 23)) (.cells kG 38);have F:=Blk.A8 (w.alloc (.cells #[I c.st,I c.sa,I c.lo,I c.hi] 23)) 38 kG (g:=w.heap.size+1) zS;have G:=(Blk.A8 w 23 #[I c.st,I c.sa,I c.lo,I c.hi] rfl).alloc (.cells kG 38);have HM:=Z1 (λW (hW:M w W)=>GR W c hp.cfg ps A n k m (hP.up hW) hn hall h0);have T:Hid (∀W,M w W->C 91 #[I ((ps.length+m:Nat):Int),I ((mostN c ps m+1:Nat):Int),.slice Ap raw.length kp] W λe w'=>∃v,e=.returned v/\aL 1 W w' 3 v (mostN c ps m+1) (i64s (finL c ps m raw))):=Z1 λW hW=>by
  have h:=GO (ps.length+m) ((mostN c ps m+1:Nat):Int) raw Ap kp W (hr.up hW) hl zO hn zO hrl;rw[PH]at h;exact h
 have X:=Z1 (λW (hW:M w W) A2 k2 (ab:an W W.heap.size 1 A2 (mostN c ps m+1) (i64s (finL c ps m raw)))=>tj W c ps hp A A2 n k (mostN c ps m+1) k2 m (hP.up hW) hn hn0 h0 (finL c ps m raw) (MP c ps m raw hn0 hn) ab hu);have H:En.run c (.new c ps m) (finL c ps m raw)=j9 c ps m raw:=rfl;rw[H]at X;generalize j9 c ps m raw=e at*;generalize ac:mostN c ps m=mo at*;rw[<-s]at T;have ao:IntKind.i64.wrap ((n:Int)+(m:Int))=((n+m:Nat):Int):=by rw[OX];omega
 have ap:IntKind.i64.wrap ((mo:Int)+1)=((mo+1:Nat):Int):=by rw[OX];omega
 have B:=Z4 D F G s;clear hP h0 D F G hp hn hn0 hall hl hr hrl hu s H ac
 go_in
 go_wp2_with fail;refine zm (HM.o _ B.o.1) λw1 j=>?_;have i:=Z3 (af B.o.1 j) (B.o.2.1.later j) (B.o.2.2.1.later j);clear j;have Q:=i.o.2.2.drew;go_upto_region 4 with fail
 refine bW 14 (S:=λU=>Blk U w.heap.size 23 #[I c.st,I c.sa,I c.lo,I c.hi]) zR zR Q ?_;simp only[OM,OO,ON,OQ];try simp only[zD,zE,Nat.reduceAdd,zG]
 refine zq 0 ?_ (λW hW=>?_) ?_;rotate_left
 ·refine bE ye (.tmp 4) ?_ (Y w.heap.size 0) ?_ #[I c.st,I c.sa,I c.lo,I c.hi] rfl ?_;exact rfl;exact rfl;exact bQ hW
 refine zL ?_;refine zo 10 λK hK=>?_;go_simp
 (refine(T.o _ i.o.1.drew).mono ?_)
 rintro e3 w3 ⟨v3,rfl,d⟩;obtain⟨A3,k3,rfl,_,_,t⟩:=d.form;have u:=Q.later d.below;refine zJ hK u ?_;refine zo 11 λK hK=>?_;go_simp
 (refine(X.o _ (af i.o.1.drew d.below) A3 k3 t).mono ?_)
 rintro e4 w4 ⟨ve,vq,rfl,L,N,l⟩;have O:=u.later l;refine zJ hK O ?_;rw[bI];have a:=Z4 (af (af i.o.1.drew d.below) l) (aP L (af i.o.1.drew d.below).size) (aP N (af i.o.1.drew d.below).size) ((i.o.2.1.drew.later d.below).later l);clear L N l d t Q u O;generalize P:pT ve vq e (decide (gQ c e 0<0))=R at*;have y:R.size=5/\R.all (·.oneCell')=true:=by
  rw[<-P];have h1:=ak a.o.2.1;have h2:=ak a.o.2.2.1;obtain⟨_,_,rfl,_⟩:=h1;obtain⟨_,_,rfl,_⟩:=h2;exact⟨rfl,by simp[pT,Value.oneCell']⟩
 refine zj j8 (cs:=R) (hn:=y.1) (h1:=y.2) a.o.2.2.2 ?_;intro w9 ag z;go_wp2;refine OH (cx j8 rfl ag y.1 _ rfl) rfl ⟨ve,vq,by rw[P];rfl,?_,?_,z.below a.o.1 zO⟩
 ·exact z.B7.C8 a.o.2.1 λb e f=>aB a.o.2.1 a.o.2.2.2 zP (f▸e)
 ·exact z.B7.C8 a.o.2.2.1 λb e f=>aB a.o.2.2.1 a.o.2.2.2 zP (f▸e)
section
open Go.Maps Go.Sort Go.Shelf
def GS:Result Next->Bool
 | .ok (.enter _ _) _=>false
 | .ok (.row _ _) _=>false
 |_=>true
def MQ{F:Fence}{n:Nat}{P:Program}{o:Oper}{a:Act}{K:Act->World->Prop}{Q:Exit->Act->World->Prop}{r:Result Next}(hq:GS r=true)(h:o.upon P a K Q r):o.uponIn F n P a K Q r:=by
 unfold Oper.upon at h;unfold Oper.uponIn;split at h
 ·exact h
 ·exact h
 ·exact h
 ·cases hq
 ·cases hq
 ·exact h
 ·exact h.elim
def qC:Op->Bool
 | .load _ _=>true
 | .alloc _=>true
 | .store _ _ _=>true
 |_=>false
def GT{P:Program}{ρ:Operand->Value}{o:Oper}(h:qC o.op=true)(w:World):GS ((execOp ρ o).run P w)=true:=by
 unfold execOp
 cases ho:o.op<;>simp only[ho,qC]at h<;>first|cases h|skip
 all_goals
  simp only[Sem.run_bind];generalize Sem.run P _ w=r
  cases r<;>rfl
def nD{F:Fence}{n:Nat}{P:Program}{o:Oper}{ops:Array Oper}{rest:List Oper}{a:Act}{w:World}{Q:Exit->Act->World->Prop}(hgd:o.guard=none)(hq:qC o.op=true)
  (h:∀K:Act->World->Prop,(∀a' w',wpListIn F n P ops Q rest a' w'->K a' w')->o.wp P a w K Q):wpListIn F n P ops Q (o::rest) a w:=by
 refine wpListIn_plain hgd λK hK=>?_;have b:=h K hK;unfold Oper.wp at b;unfold Oper.wpIn;refine⟨λf d=>?_,?_⟩
 ·unfold Oper.about at d
  cases ho:o.op<;>simp[ho,qC]at hq d
 ·rw[Oper.semAt_plain F _ _ (λc e=>by rw[e]at hq;cases hq)];exact MQ (GT hq w) b
variable {F:Fence} {m n:Nat} {P:Program} {T:TypeId} {ops:Array Oper} {rest:List Oper} {o:Oper} {a:Act} {w:World} {Q:Exit→Act→World→Prop}
def rW(hT:cU P T n)(hgd:o.guard=none)(x:Operand)(ho:o.op=.load T x)
  (ad:Addr)(hx:a.eval x=.pointer (some ad))(cs:Array Value)(hn:cs.size=n)(hc:∀j v,cs.toList[j]?=some v->w.cell? (ad.add j)=some v)(h:wpListIn F m P ops Q rest (a.put o.dst (.agg cs)) w):wpListIn F m P ops Q (o::rest) a w:=
 nD hgd (by rw[ho];rfl) λK hK=>nU hT x ho ad hx cs hn hc (hK _ _ h)
def pV(hT:cU P T n)(hgd:o.guard=none)(ho:o.op=.alloc T)
  (h:wpListIn F m P ops Q rest (a.put o.dst (Z w.heap.size 0)) (w.alloc (.cells (zc P T) T))):wpListIn F m P ops Q (o::rest) a w:=
 nD hgd (by rw[ho];rfl) λK hK=>pg hT ho (hK _ _ h)
def iz(hT:cU P T n)(hgd:o.guard=none)(x y:Operand)(ho:o.op=.store T x y)(g:Nat)(hx:a.eval x=Z g 0)(cs:Array Value)(hy:a.eval y=.agg cs)
  {t:TypeId}{E8:Array Value}(hb:Blk w g t E8)(hn:cs.size=n)(hold:E8.size=n)(h1:cs.all (·.oneCell')=true)
  (h:∀w',Blk w' g t cs->aI g w w'->wpListIn F m P ops Q rest (a.put o.dst undef) w'):wpListIn F m P ops Q (o::rest) a w:=
 nD hgd (by rw[ho];rfl) λK hK=>bX hT x y ho g 0 hx cs hy hb hn zO h1 λw' b c=>hK _ _ (h w' (by rwa [pi _ _ zO]at b) c)
end
section
open Go.Maps Go.Sort Go.Shelf
set_option maxRecDepth 100000
attribute [local go_sem] Oper.semAt_some
def fS(l:List Vt):List (Int×Vt):=(l.mapIdx λi x=>((i:Int),x)).reverse
def pW:(fS l).length=l.length:=by simp[fS]
def GU{l:List Vt}{m:Nat}(h:l.length=m+1+k)(hk:k<(fS l).length)(hm:m<l.length):(fS l)[k]=((m:Int),l[m]):=by
 have:l.length-1-k=m:=zO;simp[fS,this]
def GV(hn:1<=n)(l Bb tb:Nat)(A:Option Addr)(cp:Nat)(es:List Vt)(S:Nat->Prop)(hSb:S Bb)(hSA:∀ad,A=some ad->0<es.length->S ad.block)(hfew:es.length<=100000)(J Jx:List (Int×Vt)->World->Prop)(W:World)
  (hY:∀pre x W1,J pre W1->pre.length<(fS es).length->YieldAt Fence.wide (n-1) prog l #[I x.1,.agg x.2.arr] W1 λe W'=>
   (e=.returned (.bool true)/\J (pre++[x]) W'/\KpQ S W1 W')\/(e=.returned (.bool false)/\Jx (pre++[x]) W'))
  (hBn:Blk W Bb tb #[.slice A es.length cp])(hR:an W W.heap.size 34 A es.length (vts es))(h0:J [] W):
  CallsIn Fence.wide n prog 110 #[.func (.yield l) #[] #[],Z Bb 0] W λe W'=>(∃v,e=.returned v)/\
   ((∃ys,ys=fS es/\J ys W')\/(∃pre,pre <+:fS es/\Jx pre W')):=by
 have f:=pW es;have y:=Z3 f hSA hR;refine callsIn_of_wp func110 rfl trivial ?_ rfl;simp only[ntmps110,OD,OC,OE,Nat.reduceAdd,Nat.reduceSub,Qu,Qv,QJ,QD,QA,PY];have X:=hBn.cell 0;simp at X;have ai:IntKind.i64.wrap ((es.length:Int)-1)=(es.length:Int)-1:=IntWalk.i64_in _ ⟨zO,zO⟩;obtain⟨N,hN⟩:∃N,N=es.length:=⟨_,rfl⟩;clear hR f hSA;gi_wp2
 gi_loopw [3] (λi wr=>∃k:Nat,k<=es.length/\i=I ((es.length:Int)-1-k)/\Hid (J ((fS es).take k) wr/\KpQ S W wr)) (λi _=>(intOf i+1).toNat)
 case atStart=>exact⟨0,OK _,zS,Z1 ⟨by simpa using h0,KpQ.refl _ _⟩⟩
 case round=>
  obtain⟨k,hk,rfl,c⟩:=hrel;have b1:wr.cell? (Y Bb 0)=some (.slice A es.length cp):=by
   have z:Blk wr Bb tb #[.slice A es.length cp]:=(c.o.2.1 Bb hSb).trans hBn;have:=z.cell 0
   simpa using this
  by_cases B:k<es.length
  ·obtain⟨m,s⟩:∃m,es.length=m+1+k:=⟨es.length-1-k,zO⟩;have g:m<es.length:=zO;have h:k<(fS es).length:=by rw[pW];exact B
   have D:=OG h;have t:=GU s h g;obtain⟨b,o,rfl,_,a⟩:=y.o.2.2.elem Vt.C2 zP rfl g;obtain⟨fn,aa,F,ab,hy,p⟩:=hY _ (fS es)[k] wr c.o.1 zT;have q:∀j u,es[m].arr.toList[j]?=some u->wr.cell? (((Y b (o+m*34)):Addr).add j)=some u:=by
    refine dw λj u hj=>?_;have G:=a j u hj;rw[<-PQ]at G;have h2:=c.o.2.1 b (y.o.2.1 _ rfl zO);simpa[World.cell?,h2]using G
   have H:=Z1 D;have d:(es.length:Int)-1-k=(m:Int):=zO;have ag:(m:Int)<(es.length:Int):=zO;have aj:IntKind.i64.wrap ((m:Int)-1)=(m:Int)-1:=IntWalk.i64_in _ ⟨zO,zO⟩;rw[d];rw[t]at hy p;have L:=Z1 t;have O:=Z2 d s;have P:=Z2 (show es[m].arr.size=34 from kF _) q;clear D a d s q t;generalize es[m]=x at*;generalize x.arr=cs at*
   gi_wp2_with (refine rW ba rfl (.tmp 15) rfl (Y b (o+m*34)) zF cs P.o.1 P.o.2 ?_)
   refine p.mono ?_;rintro e W3 (⟨rfl,Q,R⟩|⟨rfl,w⟩)
   ·gi_wp2;go_roundw
    case rel=>exact⟨k+1,zO,by have:=O.o.1;congr 1;omega,Z1 ⟨by rw[H.o,L.o];exact Q,c.o.2.trans R⟩⟩
    case measure=>have:=O.o.1;simp[intOf]
   ·gi_wp2;refine OH (Pb rfl _ _ _) rfl ?_;exact⟨⟨_,rfl⟩,.inr ⟨_,by have T:=H.o;rw[L.o]at T;rw[<-T];exact List.take_prefix _ _,w⟩⟩
  ·obtain rfl:k=es.length:=zO;have U:(es.length:Int)-1-(es.length:Int)= -1:=zO;have r:=c.o.1;rw[OT (by rw[pW];exact OA _)]at r;rw[U];gi_wp2
   go_end0
   exact⟨⟨_,rfl⟩,.inl ⟨_,rfl,r⟩⟩
def NM(hn:1<=n)(Bb tb:Nat)(A:Option Addr)(cp:Nat)(es:List Vt)(S:Nat->Prop)(hSb:S Bb)(hSA:∀ad,A=some ad->0<es.length->S ad.block)(hfew:es.length<=100000)(w:World)(hBn:Blk w Bb tb #[.slice A es.length cp])(hR:an w w.heap.size 34 A es.length (vts es)):
  SeqStopsK Fence.wide n prog 110 #[Z Bb 0] (λx:Int×Vt=>#[I x.1,.agg x.2.arr]) (KpQ S) (λys=>ys=fS es) (λpre=>pre <+:fS es) (fS es).length w:=λl J a W hW d _ b c=>
 GV n hn l Bb tb A cp es S hSb hSA hfew J a W b (hBn.later hW) (hR.up hW) c
def GW(c:Nat)(w:World):C 64 #[.slice A n c] w λe w'=>e=.returned (.func (.func 110) #[] #[Z w.heap.size 0])/\w.alloc (.cells #[.slice A n c] 35)=w':=by
 go_in
 go_wp2;go_ret;exact⟨rfl,rfl⟩
end
def jc:Array Value:=#[I 0,I 0,I 0,I 0,I 0]
def lI(k:K2)(x:Vt):Bool:=decide (x.kind=6)&&decide (x.key=k)
def qD(w WA:World)(k:K2)(tk ta tb:TypeId)(S:Nat->Prop)(pre:List (Int×Vt))(W:World):Prop:=
 ((Blk W w.heap.size tk k.arr/\Blk W (w.heap.size+1) ta jc/\Blk W (w.heap.size+2) tb #[.bool false])/\M w W)/\KpQ S WA W/\∀y∈pre,lI k y.2=false
def Lq(w:World)(k:K2)(ta tb:TypeId)(c:Code)(pre:List (Int×Vt))(W:World):Prop:=
 c=.ret/\∃p y,pre=p++[y]/\(∀z∈p,lI k z.2=false)/\lI k y.2=true/\(Blk W (w.heap.size+1) ta y.2.E0.cells.toArray/\Blk W (w.heap.size+2) tb #[.bool true])/\M w W
def iR{W:World}{row:Option Nat}{B g:Nat}{t:TypeId}(h:Blk W g t cs)(hg:W.grownBy W' row)(hr:∀r,row=some r->B<=r/\∃o:Obj,W.heap[r]?=some o/\o.isCells=false):Blk W' g t cs:=
 (hg.block g h.lt λe=>by
  obtain⟨_,o,a,b⟩:=hr g e.symm;rw[show W.heap[g]?=_ from h]at a;injection a with a;subst a
  cases b).trans h
def GX{w:World}{k:K2}{tk ta tb:TypeId}(h1:w.heap.size<=WA.heap.size)(hS:∀j,S j->j<WA.heap.size):OwnFrom WA.heap.size (qD w WA k tk ta tb S):=λs W o n g a b=>by
 obtain⟨⟨⟨h,i,l⟩,c⟩,d,m⟩:=g;refine⟨⟨⟨iR h a b,iR i a b,iR l a b⟩,c.grown a c.size λr e=>OJ h1 (b r e).1⟩,d.trans ⟨λj f=>a.block j (OV (hS j f) d.2) (λe=>by have:=(b j e.symm).1;have:=hS j f;omega),a.size⟩,m⟩
def qD.up{w W:World}{k:K2}{tk ta tb:TypeId}{pre:List (Int×Vt)}(h:qD w WA k tk ta tb S pre W)(hS:∀j,S j->j<WA.heap.size)(hb:M W W'):qD w WA k tk ta tb S pre W':=by
 obtain⟨⟨⟨b,c,d⟩,e⟩,a,f⟩:=h;exact⟨⟨⟨b.later hb,c.later hb,d.later hb⟩,af e hb⟩,a.trans ⟨λj g=>hb.block j (OV (hS j g) a.2),hb.size⟩,f⟩
def GY{w:World}{k:K2}{ta tb:TypeId}(h1:w.heap.size<=WA.heap.size)(c:Code):OwnFrom WA.heap.size (Lq w k ta tb c):=λs W o n f a b=>by
 obtain⟨g,p,y,h,i,j,⟨l,m⟩,d⟩:=f;exact⟨g,p,y,h,i,j,⟨iR l a b,iR m a b⟩,d.grown a d.size λr e=>OJ h1 (b r e).1⟩
section
open Go.Maps Go.Sort Go.Shelf
set_option maxRecDepth 100000
attribute [local go_sem] Oper.semAt_some
def uh(A:Option Addr)(n cp:Nat)(k0 k1:Int)(q vb:Nat)(x:Int×Vt):Act:={tmps:=#[.slice A n cp,.agg #[E k0,E k1],undef,Z q 0,Z (q+1) 0,Z (q+2) 0,undef,Z vb 0,.slice A n cp,.func (.func 110) #[] #[Z (q+3) 0],I x.1,.agg x.2.arr,undef,undef,undef,undef,undef,undef,undef,undef,undef,undef,undef,undef],defers:=[]}
def BO:cU prog 62 5:=⟨zR,zR,zR⟩
def pX{b:Bool}(h1:Blk w (q+1) 62 cs)(hn:cs.size=5)(h2:Blk w (q+2) 4 #[.bool b])(tmps:Array Value)(h4:tmps[4]?.getD undef=Z (q+1) 0)(h5:tmps[5]?.getD undef=Z (q+2) 0):
  (results f19 tmps).run prog w=.ok (.tuple #[.agg cs,.bool b]) w:=by
 obtain⟨l⟩:=cs;obtain⟨a,c,d,e,f,rfl⟩:∃a c d e f,l=[a,c,d,e,f]:=by
  match l,hn with
  |[a,c,d,e,f],_=>exact⟨a,c,d,e,f,rfl⟩
 have g:=h1.cell 0;have h:=h1.cell 1;have i:=h1.cell 2;have j:=h1.cell 3;have k:=h1.cell 4;have m:=h2.cell 0;simp at g h i j k m;simp[results,results19,h4,h5,asAddr,go_sem,g,h,i,j,k,m]
def KS:(fS l).map (·.2)=l.reverse:=by
 unfold fS;rw[List.map_reverse];congr 1;apply QI;intro i;simp
 cases l[i]?<;>rfl
def tx(k:K2):kb l k=((fS l).find? λy=>lI k y.2).map (·.2.E0):=by
 unfold kb;rw[<-KS,List.find?_map,Option.map_map];have:(λy:Int×Vt=>lI k y.2)=((λx:Vt=>decide (x.kind=6/\x.key=k)) ∘ λx:Int×Vt=>x.2):=by
  funext y;simp[lI]
 rw[this];rfl
def GZ(es:List Vt)(hes:∀x∈es,x.ok)(k:K2)(A:Option Addr)(cp:Nat)(w:World)(hr:an w w.heap.size 34 A es.length (vts es))(hfew:es.length<=100000):
  C 19 #[.slice A es.length cp,.agg k.arr] w λe w'=>e=.returned (.tuple #[.agg ((kb es k).getD az).cells.toArray,.bool (kb es k).isSome])/\M w w':=by
 refine(callsIn_wide (n:=3)).1 ?_;refine callsIn_of_wp_marks func19 rfl trivial ?_ rfl;simp only[ntmps19,OD,OC,OE,Nat.reduceAdd,Nat.reduceSub,Qu,Qv,QJ,QD,QA,PY];obtain⟨a,d⟩:=k;unfold K2.arr;simp only;gi_wp2;refine⟨trivial,(callsIn_wide.2 (GW _ _ _ _)).mono ?_⟩;rintro e w' ⟨rfl,rfl⟩;gi_wp2;have ay:=Blk.A8 w 58 (K2.arr ⟨a,d⟩) rfl;have a0:=Blk.A8 (w.alloc (.cells (K2.arr ⟨a,d⟩) 58)) 62 jc (g:=w.heap.size+1) zS;have a1:=Blk.A8 ((w.alloc (.cells (K2.arr ⟨a,d⟩) 58)).alloc (.cells jc 62)) 4 #[.bool false] (g:=w.heap.size+2) zS;have a2:=Blk.A8 (((w.alloc (.cells (K2.arr ⟨a,d⟩) 58)).alloc (.cells jc 62)).alloc (.cells #[.bool false] 4)) 35 #[.slice A es.length cp] (g:=w.heap.size+3) zS;have ab:M w ((((w.alloc (.cells (K2.arr ⟨a,d⟩) 58)).alloc (.cells jc 62)).alloc (.cells #[.bool false] 4)).alloc (.cells #[.slice A es.length cp] 35)):=ae (ae (ae (ae (Oy _ w) _) _) _) _;have h1:qD w _ ⟨a,d⟩ 58 62 4 (λb=>b<w.heap.size\/b=w.heap.size+3) [] ((((w.alloc (.cells (K2.arr ⟨a,d⟩) 58)).alloc (.cells jc 62)).alloc (.cells #[.bool false] 4)).alloc (.cells #[.slice A es.length cp] 35)):=⟨⟨⟨((ay.alloc _).alloc _).alloc _,(a0.alloc _).alloc _,a1.alloc _⟩,ab⟩,KpQ.refl _ _,λy m=>by cases m⟩;have P:((((w.alloc (.cells (K2.arr ⟨a,d⟩) 58)).alloc (.cells jc 62)).alloc (.cells #[.bool false] 4)).alloc (.cells #[.slice A es.length cp] 35)).heap.size=w.heap.size+4:=zS;have a3:=NM 2 zP (w.heap.size+3) 35 A cp es (λb=>b<w.heap.size\/b=w.heap.size+3) (.inr rfl) (λad e h0=>by
  obtain⟨bw,e2,h2,_⟩:=hr.2 h0;rw[e]at e2;injection e2 with e2;exact .inl (e2▸h2)) hfew _ a2 (hr.up ab)
 have Q:=Z3 P ab hes;have bg:=Z1 h1;have bh:=Z1 a3;clear P h1 a3 ay a0 a1 a2 ab hes;unfold K2.arr jc at*;simp only[PQ,Nat.reduceAdd];generalize bx:((((w.alloc (.cells #[E a,E d] 58)).alloc (.cells #[I 0,I 0,I 0,I 0,I 0] 62)).alloc (.cells #[.bool false] 4)).alloc (.cells #[.slice A es.length cp] 35))=WA at*;have ac:∀j,(j<w.heap.size\/j=w.heap.size+3)->j<WA.heap.size:=λj R=>by have:=Q.o.1;omega
 have a4:w.heap.size<=WA.heap.size:=by have:=Q.o.1;omega
 refine wpIn_rangeFunc_ownH rfl zP (gf:=110) (lb:=#[Z (w.heap.size+3) 0]) rfl trivial (enters_of func110 zR rfl)
  bh.o (λh k=>h.trans k) (λW l o o' hl h1 h2 h3=>⟨el.put ac W l o o' hl h1 h2 h3,zS⟩) (Oy _ _) (λ_=>rfl)
  (qD w WA ⟨a,d⟩ 58 62 4 λb=>b<w.heap.size\/b=w.heap.size+3) (Lq w ⟨a,d⟩ 62 4) (GX a4 ac) (λc=>GY a4 c)
  bg.o (λx a' W=>∃H,WA.heap.size<=H/\Blk W H 79 x.2.arr/\a'=uh A es.length cp a d w.heap.size H x) ?ax ?assign ?body ?done ?stop
 case ax=>
  rintro x a' s W W' bz ⟨H,h1,h2,h3⟩ hg hr;exact⟨H,h1,iR h2 hg hr,h3⟩
 case assign=>
  rintro l ao ⟨i,x⟩ W K S hK;obtain⟨⟨b0,q⟩,hk,t⟩:=id S;have P:=hk.2;have hx:=kF x;simp only;refine wpIn_region_lit ?_;refine pV ba rfl rfl ?_;go_simp;refine iz ba rfl (.tmp 7) (.tmp 11) rfl W.heap.size zF x.arr zF (Blk.A8 W 79 _ rfl) hx ba.D6 (mE x) ?_;intro L T v;have U:M W L:=v.below (ae (Oy _ W) _) (OA _);have HZ:=hK (uh A es.length cp a d w.heap.size W.heap.size (i,x)) L ⟨U.size,λj o _ R _=>(U.block j (PX.1 R).1).trans R⟩ ⟨λj R=>U.block j (OV (ac j R) P),U.size⟩ (S.up ac U) ⟨W.heap.size,P,T,rfl⟩;have HZ:=Z1 HZ;clear hK;gi_wp2;exact HZ.o
 case body=>
  rintro l ao ⟨i,x⟩ a' W _ _ S ⟨H,b1,u,rfl⟩ b2;unfold uh;simp only at*;obtain⟨⟨⟨N,B,F⟩,q⟩,X,t⟩:=id S;have c0:W.cell? ⟨H,0,none⟩=some (I x.kind):=u.cell 0;have b3:W.cell? ⟨H,27,none⟩=some (E x.key.hi):=u.cell 27;have b4:W.cell? ⟨H,28,none⟩=some (E x.key.lo):=u.cell 28;have d0:W.cell? ⟨w.heap.size,0,none⟩=some (E a):=N.cell 0;have d1:W.cell? ⟨w.heap.size,1,none⟩=some (E d):=N.cell 1;have a5:=qj x.key.hi x.key.lo a d;have HI:=Z1 S;by_cases h6:x.kind=6
  ·by_cases aa:x.key=⟨a,d⟩
   ·have hq:(x.key.hi==a&&x.key.lo==d)=true:=by rw[aa];simp
    rw[hq]at a5;have f:lI ⟨a,d⟩ x=true:=by simp[lI,h6,aa]
    have G:=Z4 f t q F;have b5:W.cell? ⟨H,29,none⟩=some (I x.E0.tick):=u.cell 29;have b6:W.cell? ⟨H,30,none⟩=some (I x.E0.load):=u.cell 30;have b7:W.cell? ⟨H,31,none⟩=some (I x.E0.want):=u.cell 31;have b8:W.cell? ⟨H,32,none⟩=some (I x.E0.V1):=u.cell 32;have b9:W.cell? ⟨H,33,none⟩=some (I x.E0.I8):=u.cell 33;have bj:=Z1 B;rw[h6]at c0;generalize a6:x.E0=ad at*;have bk:=Z1 a6;clear a6;have aq:w.heap.size+2≠w.heap.size+1:=zO;clear f S N B F q X t u hq h6
    gi_wp2_with (refine iz BO rfl (.tmp 4) (.tmp 22) rfl (w.heap.size+1) zF #[I ad.tick,I ad.load,I ad.want,I ad.V1,I ad.I8] zF bj.o rfl zF zV ?_;intro L T v;have O:Blk L (w.heap.size+2) 4 #[.bool false]:=v.B7.B0 G.o.2.2.2 aq;have cB:=O.cell 0;have fB:=O.frozen 0)
    have a7:=Q.o.1;refine⟨KeepsFrom.trans (Y:=L) ⟨v.B7.size,λj o hB R _=>(v.B7.block j (PX.1 R).1 zO).trans R⟩ ((KeepsOthers.setCell _ _ _).from _),rfl,ao,(i,x),rfl,G.o.2.1,G.o.1,⟨?_,?_⟩,(v.below G.o.2.2.1 zO).setCell (p:=⟨w.heap.size+2,0,none⟩) (by show w.heap.size<=w.heap.size+2;omega) _⟩
    ·have:=T.D1 (p:=⟨w.heap.size+2,0,none⟩) (by show w.heap.size+1≠w.heap.size+2;omega) (.bool true);rw[<-bk.o]at this;exact this
    ·have:=O.B4 0 (.bool true)
     simpa using this
   ·have hq:(x.key.hi==a&&x.key.lo==d)=false:=by
     cases hqq:(x.key.hi==a&&x.key.lo==d)with
     |false=>rfl
     |true=>
      simp at hqq;exact(aa (by cases hxk:x.key;rw[hxk]at hqq;simp at hqq;rw[hqq.1,hqq.2])).elim
    rw[hq]at a5;have f:lI ⟨a,d⟩ x=false:=by simp[lI,aa]
    have G:=Z1 f;rw[h6]at c0;clear f S N B F q X t u aa hq;gi_wp2;exact⟨KeepsFrom.refl _ _,KpQ.refl _ _,HI.o.1,HI.o.2.1,λy m=>by
     rcases Po.1 m with m|m
     ·exact HI.o.2.2 y m
     ·simp at m;subst m;exact G.o⟩
  ·have ca:(x.kind==6)=false:=by simpa using h6
   have f:lI ⟨a,d⟩ x=false:=by simp[lI,h6]
   have G:=Z1 f;clear f S N B F q X t u;gi_wp2;exact⟨KeepsFrom.refl _ _,KpQ.refl _ _,HI.o.1,HI.o.2.1,λy m=>by
    rcases Po.1 m with m|m
    ·exact HI.o.2.2 y m
    ·simp at m;subst m;exact G.o⟩
 case done=>
  rintro D ys W hD rfl ⟨⟨⟨N,B,F⟩,q⟩,X,t⟩ hK;have a7:=Q.o.1;have aq:w.heap.size+2≠w.heap.size+1:=zO;have G:=Z5 B F q t hK;clear B F q t hK N X
  gi_wp2_with (refine iz BO rfl (.tmp 4) (.tmp 23) rfl (w.heap.size+1) zF jc zF G.o.1 rfl zF (by simp[Value.oneCell',jc]) ?_;intro L T v;have O:Blk L (w.heap.size+2) 4 #[.bool false]:=v.B7.B0 G.o.2.1 aq;have cB:=O.cell 0;have fB:=O.frozen 0)
  have bd:Blk (L.setCell ⟨w.heap.size+2,0,none⟩ (.bool false)) (w.heap.size+2) 4 #[.bool false]:=by
   have:=O.B4 0 (.bool false)
   simpa using this
  have be:=T.D1 (p:=⟨w.heap.size+2,0,none⟩) (by show w.heap.size+1≠w.heap.size+2;omega) (.bool false);have bf:=(v.below G.o.2.2.1 zO).setCell (p:=⟨w.heap.size+2,0,none⟩) (by show w.heap.size<=w.heap.size+2;omega) (.bool false);have a8:(L.setCell ⟨w.heap.size+2,0,none⟩ (.bool false)).heap[D]?=some (.deferred (some [])):=(Pd L ⟨w.heap.size+2,0,none⟩ _ D (by show D≠w.heap.size+2;omega)).trans ((v.B7.block D (PX.1 G.o.2.2.2.2).1 zO).trans G.o.2.2.2.2);generalize L.setCell ⟨w.heap.size+2,0,none⟩ (.bool false)=W2 at*;refine⟨zS,.inl ⟨_,_,rfl,run_takeDeferred a8,?_⟩⟩;have af:Blk (W2.putObj D (.deferred none)) (w.heap.size+1) 62 jc:=(World.putObj_heap_other zO).trans be;have ag:Blk (W2.putObj D (.deferred none)) (w.heap.size+2) 4 #[.bool false]:=(World.putObj_heap_other zO).trans bd;have aw:kb es ⟨a,d⟩=none:=by
   rw[tx,RB.2 λy m=>by rw[G.o.2.2.2.1 y m];simp];rfl
  refine⟨.tuple #[.agg jc,.bool false],pX _ af rfl ag _ zF zF,by rw[aw];rfl,bf.trans (belowK_b (w:=w) (OA _) _ D _ (.deferred none) zO a8 rfl rfl)⟩
 case stop=>
  rintro D c ao W hD ⟨r,hr⟩ ⟨rfl,p,y,rfl,t,f,⟨B,F⟩,q⟩ hK;have a7:=Q.o.1;have af:Blk (W.putObj D (.deferred none)) (w.heap.size+1) 62 y.2.E0.cells.toArray:=(World.putObj_heap_other zO).trans B;have ag:Blk (W.putObj D (.deferred none)) (w.heap.size+2) 4 #[.bool true]:=(World.putObj_heap_other zO).trans F;have ah:kb es ⟨a,d⟩=some y.2.E0:=by
   rw[tx,<-hr,Pv,List.find?_append,RB.2 λz hz=>by rw[t z hz];simp];simp[List.find?_cons,f]
  have HF:=Z5 ah af ag hK (q.trans (belowK_b (w:=w) (OA _) _ D _ (.deferred none) zO hK rfl rfl));clear af ag ah hK q t f B F hr;gi_wp2;refine⟨zS,.inl ⟨_,_,rfl,run_takeDeferred HF.o.2.2.2.1,?_⟩⟩;exact⟨.tuple #[.agg y.2.E0.cells.toArray,.bool true],pX _ HF.o.2.1 rfl HF.o.2.2.1 _ zF zF,by rw[HF.o.1];rfl,HF.o.2.2.2.2⟩
end
def awA:Adv:=((kb (j9 awC awP 1 []).g.ev (av awI)).getD az)
def Ha:awC.ok:=by unfold Cg.ok;decide+kernel
def NN:cj (awC.st:Nat) (awC.sa:Nat) (awC.lo:Nat) (awC.hi:Nat) awP (1:Nat)=0:=by decide+kernel
def ui:mostN awC awP 1=54:=by decide+kernel
def MR:(kb (j9 awC awP 1 []).g.ev (av awI)).isSome=true/\awA.V1=3:=by decide+kernel
def Oi:bd awI=true:=by decide+kernel
def DM:∀p∈awP,p.length<=256/\∀x∈p,x.ok:=by
 intro p a;simp only[awP,Pj,List.mem_nil_iff,or_false]at a;subst a;refine⟨zP,λx b=>?_⟩;simp only[Pj,List.mem_nil_iff,or_false]at b
 rcases b with rfl|rfl
 all_goals exact⟨by unfold aq;decide,by unfold aq;decide,by unfold aq;decide,by unfold aq;decide,⟨by unfold aq;decide,by unfold aq;decide,by unfold aq;decide,by unfold aq;decide,by unfold aq;decide,by unfold aq;decide⟩,zP⟩
def DN:ge awC awP:=⟨Ha,λp a=>⟨OJ (DM p a).1 zP,(DM p a).2⟩,zP⟩
def NO:dI awC awP (j9 awC awP 1 [])/\(j9 awC awP 1 []).used<=55:=by
 have h:=(dI.new DN 1 zP).run DN (finL awC awP 1 []) (by rw[yE,ui];decide);refine⟨h.1,?_⟩;have:=h.2.1;rw[yE,ui]at this;exact this
def MS:gQ awC (j9 awC awP 1 []) 0<0:=by decide+kernel
def Hb:C 41 #[] w (J (.agg #[I 1,I 10,I 100,I 100,I 5,I 3]) w):=by
 go_in
 have a:=Blk.A8 w 51 #[I 0,I 0,I 0,I 0,I 0,I 0] rfl;have b:=Z2 a (ae (Oy _ w) (.cells #[I 0,I 0,I 0,I 0,I 0,I 0] 51));clear a
 go_wp2_with (refine zj wR (cs:=#[I 1,I 10,I 100,I 100,I 5,I 3]) b.o.1 ?_;intro f c d)
 exact OH (au wR rfl c rfl _ rfl) rfl ⟨rfl,d.below b.o.2 (OA _)⟩
def awB(w:World):World:=(w.alloc (.cells #[I 6,.string ⟨#[97]⟩,I 0,I 0,I 0,I 1,I 10,I 100,I 100,I 5,I 3,I 1,.string ⟨#[97]⟩,I 1,I 250,I 0,I 0,I 0,I 0,I 0,I 0,I 0] 73)).alloc (.cells #[V w.heap.size 0 2 2] 40)
def NP:dv (awB w) (some (Y (w.heap.size+1) 0)) 1 awP/\M w (awB w):=by
 have c:=(Blk.A8 w 73 (cls awP[0]).toArray rfl).alloc (.cells #[V w.heap.size 0 2 2] 40);have d:=Blk.A8 (w.alloc (.cells (cls awP[0]).toArray 73)) 40 #[V w.heap.size 0 2 2] (g:=w.heap.size+1) zS;refine⟨⟨[V w.heap.size 0 2 2],⟨rfl,λ_=>⟨_,rfl,by simp[awB],λj u a=>?_⟩⟩,rfl,λi e=>?_⟩,ae (ae (Oy _ w) _) _⟩
 ·exact bQ (w:=awB w) d j u a
 ·have b:i=0:=by simp[awP]at e;omega
  subst b;exact⟨some (Y w.heap.size 0),2,rfl,OA 2,zP,rfl,λ_=>⟨_,rfl,by simp[awB];omega,λj u a=>bQ (w:=awB w) c j u a⟩⟩
def NQ(h:dv w A 1 awP):∃(l:List Vt) (ad:Adv),C 42 #[.agg #[I 2,I 4,I 4,I 2],.slice A 1 1,I 1,.slice none 0 0] w (λr w'=>∃A3 k3 vq u op,r=.returned (.tuple #[.agg #[.slice A3 l.length k3,I u,I op,vq,.bool true],I 0])/\
   an w' w'.heap.size 34 A3 l.length (vts l)/\(∃A4 n4 k4,vq=.slice A4 n4 k4)/\M w w')/\l.length<=80000/\(∀x∈l,nz x)/\mT awC l/\sV l/\ix (l.map aK)=true/\kb l (av awI)=some ad/\ad.V1=3:=by
 have d:=AU w awC awP DN A none 1 1 0 1 h zP zP DM NN [] zS ⟨rfl,λh=>absurd h zP⟩ zP (by rw[ui];decide);rw[decide_eq_true MS]at d;have b:=NO;have i:=b.1.evs zO;have c:=MR;unfold awA at c;generalize j9 awC awP 1 []=e at*;refine⟨e.g.ev,(kb e.g.ev (av awI)).getD az,d.mono λr w' ⟨n,vq,j,f,k,m⟩=>?_,zO,b.1.E.L9.O3,b.1.E.L9.U0,b.1.E.L9.told,b.1.E.L9.right,?_,c.2⟩
 ·obtain⟨A3,k3,rfl,_⟩:=ak f;obtain⟨A4,k4,rfl,_⟩:=ak k;exact⟨A3,k3,.slice A4 e.g.q.line.length k4,(e.used:Int),(openN e:Int),j,an.C4 f,⟨A4,_,k4,rfl⟩,m⟩
 ·cases hq:kb e.g.ev (av awI)with
  |none=>rw[hq]at c;cases c.1
  |some a=>rfl
def pY:C 7 #[] w (J (.bool true) w):=by
 have HU:=Z1 (λW=>Hb W)
 go_in
 go_wp2_with fail;refine zm (HU.o _) λw1 N=>?_;have z:=Z1 N;clear N;have O:=(Blk.A8 w 23 #[I 2,I 4,I 4,I 2] rfl).later z.o;have P:=af (ae (Oy _ w) (.cells #[I 2,I 4,I 4,I 2] 23)) z.o;have Q:=NP w1;have q:=Z3 O P Q;clear O P Q;go_upto_region 3 with fail
 unfold awB at q;generalize a1:(w1.alloc (.cells #[I 6,.string ⟨#[97]⟩,I 0,I 0,I 0,I 1,I 10,I 100,I 100,I 5,I 3,I 1,.string ⟨#[97]⟩,I 1,I 250,I 0,I 0,I 0,I 0,I 0,I 0,I 0] 73)).alloc (.cells #[V w1.heap.size 0 2 2] 40)=w2 at*;have R:=q.o.2.2.1;have S:=af q.o.2.1 q.o.2.2.2;have c:=q.o.1.later q.o.2.2.2;obtain⟨l,a,hF,ao,B,T,U,X,aa,ab⟩:=NQ w2 _ R;have HF:=Z1 hF;obtain⟨f,er,a4,ac,ag⟩:=rJ awI zP;have D:=ac Oi;have HK:=Z1 ag;have HL:=Z1 (λ(W:World) (A:Option Addr) (k n:Nat) (hn:n=l.length) (hr:an W W.heap.size 34 A n (vts l))=>show C 43 #[.agg #[I 2,I 4,I 4,I 2],.slice A n k] W λe w'=>e=.returned (.bool true)/\M W w' from Di awC Ha l B T U X A k n W hr zO);have HD:=Z1 (λ(W:World) (A:Option Addr) (k n:Nat) (hn:n=l.length) (hr:an W W.heap.size 34 A n (vts l))=>show C 19 #[.slice A n k,.agg #[E f.hi,E f.lo]] W λe w'=>e=.returned (.tuple #[.agg #[I a.tick,I a.load,I a.want,I 3,I a.I8],.bool true])/\M W w' from by
  subst hn;have h:=GZ l (λx hx=>(B x hx).ok) f A k W hr zO;rw[D,aa]at h;rw[D,<-ab];exact h)
 have HE:=Z2 S c;have c0:=c.cell 0;have c1:=c.cell 1;have c2:=c.cell 2;have c3:=c.cell 3;clear hF ao B T U X aa ab D ag ac R S c a4 q a1 HU z;go_wp2_with fail;refine HF.o.mono ?_;rintro e3 w3 ⟨A3,k3,vq,u,op,rfl,F,⟨A4,n4,k4,rfl⟩,G⟩;obtain⟨H,r⟩:∃H,H=l.length:=⟨_,rfl⟩;rw[<-r]at F;rw[<-r];clear c0 c1 c2 c3;have y:=Z4 (af HE.o.1 G) (HE.o.2.later G) F r;have ah:=Blk.A8 w3 38 kG rfl;have a7:=Z1 ah;clear F r G ah
 go_wp2_with (refine zj j8 (cs:=#[.slice A3 H k3,I u,I op,.slice A4 n4 k4,.bool true]) a7.o ?_;intro w9 ai aj)
 have g:=aj.below (ae (Oy _ w3) _) (OA _);have s:=Z5 (af y.o.1 g) (y.o.2.1.later g) (y.o.2.2.1.up g) y.o.2.2.2 ai;clear ai aj g;refine zm (HK.o w9) λw4 i=>?_;have t:=Z4 (af s.o.1 i) (s.o.2.1.later i) (s.o.2.2.1.up i) (s.o.2.2.2.2.later i);clear i;go_upto_region 5 with fail
 have j:=ae (Oy _ w4) (.cells #[E f.hi,E f.lo] 58);have L:=Blk.A8 w4 58 #[E f.hi,E f.lo] rfl;have d:=Z4 (af t.o.1 j) (t.o.2.1.later j) (t.o.2.2.1.up j) (t.o.2.2.2.later j);have e0:=d.o.2.2.2.cell 0;have k0:=L.cell 0;have k1:=L.cell 1;clear L j;generalize w4.alloc (.cells #[E f.hi,E f.lo] 58)=w5 at*;go_wp2_with fail;refine zm (HD.o w5 A3 k3 H y.o.2.2.2 d.o.2.2.1) λw6 m=>?_;clear e0 k0 k1;have v:=Z4 (af d.o.1 m) (d.o.2.1.later m) (d.o.2.2.1.up m) (d.o.2.2.2.later m);clear m;go_upto_region 6 with fail
 have p:=ae (Oy _ w6) (.cells #[I a.tick,I a.load,I a.want,I 3,I a.I8] 62);have ak:=Blk.A8 w6 62 #[I a.tick,I a.load,I a.want,I 3,I a.I8] rfl;have b:=Z4 (af v.o.1 p) (v.o.2.1.later p) (v.o.2.2.1.up p) (v.o.2.2.2.later p);have a3:=ak.cell 3;clear ak p;generalize w6.alloc (.cells #[I a.tick,I a.load,I a.want,I 3,I a.I8] 62)=w7 at*;have e0:=b.o.2.2.2.cell 0;have e4:=b.o.2.2.2.cell 4;have c0:=b.o.2.1.cell 0;have c1:=b.o.2.1.cell 1;have c2:=b.o.2.1.cell 2;have c3:=b.o.2.1.cell 3;go_wp2_with fail;refine zm (HL.o w7 A3 k3 H y.o.2.2.2 b.o.2.2.1) λw8 al=>?_;have a8:=Z1 (af b.o.1 al);clear al e0 e4 c0 c1 c2 c3 a3;go_wp2;go_ret;exact⟨rfl,a8.o⟩
def ef(ps:List (List Cl))(wk:Int)(np:Nat):Bool:=ps.all (λp=>decide (p.length<=8))&&(decide (ps.length<=5)&&(decide (wk<=4)&&decide (np<=200)))
def Hc{ps:List (List Cl)}{wk:Int}(h:k<ps.length)(h8:¬ps[k].length<=8):ef ps wk np=false:=by
 unfold ef;have:ps.all (λp=>decide (p.length<=8))=false:=by
  rw[List.all_eq_false];exact⟨ps[k],OR h,by simpa using h8⟩
 rw[this];rfl
def DO{ps:List (List Cl)}{wk:Int}(h:∀(j:Nat) (hj:j<ps.length),ps[j].length<=8):ef ps wk np=(decide (ps.length<=5)&&(decide (wk<=4)&&decide (np<=200))):=by
 unfold ef;have:ps.all (λp=>decide (p.length<=8))=true:=by
  rw[QT];intro p a;obtain⟨j,hj,rfl⟩:=PJ a
  simpa using h j hj
 rw[this];rfl
def DP(n k np kp:Nat)(w:World)(hP:dv w A n ps)(hn:n<=10000000000000)(hnp:np<=maxLen)(hwk:aq wk):
  C 44 #[.slice A n k,I wk,.slice Ap np kp] w (J (.bool (ef ps wk np)) w):=by
 have m:=hP.len;have r:=Z1 m;have D:=Z1 hP;have d:=Z1 (Oy w.heap.size w);unfold aq at hwk;unfold maxLen at hnp;clear m hP
 go_in
 go_wp2;go_loop [7] (λi=>∃(k:Nat),k<=n/\i=I k/\Hid (∀(j:Nat) (f:j<ps.length),j<k->ps[j].length<=8)) (λi=>n-(intOf i).toNat)
 case atStart=>exact⟨0,zO,rfl,Z1 λj _ h=>zO⟩
 case round=>
  obtain⟨k,O,rfl,u⟩:=hrel;by_cases H:k<n
  ·have p:k<ps.length:=by have:=r.o;omega
   have s:(k:Int)<(n:Int):=zO;obtain⟨P,Q,R,rfl,F,S,L,v,q⟩:=D.o.at_ p;unfold maxLen at v;by_cases g:ps[k].length<=8
   ·have x:¬(8:Int)<(ps[k].length:Int):=zO;have G:=Z1 g;clear g q;go_wp2;go_round
    case rel=>
     refine⟨k+1,zO,by go_num,Z1 λj f N=>?_⟩;by_cases y:j=k
     ·subst y;exact G.o
     ·exact u.o j f zO
    case measure=>simp[intOf];omega
   ·have x:(8:Int)<(ps[k].length:Int):=zO;have b:Hid (ef ps wk np=false):=Z1 (Hc p g);clear g q;go_wp2;go_ret;exact⟨cN b.o.symm,d.o⟩
  ·obtain rfl:n=k:=zO;have s:¬(n:Int)<(n:Int):=zO;have b:Hid (ef ps wk np=(decide (ps.length<=5)&&(decide (wk<=4)&&decide (np<=200)))):=Z1 (DO λj f=>u.o j f (by have:=r.o;omega));rw[<-r.o]at b;by_cases a:n<=5
   ·have z:(n:Int)<=5:=zO;by_cases t:wk<=4
    ·by_cases l:np<=200
     ·have B:(np:Int)<=200:=zO;have c:Hid (ef ps wk np=true):=Z1 (by rw[b.o];simp[a,t,l]);clear a l;go_wp2;go_ret;exact⟨cN c.o.symm,d.o⟩
     ·have B:¬(np:Int)<=200:=zO;have c:Hid (ef ps wk np=false):=Z1 (by rw[b.o];simp[a,t,l]);clear a l;go_wp2;go_ret;exact⟨cN c.o.symm,d.o⟩
    ·have c:Hid (ef ps wk np=false):=Z1 (by rw[b.o];simp[a,t]);clear a;go_wp2;go_ret;exact⟨cN c.o.symm,d.o⟩
   ·have z:¬(n:Int)<=5:=zO;have c:Hid (ef ps wk np=false):=Z1 (by rw[b.o];simp[a]);clear a;go_wp2;go_ret;exact⟨cN c.o.symm,d.o⟩
def pZ(ps:List (List Cl))(wk:Int)(A Ap:Option Addr)(n k np kp:Nat)(w:World)(hP:dv w A n ps)(hn:n<=10000000000000)(hnp:np<=maxLen)(hst:aq st)(hwk:aq wk):
  C 8 #[.agg #[I st,I sa,I lo,I hi],.slice A n k,I wk,.slice Ap np kp] w λe w'=>e=.returned (.bool (decide (st<=8)&&ef ps wk np))/\M w w':=by
 have a:=zh w (.cells #[I st,I sa,I lo,I hi] 23);have i:=Z1 (λW (hW:M w W)=>DP ps wk A Ap n k np kp W (hP.up hW) hn hnp hwk);have d:=Z1 a;generalize ef ps wk np=b at*;unfold aq at hst;clear a hP;by_cases g:st<=8
 ·have f:Hid ((decide (st<=8)&&b)=b):=Z1 (by simp[g])
  go_in
  go_wp2_with fail;refine zm (i.o _ d.o) λj c=>?_;have h:=Z1 (af d.o c);clear c;go_wp2;go_ret;exact⟨cN f.o.symm,h.o⟩
 ·have f:Hid ((decide (st<=8)&&b)=false):=Z1 (by simp[g])
  go_in
  go_wp2;go_ret;exact⟨cN f.o.symm,d.o⟩
section
variable {c:Cg} {ps:List (List Cl)}
end
def TC{α:Type}{l:List (Option α)}(h:l[q]?=some none):findE l ((q:Int)+1)=8:=by
 have a:=(OZ.1 h).1;unfold findE;rw[Oz zO,OB];rw[show((q:Int)+1).toNat - 1=q by omega,OP,h];rfl
def TG{α:Type}{l:List (Option α)}{x:α}(h:l[q]?=some (some x)):findE l ((q:Int)+1)=0:=by
 have a:=(OZ.1 h).1;unfold findE;rw[Oz zO,Oz];rw[show((q:Int)+1).toNat - 1=q by omega,OP,h];simp
def TD{c:Cg}{S:Sto}{m:Mp}(hr:et c S m)(h:m.B9[q]?=some none):gS (cutsN S.B9) ((q:Int)+1)=.tuple #[.pointer none,I 8]:=by
 have a:findE (cutsN S.B9) ((q:Int)+1)=8:=(hr.findE _).trans (TC h);unfold gS;rw[Oz (by rw[a];decide),a]
def TH{w:World}{c:Cg}{sp tp lb:Nat}{v:Value}{S:Sto}{m:Mp}(hs:bU w c T sp v tp lb S)(hr:et c S m){ls:List (K2×Ld)}(h:m.B9[q]?=some (some ls)):
  ∃cb zs,gS (cutsN S.B9) ((q:Int)+1)=.tuple #[Z cb 0,I 0]/\eK w c T cb ((q:Int)+1) zs/\Fk c zs ls:=by
 rcases hr.cut q with⟨e,i,b,a,f⟩|⟨b,a⟩|⟨b,a⟩
 ·rw[h]at a;injection a with a;injection a with a;subst a;refine⟨e.1,e.2,?_,hs.B9 q e b,f⟩;have d:findE (cutsN S.B9) ((q:Int)+1)=0:=(hr.findE _).trans (TG h);have g:=CP S.B9 q;unfold gS;rw[OB d,show((q:Int)+1).toNat - 1=q by omega,show cutsN S.B9=S.B9.map λo=>o.map (·.1)from rfl,g,OP,b];rfl
 ·rw[h]at a;cases a
 ·rw[h]at a;cases a
def Tu(ps:List (List Cl))(wk:Int)(A Ap:Option Addr)(n k np kp:Nat)(w:World)(TO wd:Int)(hP:dv w A n ps)(hn:n<=10000000000000)(hnp:np<=maxLen)(hst:aq st)(hwk:aq wk)(hL:(decide (st<=8)&&ef ps wk np)=false):
  C 5 #[.agg #[I st,I sa,I lo,I hi],.slice A n k,I wk,.slice Ap np kp,I TO,I wd] w (J (.bool true) w):=by
 have c:=zh w (.cells #[I st,I sa,I lo,I hi] 23);have d:=Blk.A8 w 23 #[I st,I sa,I lo,I hi] rfl;have f:=Z1 (λW (hW:M w W)=>pZ st sa lo hi ps wk A Ap n k np kp W (hP.up hW) hn hnp hst hwk);rw[hL]at f;have j:=Z1 (λW=>pY W);have g:=Z2 c d
 go_in
 go_wp2_with fail;refine(j.o _).mono ?_;rintro l m ⟨rfl,b⟩;have a:=Z2 (af g.o.1 b) (g.o.2.later b);have p:=a.o.2.cell 0;have q:=a.o.2.cell 1;have r:=a.o.2.cell 2;have s:=a.o.2.cell 3;go_wp2_with fail;refine(f.o _ a.o.1).mono ?_;rintro t u ⟨rfl,h⟩;have i:=Z1 (af a.o.1 h);go_wp2;go_ret;exact⟨rfl,i.o⟩
def Tn(ps:List (List Cl))(wk:Int)(A Ap:Option Addr)(n k np kp:Nat)(w:World)(TO wd:Int)(hP:dv w A n ps)(hn:n<=1000000)(hnp:np<=maxLen)(hst:aq st)(hwk:aq wk)(hL:(decide (st<=8)&&ef ps wk np)=true)(h0:cj st sa lo hi ps wk≠0):
  C 5 #[.agg #[I st,I sa,I lo,I hi],.slice A n k,I wk,.slice Ap np kp,I TO,I wd] w (J (.bool true) w):=by
 have f:=zh w (.cells #[I st,I sa,I lo,I hi] 23);have g:=Blk.A8 w 23 #[I st,I sa,I lo,I hi] rfl;have h:=Z1 (λW (hW:M w W)=>pZ st sa lo hi ps wk A Ap n k np kp W (hP.up hW) zO hnp hst hwk);rw[hL]at h;have m:=Z1 (λW=>pY W);have p:=Z1 (λW (hW:M w W)=>DJ W st sa lo hi ps A n k wk (hP.up hW) hn hwk h0);generalize cj st sa lo hi ps wk=q at*;have v:(q==0)=false:=by simpa using h0
 have i:=Z2 f g
 go_in
 go_wp2_with fail;refine(m.o _).mono ?_;rintro x y ⟨rfl,c⟩;have a:=Z2 (af i.o.1 c) (i.o.2.later c);have r:=a.o.2.cell 0;have s:=a.o.2.cell 1;have t:=a.o.2.cell 2;have u:=a.o.2.cell 3;go_wp2_with fail;refine(h.o _ a.o.1).mono ?_;rintro z B ⟨rfl,d⟩;have b:=Z2 (af a.o.1 d) (a.o.2.later d);have r:=b.o.2.cell 0;have s:=b.o.2.cell 1;have t:=b.o.2.cell 2;have u:=b.o.2.cell 3;go_wp2_with fail;refine(p.o _ b.o.1).mono ?_;rintro D F ⟨rfl,j⟩;have l:=Z1 (af b.o.1 j);go_wp2;go_ret;exact⟨rfl,l.o⟩
def Tv(hp:ge c ps)(A Ap:Option Addr)(n k np kp m:Nat)(w:World)(TO wd:Int)(hto:aq TO)(hwd:aq wd)(hP:dv w A n ps)(hn:ps.length+m<=32)(hn0:0<ps.length+m)(h0:cj c.st c.sa c.lo c.hi ps m=0)
  (raw:List Int)(hl:∀p∈raw,aq p)(hr:an w w.heap.size 1 Ap np (i64s raw))(hu:np<=30000)(hL:(decide ((c.st:Int)<=8)&&ef ps m np)=true):
  C 5 #[.agg #[I c.st,I c.sa,I c.lo,I c.hi],.slice A n k,I m,.slice Ap np kp,I TO,I wd] w (J (.bool true) w):=by
 have bo:=zh w (.cells #[I c.st,I c.sa,I c.lo,I c.hi] 23);have bp:=Blk.A8 w 23 #[I c.st,I c.sa,I c.lo,I c.hi] rfl;have c9:=Cg.I0 hp.cfg;have HC:=Z1 (λW (hW:M w W)=>pZ c.st c.sa c.lo c.hi ps m A Ap n k np kp W (hP.up hW) (by have:=hP.len;omega) zU (by unfold aq;omega) (by unfold aq;omega));rw[hL]at HC;have HA:=Z1 (λW=>pY W);have bq:np=raw.length:=by have:=hr.len;simpa[i64s]using this
 have cp:(En.new c ps m).count=ps.length+m:=by simp[En.new,En.count]
 have hi:=dI.new hp m hn;have O:=hi.run hp raw (by rw[<-bq];simpa[En.new]using hu);have HN:=Z1 (λW (hW:M w W)=>KQ W c hp.cfg ps A n k m (hP.up hW) hn (λp h=>(hp.each p h).1) h0);have HR:=Z1 (λW ep B (hB:w.heap.size<=B) (hW:M w W) (hE:kY W c B ep (.new c ps m))=>KL W c B ep (.new c ps m) ps hp hi zO hE raw hl Ap kp np (by have:=(hr.below hW);exact⟨this.1,λh=>by obtain⟨ad,e,h1,R⟩:=this.2 h;exact⟨ad,e,zO,R⟩⟩) (by simpa[En.new]using hu));have ar:(En.run c (.new c ps m) raw).used<=30000:=by have:=O.2.1;simp[En.new]at this ⊢;omega
 have HF:=Z2 O.1.E.L9 (O.1.evs ar);have br:=Z2 hto hwd;generalize En.run c (.new c ps m) raw=e at*;have HI:=Z1 hp.cfg;have HB:=Z2 bo bp;clear bo bp hP hL h0 hp hn hn0 hl hr hu c9 bq cp hi O ar hto hwd
 go_in
 go_wp2_with fail;refine(HA.o _).mono ?_;rintro e1 w1 ⟨rfl,a1⟩;have y:=Z2 (af HB.o.1 a1) (HB.o.2.later a1);clear a1;have c0:=y.o.2.cell 0;have c1:=y.o.2.cell 1;have c2:=y.o.2.cell 2;have c3:=y.o.2.cell 3;go_wp2_with fail;refine(HC.o _ y.o.1).mono ?_;rintro e2 w2 ⟨rfl,a2⟩;have s:=Z2 (af y.o.1 a2) (y.o.2.later a2);clear a2 c0 c1 c2 c3;have c0:=s.o.2.cell 0;have c1:=s.o.2.cell 1;have c2:=s.o.2.cell 2;have c3:=s.o.2.cell 3;go_wp2_with fail;refine(HN.o _ s.o.1).mono ?_;rintro e3 w3 ⟨ep,rfl,bs,a3⟩;have X:=Z3 (af s.o.1 a3) (s.o.2.later a3) bs;have dd:w.heap.size+1<=w2.heap.size:=s.o.2.lt;clear a3 c0 c1 c2 c3 bs;go_wp2_with fail;refine(HR.o w3 ep w2.heap.size zO X.o.1 X.o.2.2).mono ?_;rintro e4 F ⟨⟨qq,rfl⟩,de,a4⟩;obtain⟨T,wp,ey,ez,A9,k9,vw,hE⟩:=de;obtain⟨u,sp,lb,au⟩:=hE.g;obtain⟨sv,tp,dh,S,a5,L⟩:=au.G3;have bt:e.g.mp=fK c e.g.ev:=HF.o.1.mp.symm;rw[bt]at L;have di:S.B9.length<=60000:=by
  have h1:=(lQ c e.g.ev e.g.ev.length (OA _)).2;rw[PO]at h1;have R:=HF.o.2;rw[L.G8];omega
 have dj:=Cg.small HI.o;have dk:=L.n;have bu:=Z1 (λU (d:M F U)=>Tx U c w2.heap.size ep e (hE.up d));have bv:=Z1 (λU (d:M F U)=>AJ U c T wp e.g (GAt.up ⟨u,sp,lb,au⟩ d) (by have:=HF.o.2;omega) λx hx=>(HF.o.1.O3 x hx).ok);have dl:=Z1 (λU (d:M F U)=>oR U c T wp e.g u sp lb (au.up d));have dm:=Z1 (λU (d:M F U)=>CQ U c T sp sv tp dh S (a5.up d) zO zO zO);have dn:=Z1 (λq ls (h:(fK c e.g.ev).B9[q]?=some (some ls))=>TH a5 L h);have dp:=Z1 (λq (h:(fK c e.g.ev).B9[q]?=some none)=>TD L h);have bw:M w F:=X.o.1.trans (a4.mono zO);have bx:Blk F w.heap.size 23 #[I c.st,I c.sa,I c.lo,I c.hi]:=(a4.block w.heap.size zO).trans X.o.2.1;have a6:=Z2 bw bx;have a7:=HF.o.1;have dq:=HF.o.2;generalize e.g.ev=f at*;have G:=Z2 a7 (TK f a7.U0);clear a4 hE au a5 L bt di dj dk bw bx a7 HF X s y HB HA HC HN HR dd;go_upto_region 9 with fail
 go_wp2_with fail;refine(bu.o _ (Oy _ _)).mono ?_;rintro e5 w5 ⟨rfl,rfl⟩;go_wp2_with fail;refine(bv.o _ (Oy _ _)).mono ?_;rintro e6 w6 ⟨v6,rfl,ab⟩;obtain⟨A3,k3,rfl,a8,_,a9⟩:=ab.form;obtain⟨N,hN⟩:∃N,N=f.length:=⟨_,rfl⟩;rw[<-hN]at a9 a8;rw[<-hN];have D:=Z6 (af a6.o.1 ab.below) (a6.o.2.later ab.below) ab.below a9 hN a8;have e0:N<=60000:=zO;clear ab a9 a8 hN dq a6 bv;go_wp2_with fail;go_loopw [16,46] (λep i wr=>∃(j:Nat),j<=N/\i=I j/\ep=I (cutsM c (f.take j):Int)/\Hid (M w6 wr)) (λ_ i _=>N-(intOf i).toNat)
 case atStart=>exact⟨0,OK _,rfl,rfl,Z1 (Oy _ _)⟩
 case round=>
  obtain⟨j,hj,rfl,rfl,HM⟩:=hrel;by_cases fa:j<N
  ·have P:j<f.length:=by have:=D.o.2.2.2.2.1;omega
   have bz:j<(f.map aK).length:=by simpa using P
   have ak:=D.o.2.2.2.1.up HM.o;rw[<-iL]at ak;obtain⟨b6,o6,rfl,fb,Q⟩:=mw (jU λx hx=>(G.o.1.O3 x hx).ok) ak bz;have b0:(f.map aK)[j]=aK f[j]:=zS;rw[b0]at Q;have b1:=G.o.1.O3 _ (OR P);have hx:=oG b1.ok;have b:=TF G.o.1.U0 P;have v:=G.o.2.snap j P;have fc:cutsM c (f.take j)<=60000:=OJ (lQ c f j zO).2 zO;have eh:(j:Int)<(N:Int):=zO;generalize f[j]=x at*;have ck:=eu (w:=wr) (t:=79) hx.c0;have c3:=eu (w:=wr) (t:=79) (show(aK x).cs[3]?=some (I x.call.k)from rfl);have b2:=eu (w:=wr) (t:=79) (show(aK x).cs[14]?=some (I x.rep.err)from rfl);have b3:=eu (w:=wr) (t:=79) (show(aK x).cs[15]?=some (I x.rep.I9)from rfl);have ac:=eu (w:=wr) (t:=79) (show(aK x).cs[16]?=some (I x.rep.handle)from rfl);have al:(aK x).cs=x.arr:=rfl;have b4:(aK x).kind=x.kind:=rfl;rw[al]at ck c3 b2 b3 ac;rw[b4]at ck;have a:=Z3 hx.size hx.all (dw Q);rw[al]at a;have b5:=Blk.A8 wr 79 x.arr rfl;have b7:=ae HM.o (.cells x.arr 79);have HX:=Z2 b5 b7;have b8:Tk x=(x.kind==2&&(x.call.k==3&&x.rep.err==0)):=rfl;rw[b8]at b v;generalize cutsM c (f.take j)=q at*;generalize x.arr=u at*;generalize x.kind=xk at*;generalize x.call.k=yk at*;generalize x.rep.err=ye at*;generalize x.rep.I9=yp at*;generalize x.rep.handle=yh at*;clear Q hx b0 al b4 b5 b7 ak bz b1 b8;by_cases h1:xk=2
   ·subst h1;by_cases R:yk=3
    ·subst R;by_cases h3:ye=0
     ·subst h3;obtain⟨rfl,rfl,hcut⟩:=v zS;have av:cutsM c (f.take (j+1))=q+1:=b;have bd:=Z2 av hcut;have fd:IntKind.i64.wrap ((q:Int)+1)=(q:Int)+1:=by rw[OX];omega
      have be:aq ((q:Int)+1):=by unfold aq;omega
      clear v b hcut av;go_upto_region 14 with(first|(refine aG ba rfl (.tmp 49) rfl (Y b6 (o6+j*34)) zF u a.o.1 a.o.2.2 ?_)|(refine aS ba rfl rfl ?_)|(refine aT ba rfl (.tmp 18) (.tmp 50) rfl _ rfl zF u _ zF _ a.o.1 ba.D6 a.o.2.1 ?_))
      have dy:wr.heap.size<(wr.alloc (.cells u 79)).heap.size:=HX.o.1.lt;have HE:=Z1 HX.o.2;generalize wr.alloc (.cells u 79)=l at*;generalize wr.heap.size=vx at*;have b9:=Z1 (λU (d:M l U)=>(OF d (p:=Y vx 16) dy).trans ac);have dz:Th f ((q:Int)+1)=Th f ((q:Int)+1):=rfl;have c6:∃(pv:Value) (fe:Int),gS (cutsN S.B9) ((q:Int)+1)=.tuple #[pv,I fe]/\(Th f ((q:Int)+1)=true->fe=8)/\(Th f ((q:Int)+1)=false->fe=0/\∃cb zs,pv=Z cb 0/\eK F c T cb ((q:Int)+1) zs/\Fk c zs (fK c (f.take j)).ls):=by
       have hcut:=bd.o.2
       cases hfr:Th f ((q:Int)+1)with
       |true=>
        rw[hfr,OB rfl]at hcut;exact⟨_,_,dp.o q hcut,λ_=>rfl,λh=>absurd h zP⟩
       |false=>
        rw[hfr,Oz zP]at hcut;obtain⟨cb,zs,h1,R,h3⟩:=dn.o q _ hcut;exact⟨_,_,h1,λh=>absurd h zP,λ_=>⟨rfl,cb,zs,rfl,R,h3⟩⟩
      obtain⟨pv,fe,ca,cc,cd⟩:=c6;have HU:=Z1 (λU (d:M l U)=>af (af D.o.2.2.1 HE.o) d);have ce:=Z1 (λU (d:M l U)=>dm.o U (HU.o U d) ((q:Int)+1) be);rw[ca]at ce;have d4:=Z1 (λU (d:M l U)=>TB f (λz hz=>(G.o.1.O3 z hz).ok) ((q:Int)+1) (some (Y b6 o6)) k3 N U (D.o.2.2.2.1.up (af HE.o d)) zO);have cf:=Z2 cc cd;generalize Th f ((q:Int)+1)=fv at*;clear ca cc cd dz be;go_upto_region 18 with fail
      clear ck c3 b2 b3 ac;have r:M l l.drew:=(Oy _ _).drew;refine zH (S:=λW=>M l W) r ?_;refine zq 5 ?_ (λW hW=>?_) ?_;rotate_left
      ·have qq:W.cell? (Y vx 16)=some (I ((q:Int)+1)):=b9.o W hW;exact zf
      refine zo 1 λK hK=>?_;go_simp
      (refine(bu.o _ (HU.o _ r)).mono ?_)
      rintro e7 w7 ⟨rfl,rfl⟩;refine zJ hK r ?_;refine zo 2 λK hK=>?_;go_simp
      (refine(dl.o _ (HU.o _ r)).mono ?_)
      rintro e7 w7 ⟨rfl,rfl⟩;refine zJ hK r ?_;refine zo 6 λK hK=>?_;go_simp
      (refine(ce.o _ r).mono ?_)
      rintro e7 w7 ⟨rfl,rfl⟩;refine zJ hK r ?_;generalize l.drew=w7 at*;go_upto_region 19 with fail
      have ac:w7.cell? (Y vx 16)=some (I ((q:Int)+1)):=b9.o w7 r;go_wp2_with fail;refine(d4.o _ r).mono ?_;rintro e8 w8 ⟨rfl,cg⟩;have ag:=Z1 (af r cg);clear cg ac r
      cases fv with
      |true=>
       obtain rfl:=cf.o.1 rfl;go_wp2;go_roundw
       case rel=>exact⟨j+1,zO,by go_num,by rw[bd.o.1];simp,Z1 (af HE.o ag.o)⟩
       case measure=>simp[intOf];omega
      |false=>
       obtain⟨rfl,cb,zs,rfl,ch,ci⟩:=cf.o.2 rfl;have cl:=Z1 (λU (d:M l U)=>ch.up (HU.o U d));have d6:=Z1 (λU (d:M l U)=>CJ U c T cb ((q:Int)+1) zs (cl.o U d));have cm:=Z1 (λU (d:M l U)=>SO c HI.o f G.o.1.O3 G.o.1.U0 (some (Y b6 o6)) k3 N j U (D.o.2.2.2.1.up (af HE.o d)) zO zO);have d7:=Z1 ci;have H:=D.o.2.1.later (af HE.o ag.o);have d0:=H.cell 0;have d1:=H.cell 1;have d2:=H.cell 2;have d3:=H.cell 3;unfold Cg.val at cm;clear ch ci H;go_wp2_with fail;refine(d6.o _ ag.o).mono ?_;rintro e9 w9 ⟨rfl,rfl⟩;go_wp2_with fail;refine(cm.o _ ag.o).mono ?_;rintro ff cn ⟨mb,d8,rfl,bg⟩;obtain⟨fs,kv,cv,bh⟩:=bg.at_;have bi:=Z1 (af ag.o bg.below);have ap:=d7.o;rw[bh.ls]at ap;have d9:=Z1 (TA cn c HI.o T cb ((q:Int)+1) zs (cl.o cn bi.o) mb d8 fs kv cv _ bh ap TO wd br.o.1 br.o.2);clear bg bh ap d0 d1 d2 d3;go_wp2_with fail;refine d9.o.mono ?_;rintro fg fh ⟨rfl,bj⟩;have c8:=Z1 (af HE.o (af bi.o bj));clear bj;go_wp2;go_roundw
       case rel=>exact⟨j+1,zO,by go_num,by rw[bd.o.1];simp,c8⟩
       case measure=>simp[intOf];omega
     ·have q3:(ye==0)=false:=by simpa using h3
      rw[q3]at b;have HS:=Z1 b;clear h3 v b
      go_wp2_with (first|(refine aG ba rfl (.tmp 49) rfl (Y b6 (o6+j*34)) zF u a.o.1 a.o.2.2 ?_)|(refine aS ba rfl rfl ?_)|(refine aT ba rfl (.tmp 18) (.tmp 50) rfl _ rfl zF u _ zF _ a.o.1 ba.D6 a.o.2.1 ?_))
      go_roundw
      case rel=>exact⟨j+1,zO,by go_num,by rw[HS.o];rfl,Z1 HX.o.2⟩
      case measure=>simp[intOf];omega
    ·have q2:(yk==3)=false:=by simpa using R
     rw[q2]at b;have HS:=Z1 b;clear R v b
     go_wp2_with (first|(refine aG ba rfl (.tmp 49) rfl (Y b6 (o6+j*34)) zF u a.o.1 a.o.2.2 ?_)|(refine aS ba rfl rfl ?_)|(refine aT ba rfl (.tmp 18) (.tmp 50) rfl _ rfl zF u _ zF _ a.o.1 ba.D6 a.o.2.1 ?_))
     go_roundw
     case rel=>exact⟨j+1,zO,by go_num,by rw[HS.o];rfl,Z1 HX.o.2⟩
     case measure=>simp[intOf];omega
   ·have q1:(xk==2)=false:=by simpa using h1
    rw[q1]at b;have HS:=Z1 b;clear v b
    go_wp2_with (first|(refine aG ba rfl (.tmp 49) rfl (Y b6 (o6+j*34)) zF u a.o.1 a.o.2.2 ?_)|(refine aS ba rfl rfl ?_)|(refine aT ba rfl (.tmp 18) (.tmp 50) rfl _ rfl zF u _ zF _ a.o.1 ba.D6 a.o.2.1 ?_))
    go_roundw
    case rel=>exact⟨j+1,zO,by go_num,by rw[HS.o];rfl,Z1 HX.o.2⟩
    case measure=>simp[intOf];omega
  ·obtain rfl:N=j:=zO;have ea:=Z1 (D.o.1.trans (HM.o.mono D.o.1.size));go_wp2;go_ret;exact⟨rfl,ea.o⟩
def vR{st:Int}{ps:List (List Cl)}{wk:Int}(h:(decide (st<=8)&&ef ps wk np)=true):st<=8/\(∀p∈ps,p.length<=8)/\ps.length<=5/\wk<=4/\np<=200:=by
 unfold ef at h;simp only[OY,decide_eq_true_eq,QT]at h;obtain⟨a,b,c,d,e⟩:=h;exact⟨a,b,c,d,e⟩
def KU{l:List Int}(h:rZ l):∀p∈l,aq p:=λp a=>by
 obtain⟨i,b,rfl⟩:=PJ a;exact h i b
def DS{st sa lo hi:Int}{ps:List (List Cl)}{wk:Int}(hL:(decide (st<=8)&&ef ps wk np)=true)(h:cj st sa lo hi ps wk=0)(hx:∀p∈ps,∀x∈p,x.ok):
  ∃(c:Cg) (m:Nat),st=c.st/\sa=c.sa/\lo=c.lo/\hi=c.hi/\wk=m/\ge c ps/\ps.length+m<=32/\0<ps.length+m:=by
 obtain⟨o,d,l,r,s⟩:=vR hL;unfold cj at h;by_cases a:cA st sa lo hi=false\/wk<0\/32<wk\/(ps.length:Int)+wk<1\/32<(ps.length:Int)+wk
 ·rw[OB a]at h
  cases h
 ·have e:cA st sa lo hi=true:=by
   cases hc:cA st sa lo hi with
   |true=>rfl
   |false=>exact absurd (.inl hc) a
  have t:¬wk<0:=λq=>a (.inr (.inl q));have u:¬(ps.length:Int)+wk<1:=λq=>a (.inr (.inr (.inr (.inl q))));have v:¬32<(ps.length:Int)+wk:=λq=>a (.inr (.inr (.inr (.inr q))));have b:=e;unfold cA at b;simp only[OY,decide_eq_true_eq]at b;obtain⟨n,w,y,z⟩:=b;have A:=ob n;have f:st=((st.toNat:Nat):Int):=zO;have g:sa=((sa.toNat:Nat):Int):=zO;have i:lo=((lo.toNat:Nat):Int):=zO;have j:hi=((hi.toNat:Nat):Int):=zO;refine⟨⟨st.toNat,sa.toNat,lo.toNat,hi.toNat⟩,wk.toNat,f,g,i,j,zO,⟨?_,λp k=>⟨OJ (d p k) zP,hx p k⟩,?_⟩,zO,zO⟩
  ·show cA ((st.toNat:Nat):Int) ((sa.toNat:Nat):Int) ((lo.toNat:Nat):Int) ((hi.toNat:Nat):Int)=true;rw[<-f,<-g,<-i,<-j];exact e
  ·have B:=mH ps 8 d;have:ps.length*8<=5*8:=Pr _ l;omega
def Ts(k n:Nat)(ps:List (List Cl))(wk:Int)(l:List Int)(Ap:Option Addr)(kp:Nat)(TO wd:Int)(w:World)(hc:aq st/\aq sa/\aq lo/\aq hi)(hP:dv w A n ps)(hx:∀p∈ps,∀x∈p,x.ok)(hwk:aq wk)(hr:an w w.heap.size 1 Ap l.length (i64s l))(hs:rZ l)(hl:l.length<=maxLen/\l.length<=kp)(hto:aq TO)(hwd:aq wd)(hn:n<=10000000000000):
  C 5 #[.agg #[I st,I sa,I lo,I hi],.slice A n k,I wk,.slice Ap l.length kp,I TO,I wd] w (J (.bool true) w):=by
 cases hL:(decide (st<=8)&&ef ps wk l.length)with
 |false=>exact Tu st sa lo hi ps wk A Ap n k l.length kp w TO wd hP hn hl.1 hc.1 hwk hL
 |true=>
  obtain⟨h,i,j,o,q⟩:=vR hL;have g:=hP.len;by_cases a:cj st sa lo hi ps wk=0
  ·obtain⟨c,m,rfl,rfl,rfl,rfl,rfl,b,d,f⟩:=DS hL a hx;exact Tv c ps b A Ap n k l.length kp m w TO wd hto hwd hP d f a l (KU hs) hr zO hL
  ·exact Tn st sa lo hi ps wk A Ap n k l.length kp w TO wd hP zO hl.1 hc.1 hwk hL a
end Go.Fw
