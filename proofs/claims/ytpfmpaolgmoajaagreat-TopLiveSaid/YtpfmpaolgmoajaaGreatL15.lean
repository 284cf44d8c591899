/- Lemmas of this claim. Conditions: as each says. -/
import Derived.Test.YtpfmpaolgmoajaaGreatL14
set_option linter.unusedVariables false
set_option linter.unusedSimpArgs false
set_option maxHeartbeats 4000000
set_option maxRecDepth 20000
set_option linter.defProp false
open Go.Proofs.Tryz
namespace Go.Fw
open Go.RowKit open Go.Proofs hiding intOf
variable {T:Nat->Tg}{wp used p k' i np:Nat}{pcs pws:List Nat}{vw:Value}{x x':Ci}{A':Option Addr}{y:Wi}{r:List Op2}{q:Qm}{WA W':World}{cs:Array Value}{S:Nat->Prop}(st sa lo:Int)(w:World)(c:Cg)(ps:List (List Cl))(hi wk:Int)(m:Nat)(l:List Vt)(A:Option Addr)(z:Nat)(f:Cl->Nat)(wr:World)(raw:List Int)(n kp:Nat)(kd:Int)(k:K2)(j:Nat)(T0:List Int)(F:Nat)(Ap:Option Addr)
def openN(e:En):Nat:=cntN (λj=>(e.cs[j]?.map Ci.over).getD true) e.cs.length
def an.S3{w:World}{B n k:Nat}{A:Option Addr}{xs:List Value}(h:an w B 1 A n xs)(hk:k<=n):an w B 1 A k (xs.take k):=by
 refine⟨by rw[PG,h.1];omega,λf=>?_⟩;obtain⟨b,e,c,d⟩:=h.2 zO;refine⟨b,e,c,λj u a=>d j u ?_⟩;rw[QX]at a;split at a
 ·exact a
 ·cases a
section
variable (w:World) (c:Cg) (B ep:Nat) (e:En) (ps:List (List Cl))
def GJ(hp:ge c ps)(hi:dI c ps e){A:Option Addr}{k:Nat}(h:ew w c T B wp ep e pcs pws A k vw used):
  C 52 #[Z ep 0] w λr w'=>r=.returned (I (openN e:Int))/\M w w':=by
 have D:=hi.L.lk.n32;have g:e.cs.length<=e.count:=by unfold En.count;omega
 have x:Hid (∀U,M w U->C 101 #[.slice A e.cs.length k] U λr w'=>r=.returned (I (openN e:Int))/\M U w'):=Z1 λU i=>by
  have y:an U U.heap.size 1 A e.cs.length (pcs.map ifC):=by
   have l:=an.S3 (an.C4 (h.up i).row) g;rw[QN (by simp[h.lc]),OT (by simp[h.lc])]at l;exact l
  refine GE _ pcs A k e.cs.length U y zO λj p V z=>?_;have q:j<e.cs.length:=by rw[<-h.lc];exact p
  have b:=OL q;rw[b];exact oT V c T wp _ _ (((h.up i).up z).cs j _ _ b (OL p)) (hi.S4 hp b)
 have s:=Z1 h.B0;obtain⟨_,_,d,H,F⟩:=ak h.row
 cases d
 generalize t:e.count=n at*;generalize u:e.cs.length=m at*;have f:=(zi w);have G:m<=k:=zO;clear h hi hp t u
 go_in
 go_upto_region 3 with fail
 refine zH (S:=λU=>M w U) f ?_;refine zQ 3 _ ?_ (hy:=λW hW=>by have N:W.cell? (Y ep 1)=some (.slice A n k):=(s.o.later hW).cell 1;exact zf);refine zQ 7 _ ?_ (hy:=λW hW=>by have O:W.cell? (Y ep 3)=some (I (m:Int)):=(s.o.later hW).cell 3;exact zf);refine zo 9 λK hK=>?_;go_simp;refine zm (x.o _ f) λP v=>?_;have a:=af f v;refine zJ hK a ?_;go_wp2;go_ret;exact⟨rfl,a⟩
def GK(hp:ge c ps)(hi:dI c ps e)(hu:e.used<=30000)(hn0:0<e.count){A:Option Addr}{k:Nat}(h:ew w c T B wp ep e pcs pws A k vw used):
  C 55 #[Z ep 0] w λr w'=>r=.returned (.bool (decide (gQ c e 0<0)))/\M w w':=by
 have f:=hi.L.lk.n32;have a:=Z1 (vJ (e.ready c) _ 0 A k e.count w (an.C4 h.row) hn0 zO aD (ew.can hp hi hu h));rw[vK]at a;have g:w.cell? (Y ep 1)=some (.slice A e.count k):=h.B0.cell 1;generalize e.count=n at*;generalize gQ c e 0=q at*;clear h hi hp
 go_in
 go_wp2_with fail;refine zm a.o λi b=>?_;have d:=Z1 b;clear b;go_wp2;go_ret;exact⟨rfl,d.o⟩
def j8:cU prog 38 5:=⟨zR,zR,zR⟩
def pT(ve vq:Value)(e:En)(r:Bool):Array Value:=#[ve,I (e.used:Int),I (openN e:Int),vq,.bool r]
def yz(hp:ge c ps)(hi:dI c ps e)(hu:e.used<=30000)(hn0:0<e.count)(h:kY w c B ep e):
  C 12 #[Z ep 0] w λr w'=>∃ve vq,r=.returned (.agg (pT ve vq e (decide (gQ c e 0<0))))/\w'.ownsRow w.heap.size 79 34 ve e.g.ev.length (vts e.g.ev)/\w'.ownsRow w.heap.size 58 2 vq e.g.q.line.length (cG e.g.q.line)/\M w w':=by
 obtain⟨T,L,a2,a3,A,k,vw,h⟩:=h;have a4:=hi.evs hu;have j:=hi.E5 hp hu;have R:=zh w (.cells #[.slice none 0 0,I 0,I 0,.slice none 0 0,.bool false] 38);have X:=Blk.A8 w 38 #[.slice none 0 0,I 0,I 0,.slice none 0 0,.bool false] rfl;have HE:=Z1 (λU (l:M w U)=>AJ U c T L e.g (h.up l).g zO λx hx=>(hi.E.L9.O3 x hx).ok);have HO:=Z1 (λU (l:M w U)=>GJ U c B ep e ps hp hi (h.up l));have HQ:=Z1 (λU (l:M w U)=>gP U c T L e.g (h.up l).g);have HW:Hid (∀U,M w U->C 54 #[Z L 10] U λr w'=>∃v,r=.returned v/\aL 2 U w' 58 v e.g.q.line.length (cG e.g.q.line)):=Z1 λU l=>by
  obtain⟨cs,sp,lb,ab⟩:=(h.up l).g;exact vZ L 10 _ cs _ e.g.q U ab.wq ⟨j.q.1,j.q.2.1,j.q.2.2⟩
 have HR:=Z1 (λU (l:M w U)=>GK U c B ep e ps hp hi hu hn0 (h.up l));have HB:=Z1 h.B0;generalize decide (gQ c e 0<0)=rs at*;have ad:Hid (∀ve vq,pT ve vq e rs=#[ve,I (e.used:Int),I (openN e:Int),vq,.bool rs]):=Z1 λ_ _=>rfl;generalize openN e=on at*;generalize ae:vts e.g.ev=vv at*;generalize ag:e.g.ev.length=nl at*;generalize ah:cG e.g.q.line=kk at*;generalize ai:e.g.q.line.length=kl at*;clear h hi hp j ae ag ah ai
 go_in
 go_upto_region 3 with fail
 have aj:=Z1 X;generalize w.alloc (.cells #[.slice none 0 0,I 0,I 0,.slice none 0 0,.bool false] 38)=V at*;have N:M w V.drew/\M V V.drew:=⟨R.drew,(zi V)⟩;clear X;refine bW (S:=λU=>M w U/\M V U) 20 zR zR N ?_;simp only[OM,OO,ON,OQ];try simp only[zD,zE,Nat.reduceAdd,zG]
 refine zL ?_;refine zQ 3 _ ?_ (hy:=λW hW=>by have q0:W.cell? (Y ep 0)=some (Z L 0):=(HB.o.later hW.1).cell 0;exact zf);refine zQ 8 _ ?_ (hy:=λW hW=>by have q4:W.cell? (Y ep 4)=some (I (e.used:Int)):=(HB.o.later hW.1).cell 4;exact zf);refine zQ 14 _ ?_ (hy:=λW hW=>by have q0:W.cell? (Y ep 0)=some (Z L 0):=(HB.o.later hW.1).cell 0;exact zf);refine zo 4 λK hK=>?_;go_simp;refine zX (HE.o _ N.1) λve w2 m=>?_;obtain⟨A2,k2,rfl,_,_,_⟩:=m.form;have n:=And.intro (af N.1 m.below) (af N.2 m.below);have u:=aP m.own N.1.size;refine zJ hK n ?_;refine zo 10 λK hK=>?_;go_simp;refine zm (HO.o _ n.1) λw3 y=>?_;have d:=And.intro (af n.1 y) (af n.2 y);have z:=aN u y;refine zJ hK d ?_;refine zo 15 λK hK=>?_;go_simp;refine zY (HQ.o _ d.1) ?_;refine zJ hK d ?_;refine zo 16 λK hK=>?_;go_simp;refine zX (HW.o _ d.1) λvq w5 i=>?_;obtain⟨A5,k5,rfl,_,_,_⟩:=i.form;have p:=And.intro (af d.1 i.below) (af d.2 i.below);have D:=aN z i.below;have F:=aP i.own d.1.size;refine zJ hK p ?_;refine zo 18 λK hK=>?_;go_simp;refine zm (HR.o _ p.1) λw6 s=>?_;have G:=And.intro (af p.1 s) (af p.2 s);have H:=aN D s;have t:=aN F s;refine zJ hK G ?_;rw[bI];have O:=Z3 G H t;have P:=aj.o.later G.2;clear N n d p G u z D H F t m i y s R;refine zj j8 P ?_;intro w9 ak Q;go_wp2;refine OH (au j8 rfl ak rfl _ rfl) rfl ⟨.slice A2 nl k2,.slice A5 kl k5,congrArg (λa=>Ending.returned (Value.agg a)) (ad.o _ _).symm,?_,?_,Q.below O.o.1.1 (OA _)⟩
 ·exact Q.B7.C8 O.o.2.1 λb e f=>aB O.o.2.1 P zP (f▸e)
 ·exact Q.B7.C8 O.o.2.2 λb e f=>aB O.o.2.2 P zP (f▸e)
end
def KM(p:Nat):Value:=Z p 0
def mG{w:World}{B B':Nat}{e e':TypeId}{s s' n n':Nat}{v v':Value}{xs xs':List Value}(h:w.ownsRow B e s v n xs)(h':w.ownsRow B' e' s' v' n' xs')(hne:e≠e')(b:Nat)(h1:v.ownBlock=some b):v'.ownBlock≠some b:=by
 rcases h'.2 with⟨rfl,_⟩|⟨g,d,f,rfl,_,c,_⟩
 ·simp[Value.ownBlock]
 ·intro a;simp[Value.ownBlock]at a;subst a;exact aB h c hne h1
structure ey(w:World)(c:Cg)(T:Nat->Tg)(N wp ep:Nat)(g:Gs)(m:Nat)(xs:List Ci)(ys:List Wi)(pcs pws qs:List Nat)(A:Option Addr)(k:Nat)(A2:Option Addr)(k2:Nat):Prop where
 B0:Blk w ep 116 (jp wp (.slice A (xs.length+ys.length) k) (.slice A2 qs.length k2) m 0)
 ne:N<=ep
 fr:∀b,N<=b->T b=.free
 size:N<=w.heap.size
 g:GAt w c T wp g
 row:w.ownsRow N 123 1 (.slice A (xs.length+ys.length) k) (xs.length+ys.length) (pcs.map ifC++pws.map ifW)
 I7:w.ownsRow N 119 1 (.slice A2 qs.length k2) qs.length (qs.map KM)
 lc:pcs.length=xs.length
 lw:pws.length=ys.length
 D7:(pcs++pws).Nodup
 cs:∀(i:Nat) (x:Ci) p,xs[i]?=some x->pcs[i]?=some p->cY w c T wp p x
 ws:∀(j:Nat) (x:Wi) p,ys[j]?=some x->pws[j]?=some p->aO w c T wp p x
section
variable {w w' w1:World} {c:Cg} {T:Nat→Tg} {N wp ep m:Nat} {g:Gs} {xs:List Ci} {ys:List Wi} {pcs pws qs:List Nat} {A A2:Option Addr} {k k2:Nat}
def yA(hf:∀b,N<=b->T b=.free){n:Nat}(h:N<=n):ext T n .free=T:=by
 funext b;by_cases a:b<n
 ·exact br T _ a
 ·rw[cC T _ zO,hf b zO]
def GAt.low(h:GAt w c T wp g)(hf:∀b,N<=b->T b=.free)(hK:ag (λb=>N<=b) w w'):GAt w' c T wp g:=by
 obtain⟨d,i,j,h⟩:=h;have a:=hK.B0 h.B0 (λe=>by have:=h.tw;rw[hf _ e]at this;cases this);exact⟨d,i,j,h.P5 a (bF.refl _ _ _) h.tw (h.G3.D1 hK (λb e f=>by rw[hf _ f]at e;rcases e with e|e;exact e;cases e) λ_ _=>rfl) (h.E4.D1 hK (λb n e f=>by rw[hf _ f]at e;cases e) λ_ _ _=>rfl) h.nl (h.ln.D1 a (λ_ _ _=>rfl) hK (λb e f=>by rw[hf _ f]at e;rcases e with e|e<;>cases e) λ_ _ _=>rfl) (h.wq.D1 a (λ_ _ _=>rfl) hK (λb e f=>by rw[hf _ f]at e;cases e) λ_ _ _=>rfl) (h.ev.D1 rfl hK (λb e f=>by rw[hf _ f]at e;cases e) λ_ _ _=>rfl)⟩
def ey.up(h:ey w c T N wp ep g m xs ys pcs pws qs A k A2 k2)(hb:M w w'):ey w' c T N wp ep g m xs ys pcs pws qs A k A2 k2:=
 ⟨h.B0.later hb,h.ne,h.fr,OJ h.size hb.size,h.g.up hb,aN h.row hb,aN h.I7 hb,h.lc,h.lw,h.D7,λi x p a b=>(h.cs i x p a b).up hb,λj x p a b=>(h.ws j x p a b).up hb⟩
def ey.B7(h:ey w c T N wp ep g m xs ys pcs pws qs A k A2 k2){L:Nat->Prop}(hK:ag L w w')(hL:∀b,L b->b=ep\/(Value.slice A (xs.length+ys.length) k).ownBlock=some b\/(Value.slice A2 qs.length k2).ownBlock=some b):
  GAt w' c T wp g/\(∀(p:Nat) (x:Ci),cY w c T wp p x->cY w' c T wp p x)/\(∀(p:Nat) (x:Wi),aO w c T wp p x->aO w' c T wp p x)/\Below N w w'/\N<=w'.heap.size:=by
 have f:∀b,L b->N<=b:=λb e=>by
  rcases hL b e with rfl|e|e
  ·exact h.ne
  ·exact(h.row.lt b e).1
  ·exact(h.I7.lt b e).1
 have u:∀(t:TypeId) (q:Nat) (y:Array Value),Blk w q t y->t≠116->t≠123->t≠119->¬L q:=λt q y d i j l e=>by
  rcases hL q e with rfl|e|e
  ·exact fq d h.B0 i rfl
  ·exact aB h.row d j.symm e
  ·exact aB h.I7 d l.symm e
 have z:∀(t:TypeId) (B s n:Nat) (v:Value) (D:List Value) (b:Nat),w.ownsRow B t s v n D->v.ownBlock=some b->t≠116->t≠123->t≠119->¬L b:=λt B s n v D b d o i j l e=>by
  rcases hL b e with rfl|e|e
  ·exact aB d h.B0 i o
  ·exact mG d h.row j b o e
  ·exact mG d h.I7 l b o e
 refine⟨h.g.low h.fr (hK.C3 f),λp x a=>?_,λp x a=>?_,(hK.C3 f).L1 h.size,OJ h.size hK.size⟩
 ·obtain⟨G,H,a⟩:=a;refine⟨G,H,a.K5 hK (u _ _ _ a.B0 zP zP zP) (λb e=>z _ _ _ _ _ _ b a.prog e zP zP zP) (λb e=>?_) λ_ _ e=>e⟩
  rcases a.ops with r|r
  ·rw[r.1]at e;cases e
  ·exact z _ _ _ _ _ _ b r e zP zP zP
 ·obtain⟨O,a⟩:=a;refine⟨O,a.K5 hK (u _ _ _ a.B0 zP zP zP) (λb F P=>?_) λ_ _ _=>rfl⟩;rw[h.fr b (f b P)]at F
  cases F
def yB{α β:Type}{xs:List α}{ps:List β}{x y:α}{p q:β}{i:Nat}(hl:ps.length=xs.length)(h1:(xs++[x])[i]?=some y)(h2:(ps++[p])[i]?=some q):(xs[i]?=some y/\ps[i]?=some q)\/(y=x/\q=p):=by
 rcases Nat.lt_trichotomy i xs.length with a|a|a
 ·rw[Pk a]at h1;rw[Pk (by rw[hl];exact a)]at h2;exact .inl ⟨h1,h2⟩
 ·subst a;rw[Ph (OA _),QY]at h1;rw[<-hl,Ph (OA _),QY]at h2;injection h1 with h1;injection h2 with h2;exact .inr ⟨h1.symm,h2.symm⟩
 ·rw[Ps zT]at h1
  cases h1
def ti{l:List Nat}(h:l.Nodup)(hp:p∉l):(l++[p]).Nodup:=
 Qa.2 ⟨h,zS,λa d b c e=>by simp at c;subst c;subst e;exact hp d⟩
def ey.U6(h:ey w c T N wp ep g m xs [] pcs [] qs A k A2 k2)(hc:cY w c T wp p x)(hp:p∉pcs)(hg:w.grownBy w1 (Value.slice A xs.length k).ownBlock)(hr:w1.ownsRow N 123 1 (.slice A' (xs.length+1) k') (xs.length+1) (pcs.map ifC++[ifC p])):
  ey (w1.setCell (Y ep 1) (.slice A' (xs.length+1) k')) c T N wp ep g m (xs++[x]) [] (pcs++[p]) [] qs A' k' A2 k2/\Below N w (w1.setCell (Y ep 1) (.slice A' (xs.length+1) k')):=by
 have hK:ag (λb=>b=ep\/(Value.slice A xs.length k).ownBlock=some b) w (w1.setCell (Y ep 1) (.slice A' (xs.length+1) k')):=(dl (ag.refl (λb=>b=ep\/(Value.slice A xs.length k).ownBlock=some b) w) hg (λ_ h=>h) λ_ e=>.inr e).setCell (p:=Y ep 1) (.inl (.inl rfl)) _;obtain⟨t,l,u,v,z⟩:=h.B7 hK λb e=>by rcases e with e|e;exact .inl e;exact .inr (.inl e)
 have r:=aB h.row h.B0 zP;have n:=h.B0.grown hg (λe=>r e.symm);have o:=aB hr n zP;have s:=h.D7;rw[PC]at s;refine⟨⟨?_,h.ne,h.fr,z,t,?_,?_,by simp[h.lc],rfl,?_,λi y q a d=>?_,λj y q a d=>u _ _ (h.ws j y q a d)⟩,v⟩
 ·have:=n.B4 1 (.slice A' (xs.length+1) k');simpa[jp]using this
 ·have:=bA (p:=Y ep 1) hr o (.slice A' (xs.length+1) k')
  simpa using this
 ·exact hK.C8 h.I7 λb e f=>by
   rcases f with rfl|f
   ·exact aB h.I7 h.B0 zP e
   ·exact mG h.I7 h.row zP b e f
 ·rw[PC];exact ti s hp
 ·rcases yB h.lc a d with⟨a,d⟩|⟨rfl,rfl⟩
  ·exact l _ _ (h.cs i y q a d)
  ·exact l _ _ hc
def ey.U7(h:ey w c T N wp ep g m xs ys pcs pws qs A k A2 k2)(hg:w.grownBy w1 (Value.slice A2 qs.length k2).ownBlock)(hr:w1.ownsRow N 119 1 (.slice A' (qs.length+1) k') (qs.length+1) (qs.map KM++[KM p])):
  ey (w1.setCell (Y ep 2) (.slice A' (qs.length+1) k')) c T N wp ep g m xs ys pcs pws (qs++[p]) A k A' k'/\(∀(p:Nat) (x:Wi),aO w c T wp p x->aO (w1.setCell (Y ep 2) (.slice A' (qs.length+1) k')) c T wp p x)/\Below N w (w1.setCell (Y ep 2) (.slice A' (qs.length+1) k')):=by
 have hK:ag (λb=>b=ep\/(Value.slice A2 qs.length k2).ownBlock=some b) w (w1.setCell (Y ep 2) (.slice A' (qs.length+1) k')):=(dl (ag.refl (λb=>b=ep\/(Value.slice A2 qs.length k2).ownBlock=some b) w) hg (λ_ h=>h) λ_ e=>.inr e).setCell (p:=Y ep 2) (.inl (.inl rfl)) _;obtain⟨t,o,r,u,v⟩:=h.B7 hK λb e=>by rcases e with e|e;exact .inl e;exact .inr (.inr e)
 have s:=aB h.I7 h.B0 zP;have a:=h.B0.grown hg (λe=>s e.symm);have d:=aB hr a zP;refine⟨⟨?_,h.ne,h.fr,v,t,?_,?_,h.lc,h.lw,h.D7,λi y q l n=>o _ _ (h.cs i y q l n),λj y q l n=>r _ _ (h.ws j y q l n)⟩,r,u⟩
 ·have:=a.B4 2 (.slice A' (qs.length+1) k');simpa[jp]using this
 ·exact hK.C8 h.row λb e f=>by
   rcases f with rfl|f
   ·exact aB h.row h.B0 zP e
   ·exact mG h.row h.I7 zP b e f
 ·have:=bA (p:=Y ep 2) hr d (.slice A' (qs.length+1) k')
  simpa using this
def ey.U8(h:ey w c T N wp ep g m xs ys pcs pws qs A k A2 k2)(hc:aO w c T wp p y)(hp:p∉pcs++pws)(hg:w.grownBy w1 (Value.slice A (xs.length+ys.length) k).ownBlock)(hr:w1.ownsRow N 123 1 (.slice A' (xs.length+ys.length+1) k') (xs.length+ys.length+1) ((pcs.map ifC++pws.map ifW)++[ifW p])):
  ey (w1.setCell (Y ep 1) (.slice A' (xs.length+ys.length+1) k')) c T N wp ep g m xs (ys++[y]) pcs (pws++[p]) qs A' k' A2 k2/\Below N w (w1.setCell (Y ep 1) (.slice A' (xs.length+ys.length+1) k')):=by
 have hK:ag (λb=>b=ep\/(Value.slice A (xs.length+ys.length) k).ownBlock=some b) w (w1.setCell (Y ep 1) (.slice A' (xs.length+ys.length+1) k')):=(dl (ag.refl (λb=>b=ep\/(Value.slice A (xs.length+ys.length) k).ownBlock=some b) w) hg (λ_ h=>h) λ_ e=>.inr e).setCell (p:=Y ep 1) (.inl (.inl rfl)) _;obtain⟨t,o,r,u,v⟩:=h.B7 hK λb e=>by rcases e with e|e;exact .inl e;exact .inr (.inl e)
 have s:=aB h.row h.B0 zP;have l:=h.B0.grown hg (λe=>s e.symm);have n:=aB hr l zP;refine⟨⟨?_,h.ne,h.fr,v,t,?_,?_,h.lc,by simp[h.lw],?_,λi y q a d=>o _ _ (h.cs i y q a d),λj y q a d=>?_⟩,u⟩
 ·have:=l.B4 1 (.slice A' (xs.length+ys.length+1) k');simpa[jp,PQ]using this
 ·have:=bA (p:=Y ep 1) hr n (.slice A' (xs.length+ys.length+1) k');simpa[PQ]using this
 ·exact hK.C8 h.I7 λb e f=>by
   rcases f with rfl|f
   ·exact aB h.I7 h.B0 zP e
   ·exact mG h.I7 h.row zP b e f
 ·rw[<-Pv];exact ti h.D7 hp
 ·rcases yB h.lw a d with⟨a,d⟩|⟨rfl,rfl⟩
  ·exact r _ _ (h.ws j y q a d)
  ·exact r _ _ hc
def ey.done{xs:List Ci}{ys:List Wi}{B:Nat}(h:ey w c T N wp ep g m xs ys pcs pws qs A k A2 k2)(hm:m=xs.length)(hB:B<=N)(hT:∀b,b<B->T b=.eng):kY w c B ep ⟨g,xs,ys,0⟩:=
 ⟨T,wp,pcs,pws,A,k,.slice A2 qs.length k2,by rw[hm]at h;exact h.B0,h.fr _ h.ne,hT,OJ hB h.size,h.g,aP h.row (OK _),λb e=>h.fr _ (h.row.lt b e).1,h.lc,h.lw,h.D7,h.cs,h.ws⟩
def ey.new(hf:∀b,N<=b->T b=.free)(hN:N<=w.heap.size)(hg:GAt w c T wp g)(hn:N<=ep)(hb:Blk w ep 116 (jp wp (.slice none 0 0) (.slice none 0 0) m 0)):ey w c T N wp ep g m [] [] [] [] [] none 0 none 0:=
 ⟨hb,hn,hf,hN,hg,Pn _ _ _ _,Pn _ _ _ _,rfl,rfl,Sh,λi x p e=>by simp at e,λi x p e=>by simp at e⟩
def ey.fresh{xs:List Ci}{ys:List Wi}(h:ey w c T N wp ep g m xs ys pcs pws qs A k A2 k2){p:Nat}(hp:w.heap.size<=p):p∉pcs++pws:=λa=>by
 rcases Po.1 a with a|a
 ·obtain⟨i,b⟩:=List.mem_iff_getElem?.1 a;have d:=cz b;obtain⟨f,e⟩:=(h.cs i _ p (OL (by rw[<-h.lc];exact d)) b).B0;have:=e.lt;omega
 ·obtain⟨i,b⟩:=List.mem_iff_getElem?.1 a;have d:=cz b;obtain⟨f,e⟩:=(h.ws i _ p (OL (by rw[<-h.lw];exact d)) b).B0;have:=e.lt;omega
end
def vL:cE prog 113 123 .nilIface 1 16:=⟨underlying113,zR,rfl⟩
def KN:cE prog 114 119 (.pointer none) 1 8:=⟨underlying114,zR,rfl⟩
def csN(ps:List (List Cl)):List Ci:=ps.mapIdx λi p=>.new p i
def wsN(m j:Nat):List Wi:=(List.range j).map λi=>.new (m+i)
def KO{ps:List (List Cl)}{j:Nat}(h:j<ps.length):(csN ps).take (j+1)=(csN ps).take j++[.new ps[j] j]:=by
 have a:j<(csN ps).length:=by simpa[csN]using h
 rw[OG a];simp[csN]
def KP:wsN m (j+1)=wsN m j++[.new (m+j)]:=by simp[wsN,Vf]
def NK(w wr:World)(c:Cg)(T:Nat->Tg)(N wp ep:Nat)(ps:List (List Cl))(j:Nat):Prop:=∃pcs A k,ey wr c T N wp ep (.new c) ps.length ((csN ps).take j) [] pcs [] [] A k none 0/\M w wr
def NL(w wr:World)(c:Cg)(T:Nat->Tg)(N wp ep:Nat)(ps:List (List Cl))(j:Nat):Prop:=∃pcs pws A k A2 k2,ey wr c T N wp ep (.new c) ps.length (csN ps) (wsN ps.length j) pcs pws pws A k A2 k2/\M w wr
def KQ(hc:c.ok)(ps:List (List Cl))(A:Option Addr)(n k m:Nat)(hP:dv w A n ps)(hn:ps.length+m<=32)(hall:∀p∈ps,p.length<=1000)(h0:cj c.st c.sa c.lo c.hi ps m=0):
  Calls prog 10 #[.agg #[.int .i64 c.st,.int .i64 c.sa,.int .i64 c.lo,.int .i64 c.hi],.slice A n k,.int .i64 m] w λr w'=>∃ep,r=.returned (.tuple #[.pointer (some ⟨ep,0,none⟩),.int .i64 0])/\kY w' c w.heap.size ep (.new c ps m)/\Below w.heap.size w w':=by
 have ba:=ae (Oy w.heap.size w) (.cells #[.int .i64 c.st,.int .i64 c.sa,.int .i64 c.lo,.int .i64 c.hi] 23);have bb:=hP.len;have HC:=Z1 (λW (hW:Below w.heap.size w W)=>oU c.st c.sa c.lo c.hi ps A n k m W (hP.up hW) (by omega) (by unfold aq;omega));rw[h0]at HC;have HG:Hid (∀W,Below w.heap.size w W->Calls prog 48 #[.agg #[.int .i64 c.st,.int .i64 c.sa,.int .i64 c.lo,.int .i64 c.hi]] W λe w'=>∃T N h,e=.returned (.tuple #[.pointer (some ⟨h,0,none⟩),.int .i64 0])/\GAt w' c T h (.new c)/\(∀b,b<w.heap.size->T b=.eng)/\(∀b,N<=b->T b=.free)/\N=w'.heap.size/\Below W.heap.size W w'):=Z1 λW hW=>(Kh W c hc λ_=>.eng).mono λe w' ⟨T',h,e1,e2,e3,e4,e5⟩=>⟨ext T' w'.heap.size .free,w'.heap.size,h,e1,e2.free,λb hb=>(br T' _ (by have:=hW.size;have:=e5.size;omega)).trans (e3 b (by have:=hW.size;omega)),λb hb=>cC T' _ hb,rfl,e5⟩;have HB:=Z1 ba;have u:=Z5 hP hn hall hc bb;have cz:(n:Int)<=32/\(m:Int)<=32:=by omega
 have cf:n<=32:=by omega
 clear ba hP h0 hn hall hc bb
 go_in
 go_wp2_with fail;refine zm (HC.o _ HB.o) λw1 G=>?_;have au:=Z1 (af HB.o G);have R:=(Blk.A8 w 23 #[.int .i64 c.st,.int .i64 c.sa,.int .i64 c.lo,.int .i64 c.hi] rfl).later G;have q0:=R.cell 0;have q1:=R.cell 1;have q2:=R.cell 2;have q3:=R.cell 3;clear G;go_wp2_with fail;refine(HG.o _ au.o).mono ?_;rintro e2 w2 ⟨T,N,h,rfl,bc,bd,av,aw,G⟩;clear q0 q1 q2 q3 R;have ax:=Z1 (af au.o G);have a:=ey.new (m:=ps.length) av (w:=w2.alloc (.cells (jp h (.slice none 0 0) (.slice none 0 0) ps.length 0) 116)) (ep:=w2.heap.size) (by rw[aw];simp) (bc.up (ae (Oy _ w2) _)) (by omega) (Blk.A8 w2 _ _ rfl);have HD:=Z5 a bd av (ae ax.o (.cells (jp h (.slice none 0 0) (.slice none 0 0) ps.length 0) 116)) (show w.heap.size<=N by rw[aw];exact ax.o.size);try rw[<-u.o.2.2.2.2]at HD
 generalize b1:w2.heap.size=ep at*;clear a bd av G bc;go_wp2_with fail;have H0:Hid (NK w (w2.alloc (.cells (jp h (.slice none 0 0) (.slice none 0 0) n 0) 116)) c T N h ep ps 0):=Z1 ⟨[],none,0,by rw[OO,<-u.o.2.2.2.2];exact HD.o.1,HD.o.2.2.2.1⟩;have HT:=Z3 HD.o.2.1 HD.o.2.2.1 HD.o.2.2.2.2;clear HB au ax HC HG HD aw b1;go_loopw [35] (λi wr=>∃j:Nat,j<=n/\i=.int .i64 j/\Hid (NK w wr c T N h ep ps j)) (λi _=>n-(intOf i).toNat)
 case atStart=>exact⟨0,OK _,rfl,H0⟩
 case round=>
  obtain⟨j,hj,rfl,X⟩:=hrel;obtain⟨aa,A1,k1,a,s⟩:=X.o;by_cases b2:j<n
  ·have ay:j<ps.length:=by have:=u.o.2.2.2.2;omega
   obtain⟨ad,A3,k3,rfl,_,cc,_,_,be⟩:=(u.o.1.up s).at_ ay;have c0:(j:Int)<(n:Int):=by omega
   have bf:=u.o.2.2.1 _ (OR ay);have az:=KO ay;have H:((csN ps).take j).length=j:=by simp[csN];omega
   have HS:=Z3 az H s;have HN:=Z1 (λW (hW:Below wr.heap.size wr W)=>GF W c u.o.2.2.2.1 T h (.new c) (a.g.up hW) j (by omega) ps[j] A3 k3 ps[j].length (be.up hW) bf);have l:=Z1 a;generalize ps[j]=pj at*;clear az a s X bf be;have hS:Blk wr.drew ep 116 (jp h (.slice A1 j k1) (.slice none 0 0) n 0):=by
    have:=l.o.B0.drew;rw[H,<-u.o.2.2.2.2]at this;exact this
   go_upto_region 9 with fail
   refine bW 12 (S:=λU=>Blk U ep 116 (jp h (.slice A1 j k1) (.slice none 0 0) n 0)) (by kernel_rfl) (by kernel_rfl) hS ?_;simp only[OM,OO,ON,OQ];try simp only[zD,zE,Nat.reduceAdd,zG]
   refine zp 0 ?_;refine zp 1 ?_;refine zp 2 ?_;refine zp 3 ?_;refine zq 4 _ ?_ (hy:=λW hW=>by have q1:W.cell? ⟨ep,1,none⟩=some (.slice A1 j k1):=hW.cell 1;exact zf);refine zp 5 ?_;refine zp 6 ?_;refine zp 7 ?_;refine zo 8 λK hK=>?_;go_simp
   (refine(HN.o _ ((Oy wr.heap.size wr).drew)).mono ?_)
   rintro e4 w4 ⟨p,rfl,t,a1,x⟩;have L:=hS.later x;refine hK _ _ L ?_;clear hK;refine zn ?_;refine zo 9 λK hK=>?_;go_simp;refine hK _ _ L ?_;clear hK;refine zn ?_;refine zo 10 λK hK=>?_;go_simp;refine hK _ _ (L.alloc _) ?_;clear hK;refine zn ?_;refine zo 11 λK hK=>?_;have d:=(l.o.up (Oy wr.heap.size wr).drew).up x;have P:w4.ownsRow N 123 1 (.slice A1 j k1) j (aa.map ifC):=by
    have:=d.row;rw[Qs,PC,H]at this;exact this
   refine tC vL (by decide) (.tmp 44) (.tmp 50) rfl (by rfl) P d.size rfl (by rfl) rfl (by simp[Value.oneCell']) (by omega) (by unfold maxLen;omega) ?_;intro v5 w5 y z;obtain⟨A5,k5,rfl,_,_⟩:=ak y;have v:=L.grown z λe=>aB P L (by decide) e.symm;refine hK _ _ v ?_;clear hK;refine zn ?_;refine zd ?_;rw[bI];have B:cY w4 c T h p (.new pj j):=by
    rw[yA HT.o.2.1 (by simpa using l.o.size)]at t;exact t
   have f:=d.U6 (w1:=w5) B (λhm=>(l.o.up (Oy wr.heap.size wr).drew).fresh a1 (RU _ hm)) (by rw[H];exact z) (A':=A5) (k':=k5) (by rw[H];exact y);rw[H,<-HS.o.1]at f;have q5:=v.cell 1;have f5:=v.frozen 1;have HA:=Z1 f;clear f B t P d y z L v hS;go_wp2;go_roundw
   case rel=>
    refine⟨j+1,by omega,by go_num,Z1 ⟨_,A5,k5,HA.o.1,?_⟩⟩;exact(af (HS.o.2.2.drew) x).trans (HA.o.2.mono HT.o.2.2)
   case measure=>simp[intOf];omega
  ·obtain rfl:n=j:=by omega
   obtain⟨aa,A1,k1,a,s⟩:=X.o;have bg:(csN ps).take n=csN ps:=OT (by simp[csN];have:=u.o.2.2.2.2;omega);rw[bg]at a;have H1:Hid (NL w wr c T N h ep ps 0):=Z1 ⟨aa,[],A1,k1,none,0,a,s⟩;clear a s X bg;go_wp2_with fail;go_loopw [56] (λi wr=>∃q:Nat,q<=m/\i=.int .i64 q/\Hid (NL w wr c T N h ep ps q)) (λi _=>m-(intOf i).toNat)
   case atStart=>exact⟨0,OK _,rfl,H1⟩
   case round=>
    obtain⟨q,hq,rfl,X⟩:=hrel;obtain⟨aa,bh,A1,k1,A2,k2,a,s⟩:=X.o;have ai:=u.o.2.2.2.2;have t:(csN ps).length=n:=by simp[csN,ai]
    have O:(wsN ps.length q).length=q:=by simp[wsN]
    have D:bh.length=q:=by rw[a.lw,O]
    by_cases b2:q<m
    ·have c1:(q:Int)<(m:Int):=by omega
     have b6:n+q<32:=by have:=u.o.2.1;omega
     have cs:IntKind.i64.wrap ((n:Int)+(q:Int))=(n:Int)+(q:Int):=by rw[OX];omega
     have HN:Hid (Calls prog 50 #[.pointer (some ⟨h,0,none⟩),.int .i64 ((n:Int)+(q:Int))] wr λe w'=>∃p,e=.returned (.pointer (some ⟨p,0,none⟩))/\aO w' c (ext T wr.heap.size .free) h p (.new (n+q))/\wr.heap.size<=p/\Below wr.heap.size wr w'):=Z1 (by
      have:=GG wr c u.o.2.2.2.1 T h (.new c) a.g (n+q) b6;rw[Int.natCast_add]at this;exact this)
     have l:=Z2 a s;clear a s X ai;go_wp2_with fail;refine HN.o.mono ?_;rintro e4 w4 ⟨p,rfl,aj,a1,x⟩;have B:aO w4 c T h p (.new (n+q)):=by
      rw[yA HT.o.2.1 l.o.1.size]at aj;exact aj
     have d:=l.o.1.up x;have a2:=d.I7;have F:=d.B0;have a3:=d.size;rw[D]at a2 F;rw[t,O]at F;have a4:=Z3 d B a1;have b7:=Z1 (af l.o.2 x);have bi:=Z1 F;have q4:w4.cell? ⟨ep,2,none⟩=some (.slice A2 q k2):=F.cell 2;have bj:=Z1 a2;clear aj B d x F a2;go_upto_region 16 with(at_builtin;go_must (refine bZ KN (by decide) rfl (.tmp 69) (.tmp 71) rfl rfl bj.o a3 rfl rfl rfl (by simp[Value.oneCell']) (by omega) (by unfold maxLen;omega) ?_);intro v5 w5 y z;obtain⟨A5,k5,rfl,_,_⟩:=ak y;have v:=bi.o.grown z λe=>aB bj.o bi.o (by decide) e.symm;have q5:=v.cell 2;have f5:=v.frozen 2)
     have f:=a4.o.1.U7 (w1:=w5) (p:=p) (A':=A5) (k':=k5) (by rw[D];exact z) (by rw[D];exact y);rw[D]at f;clear y z v q5 f5 q4;generalize w5.setCell ⟨ep,2,none⟩ (.slice A5 (q+1) k5)=w6 at*;have a5:=f.1.row;have Q:=f.1.B0;have bt:=f.1.size;rw[t,O]at a5 Q;have q6:w6.cell? ⟨ep,1,none⟩=some (.slice A1 (n+q) k1):=Q.cell 1;have bk:=Z1 Q;have bl:=Z1 a5;have HA:=Z1 f;have HF:=Z3 t O D;clear f a5 Q t O D a3
     go_wp2_with (at_builtin;go_must (refine bZ vL (by decide) rfl (.tmp 79) (.tmp 82) rfl rfl bl.o bt rfl rfl rfl (by simp[Value.oneCell']) (by omega) (by unfold maxLen;omega) ?_);intro v7 w7 a6 a7;obtain⟨A7,k7,rfl,_,_⟩:=ak a6;have a8:=bk.o.grown a7 λe=>aB bl.o bk.o (by decide) e.symm;have q7:=a8.cell 1;have f7:=a8.frozen 1)
     have al:=HA.o.1.U8 (w1:=w7) (HA.o.2.1 _ _ a4.o.2.1) (λhm=>l.o.1.fresh a4.o.2.2 hm) (A':=A7) (k':=k7) (by rw[HF.o.1,HF.o.2.1];exact a7) (by rw[HF.o.1,HF.o.2.1];exact a6);rw[HF.o.1,HF.o.2.1]at al;have HZ:=Z1 al;clear al a6 a7 a8 q7 f7 q6;go_roundw
     case rel=>
      refine⟨q+1,by omega,by go_num,Z1 ⟨aa,bh++[p],A7,k7,A5,k5,?_,(b7.o.trans (HA.o.2.2.mono HT.o.2.2)).trans (HZ.o.2.mono HT.o.2.2)⟩⟩;rw[KP,<-u.o.2.2.2.2];have h9:=HZ.o.1;try rw[<-u.o.2.2.2.2]at h9
      exact h9
     case measure=>simp[intOf];omega
    ·obtain rfl:q=m:=by omega
     have l:=Z3 a s t;clear a s X ai t O D;go_wp2;refine OH (results_tmp2 rfl _ _ _) rfl ⟨ep,rfl,?_,l.o.2.1⟩;exact l.o.1.done (by rw[l.o.2.2];exact u.o.2.2.2.2.symm) HT.o.2.2 HT.o.1
def kG:Array Value:=#[.slice none 0 0,I 0,I 0,.slice none 0 0,.bool false]
def tj(hp:ge c ps)(A Ap:Option Addr)(n k np kp m:Nat)(hP:dv w A n ps)(hn:ps.length+m<=32)(hn0:0<ps.length+m)(h0:cj c.st c.sa c.lo c.hi ps m=0)
  (l:List Int)(hl:∀p∈l,aq p)(hr:an w w.heap.size 1 Ap np (i64s l))(hu:np<=30000):
  C 20 #[.agg #[I c.st,I c.sa,I c.lo,I c.hi],.slice A n k,I m,.slice Ap np kp] w λr w'=>∃ve vq,r=.returned (.tuple #[.agg (pT ve vq (En.run c (.new c ps m) l) (decide (gQ c (En.run c (.new c ps m) l) 0<0))),I 0])/\
   w'.ownsRow w.heap.size 79 34 ve (En.run c (.new c ps m) l).g.ev.length (vts (En.run c (.new c ps m) l).g.ev)/\w'.ownsRow w.heap.size 58 2 vq (En.run c (.new c ps m) l).g.q.line.length (cG (En.run c (.new c ps m) l).g.q.line)/\M w w':=by
 have T:=hP.len;have z:np=l.length:=by have:=hr.len;simpa[i64s]using this
 have P:(En.new c ps m).count=ps.length+m:=by simp[En.new,En.count]
 have hi:=dI.new hp m hn;have d:=hi.run hp l (by rw[<-z];simpa[En.new]using hu);have D:=ae (zh w (.cells #[I c.st,I c.sa,I c.lo,I c.hi] 23)) (.cells kG 38);have HC:=Z1 (λW (hW:M w W)=>KQ W c hp.cfg ps A n k m (hP.up hW) hn (λp h=>(hp.each p h).1) h0);have HR:=Z1 (λW s B (hB:w.heap.size<=B) (hW:M w W) (Q:kY W c B s (.new c ps m))=>KL W c B s (.new c ps m) ps hp hi zO Q l hl Ap kp np (by have:=(hr.below hW);exact⟨this.1,λh=>by obtain⟨ad,e,h1,R⟩:=this.2 h;exact⟨ad,e,zO,R⟩⟩) (by simpa[En.new]using hu));have HO:=Z1 (λW s B (Q:kY W c B s (En.run c (.new c ps m) l))=>yz W c B s _ ps hp d.1 (by have:=d.2.1;simp[En.new]at this ⊢;omega) (by rw[d.2.2.1];omega) Q);have U:=Z1 D;have F:=Blk.A8 (w.alloc (.cells #[I c.st,I c.sa,I c.lo,I c.hi] 23)) 38 kG (g:=w.heap.size+1) zS;have HK:=Z1 F;generalize En.run c (.new c ps m) l=e at*;clear hP h0 D F hp hn hn0 hl hr hu T z P hi d
 go_in
 go_wp2_with fail;refine(HC.o _ U.o).mono ?_;rintro e1 w1 ⟨s,rfl,G,t⟩;have j:=Z3 (af U.o t) G (HK.o.later t);clear t G;go_wp2_with fail;refine(HR.o _ _ _ zT j.o.1 j.o.2.1).mono ?_;rintro e2 w2 ⟨⟨q,rfl⟩,H,u⟩;have i:=Z3 (j.o.1.trans (u.mono zT)) H (show Blk w2 (w.heap.size+1) 38 kG from(u.block (w.heap.size+1) zS).trans j.o.2.2);clear u H;go_upto_region 5 with fail
 go_wp2_with fail;refine(HO.o _ _ _ i.o.2.1).mono ?_;rintro e3 w3 ⟨ve,vq,rfl,L,N,v⟩;have a:=Z4 (af i.o.1 v) (aP L i.o.1.size) (aP N i.o.1.size) (i.o.2.2.later v);clear L N v;generalize O:pT ve vq e (decide (gQ c e 0<0))=S at*;have x:S.size=5/\S.all (·.oneCell')=true:=by
  rw[<-O];have h1:=ak a.o.2.1;have R:=ak a.o.2.2.1;obtain⟨_,_,rfl,_⟩:=h1;obtain⟨_,_,rfl,_⟩:=R;exact⟨rfl,by simp[pT,Value.oneCell']⟩
 go_wp2_with (refine zj j8 (cs:=S) (hn:=x.1) (h1:=x.2) a.o.2.2.2 ?_;intro w9 X y)
 refine OH (cx j8 rfl X x.1 _ rfl) rfl ⟨ve,vq,by rw[O];rfl,?_,?_,y.below a.o.1 zO⟩
 ·exact y.B7.C8 a.o.2.1 λb e f=>aB a.o.2.1 a.o.2.2.2 zP (f▸e)
 ·exact y.B7.C8 a.o.2.2.1 λb e f=>aB a.o.2.2.1 a.o.2.2.2 zP (f▸e)
def ee(x:Cl):Nat:=if(x.k=1\/x.k=6)/\aH x=0 then 1 else 0
def stirsN(ps:List (List Cl)):Nat:=(ps.flatten.map ee).sum
def stepsN(c:Cg)(ps:List (List Cl)):Nat:=(ps.flatten.map λx=>(aF c x).length).sum
def mostN(c:Cg)(ps:List (List Cl))(m:Nat):Nat:=stepsN c ps+16*stirsN ps+6*m
def finL(c:Cg)(ps:List (List Cl))(m:Nat)(raw:List Int):List Int:=(cD (ps.length+m) raw (mostN c ps m+1)).1
def j9(c:Cg)(ps:List (List Cl))(m:Nat)(raw:List Int):En:=.run c (.new c ps m) (finL c ps m raw)
def kb(l:List Vt)(k:K2):Option Adv:=(l.reverse.find? λx=>x.kind=6/\x.key=k).map (·.E0)
def awC:Cg:=⟨2,4,4,2⟩
def awI:ByteArray:=⟨#[97]⟩
def awP:List (List Cl):=[[⟨6,awI,0,0,0,1,10,100,100,5,3⟩,⟨1,awI,1,250,0,0,0,0,0,0,0⟩]]
def Ua{α:Type}(f:α->Nat):∀(l:List α) (i:Nat) (x y:α),l[i]?=some x->((l.set i y).map f).sum+f x=(l.map f).sum+f y
 |[],i,x,y,h=>by simp at h
 |a::r,0,x,y,h=>by
  simp at h;subst h;simp only[Ov,Pi,Vc];omega
 |a::r,i+1,x,y,h=>by
  have:=Ua f r i x y (by simpa using h);simp only[Ow,Pi,Vc];omega
def TZ{α:Type}(f g:α->Nat):∀(l:List α),(∀(i:Nat) y,l[i]?=some y->f y<=g y)->(l.map f).sum<=(l.map g).sum
 |[],_=>OA _
 |a::r,h=>by
  have h1:=TZ f g r λi y b=>h (i+1) y (by simpa using b);have c:=h 0 a zS;simp only[Pi,Vc];omega
def UC{α:Type}(f g:α->Nat):∀(l:List α) (j:Nat),(∀(i:Nat) y,l[i]?=some y->f y<=g y+(if i=j then 1 else 0))->(l.map f).sum<=(l.map g).sum+1
 |[],_,_=>zS
 |a::r,0,h=>by
  have h1:=TZ f g r λi y b=>by have:=h (i+1) y (by simpa using b);simpa using this
  have c:=h 0 a zS;simp only[OB]at c;simp only[Pi,Vc];omega
 |a::r,j+1,h=>by
  have h1:=UC f g r j λi y b=>by have:=h (i+1) y (by simpa using b);simpa using this
  have c:=h 0 a zS;rw[Oz zO]at c;simp only[Pi,Vc];omega
def UD{α:Type}(f g:α->Nat):∀(l:List α) (j:Nat) (x:α),l[j]?=some x->f x+1<=g x->(∀(i:Nat) y,l[i]?=some y->f y<=g y)->(l.map f).sum+1<=(l.map g).sum
 |[],j,x,hx,_,_=>by simp at hx
 |a::r,0,x,hx,hl,h=>by
  simp at hx;subst hx;have h1:=TZ f g r λi y b=>h (i+1) y (by simpa using b);simp only[Pi,Vc];omega
 |a::r,j+1,x,hx,hl,h=>by
  have h1:=UD f g r j x (by simpa using hx) hl λi y b=>h (i+1) y (by simpa using b);have c:=h 0 a zS;simp only[Pi,Vc];omega
def wOp(o:Op2):Nat:=if o.1=6 then 17 else 1
def TV(l:List Op2):Nat:=(l.map wOp).sum
def Ub(o:Op2)(r:List Op2):TV (o::r)=wOp o+TV r:=by simp[TV]
def UE:∀l:List Op2,TV l=l.length+16*(l.filter λy=>y.1==6).length
 |[]=>rfl
 |o::r=>by
  rw[Ub,UE r,So];unfold wOp;by_cases h:o.1=6
  ·simp[h];omega
  ·simp[h];omega
def UG(l:List Op2)(n:Nat):TV (l.drop n)<=TV l:=by
 have h:TV l=TV (l.take n)+TV (l.drop n):=by
  conv=>lhs;rw[<-Qr n l]
  unfold TV;rw[QC,List.sum_append]
 omega
def UK(l:List Op2){a b:Nat}(h:a<=b):TV (l.drop b)<=TV (l.drop a):=by
 rw[show b=a+(b-a)from by omega,<-Rs];exact UG _ _
def wCl(c:Cg)(x:Cl):Nat:=TV (aF c x)
def UY{c:Cg}(hc:c.ok)(x:Cl):wCl c x=(aF c x).length+16*ee x:=by
 obtain⟨r,a,_,_,b,_,_,d,_,g⟩:=kC hc x;unfold wCl;rw[UE,a];have e:(((1,0)::r:List Op2).filter λy=>y.1==6)=r.filter λy=>y.1==6:=by rw[QP zP]
 rw[e];unfold ee;by_cases h:(x.k=1\/x.k=6)/\aH x=0
 ·rw[OB h,d h]
 ·rw[Oz h];have:(r.filter λy=>y.1==6)=[]:=by
   rw[Ve];intro y f q;exact h (b ⟨y,f,by simpa using q⟩)
  rw[this];rfl
def TR(c:Cg)(x:Ci):Nat:=if x.prog.length<=x.nth then 0 else TV (dZ c x)+((x.prog.drop (x.nth+1)).map (wCl c)).sum
def TP(q:Qm):Nat:=13*q.line.length+14*(q.C5.filter λk=>decide (k∈q.busy)).length
def o6(z d:Nat):Nat:=if d=0 then 3+z else if d=1 then 2+z else if d=12 then 1 else if d=13 then 0 else if d=14 then 4+z else 16+z-d
def Vl(q:Qm):Nat:=if q.over=true then 0 else 1
def TS(z:Nat)(T0:List Int)(x:Wi):Nat:=if x.task∈T0 then 2 else o6 z x.B6
def TQ(z:Nat)(T0:List Int)(ws:List Wi):Nat:=(ws.map (TS z T0)).sum
def phi(c:Cg)(e:En):Nat:=(e.cs.map (TR c)).sum+TP e.g.q+TQ (Vl e.g.q) e.g.B3 e.ws
def UP:TP (q.add k).1+(if(q.add k).2=true then 1 else 0)<=TP q+14:=by
 unfold Qm.add;split
 ·simp
 rename_i h;have c:k∉q.C5:=λm=>h (.inr m);have b:fu q.C5 k=q.C5++[k]:=Oz c;split
 ·rename_i a;simp only[TP,b,Ql,OS];rw[QO (by simpa using a)];simp;omega
 ·rename_i a;simp only[TP,b,Ql,OS];rw[QP (by simpa using a)];simp;omega
def UQ{k:K2}{r:List K2}(hq:QOk q)(h:q.line=k::r):TP {q with line:=r,C5:=ib q.C5 k,busy:=fu q.busy k}+13<=TP q:=by
 have b:=hq.lb k (by rw[h];simp);have c:((ib q.C5 k).filter λj=>decide (j∈fu q.busy k)).length<=(q.C5.filter λj=>decide (j∈q.busy)).length:=by
  have:(ib q.C5 k).filter (λj=>decide (j∈fu q.busy k))=(ib q.C5 k).filter λj=>decide (j∈q.busy):=by
   refine QK λj a=>?_;have:=(ga.1 a).2;simp[eV,this]
  rw[this];exact((List.filter_sublist (l:=q.C5)).filter _).length_le
 unfold TP;simp only[h,OC];omega
def UL{k:K2}(hq:QOk q)(hb:k∈q.busy):TP (q.done k).1+(if(q.done k).2=true then 1 else 0)<=TP q:=by
 unfold Qm.done;rw[OB hb];have a:∀l:List K2,(l.filter λj=>decide (j∈ib q.busy k))=(l.filter λj=>decide (j∈q.busy)).filter λj=>!decide (j=k):=λl=>by
  rw[QZ];refine QK λj _=>?_;by_cases b:j∈q.busy<;>by_cases c:j=k<;>simp[ga,b,c]
 split
 ·rename_i d;simp only[TP,a,OS];have e:k∈q.C5.filter λj=>decide (j∈q.busy):=by simp[d,hb]
  have b:((q.C5.filter λj=>decide (j∈q.busy)).filter λj=>!decide (j=k)).length+1<=(q.C5.filter λj=>decide (j∈q.busy)).length:=by
   have:=List.length_filter_lt_length_iff_exists (p:=λj=>!decide (j=k)) (l:=q.C5.filter λj=>decide (j∈q.busy));exact this.2 ⟨k,e,zS⟩
  have c:([k]:List K2).length=1:=rfl;rw[OB trivial];omega
 ·simp only[TP,a];have b:((q.C5.filter λj=>decide (j∈q.busy)).filter λj=>!decide (j=k)).length<=(q.C5.filter λj=>decide (j∈q.busy)).length:=PF _ _;rw[Oz zP];omega
def Um{ws:List Wi}{T0:List Int}{z:Nat}(hz:z<=1)(hd:∀(i:Nat) y,ws[i]?=some y->y.task∈T0->y.B6=1)(hu:∀(i j:Nat) y y',ws[i]?=some y->ws[j]?=some y'->y.task=y'.task->i=j):TQ z (T0.drop 1) ws<=TQ z T0 ws+1:=by
 cases T0 with
 |nil=>exact OW _
 |cons t r=>
  have d:∀(i:Nat) y,ws[i]?=some y->TS z r y<=TS z (t::r) y+(if y.task=t then 1 else 0):=λi y g=>by
   unfold TS;by_cases c:y.task∈r
   ·rw[OB c,OB (Pm _ c)];omega
   ·rw[Oz c];by_cases b:y.task=t
    ·rw[OB (by rw[b];exact Qc),OB b,hd i y g (by rw[b];exact Qc)];unfold o6;simp;omega
    ·rw[Oz (by simp[c,b]),Oz b];omega
  show(ws.map (TS z r)).sum<=(ws.map (TS z (t::r))).sum+1;by_cases e:∃(j:Nat) (y:Wi),ws[j]?=some y/\y.task=t
  ·obtain⟨j,y,c,b⟩:=e;refine UC _ _ ws j λi y' a=>?_;have:=d i y' a;by_cases f:i=j
   ·rw[OB f];split at this<;>omega
   ·rw[Oz λq=>f (hu i j y' y a c (by rw[q,b]))]at this;rw[Oz f];exact this
  ·refine RI (TZ _ _ ws λi y' a=>?_);have:=d i y' a;rw[Oz λq=>e ⟨i,y',a,q⟩]at this;exact this
section
variable {c:Cg} {ps:List (List Cl)} {e:En} {g':Gs} {t j:Nat}
def Uc(hx:e.cs[t]?=some x)(u:Nat)(h:TR c x'+TP g'.q+TQ (Vl g'.q) g'.B3 e.ws+1<=TR c x+TP e.g.q+TQ (Vl e.g.q) e.g.B3 e.ws):phi c {e with g:=g',cs:=e.cs.set t x',used:=u}+1<=phi c e:=by
 have:=Ua (TR c) e.cs t x x' hx;unfold phi;simp only;omega
def Ui{x x':Wi}(hx:e.ws[j]?=some x)(ht:x'.task=x.task)(hn:x.task∉e.g.B3)(u:Nat)(h1:TQ (Vl g'.q) g'.B3 (e.ws.set j x')<=TQ (Vl e.g.q) e.g.B3 (e.ws.set j x')+u)(h2:TP g'.q+u+o6 (Vl e.g.q) x'.B6+1<=TP e.g.q+o6 (Vl e.g.q) x.B6)(v:Nat):phi c {e with g:=g',ws:=e.ws.set j x',used:=v}+1<=phi c e:=by
 have a:=Ua (TS (Vl e.g.q) e.g.B3) e.ws j x x' hx;have b:TS (Vl e.g.q) e.g.B3 x=o6 (Vl e.g.q) x.B6:=Oz hn;have d:TS (Vl e.g.q) e.g.B3 x'=o6 (Vl e.g.q) x'.B6:=Oz (by rw[ht];exact hn);rw[b,d]at a;unfold phi;unfold TQ at*;simp only;omega
def Uj(ho:x.over=false)(hrem:dZ c x=opNow c x::fP c x)(h1:x'.prog=x.prog)(h2:x'.nth=x.nth)(h3:x.at_+1<=x'.at_):TR c x'+wOp (opNow c x)<=TR c x:=by
 have b:=Ci.K1 ho;unfold TR;rw[h1,h2,Oz zO,Oz zO,hrem,Ub];have:dZ c x'=(aF c x.call).drop x'.at_:=by unfold dZ Ci.call;rw[h1,h2]
 rw[this];have d:=UK (aF c x.call) h3;have a:fP c x=(aF c x.call).drop (x.at_+1):=rfl;rw[a];omega
def UV(ho:x.over=false)(hrem:dZ c x=opNow c x::fP c x)(hop:(opNow c x).1=7)(h1:x'.prog=x.prog)(h2:x'.nth=x.nth+1)(h3:x'.at_=0):TR c x'+1<=TR c x:=by
 have e:=Ci.K1 ho;unfold TR;rw[h1,h2,Oz (show ¬x.prog.length<=x.nth by omega),hrem,Ub];have f:1<=wOp (opNow c x):=by unfold wOp;split<;>omega
 split
 ·omega
 ·rename_i g;have b:x.prog.drop (x.nth+1)=x'.call::x.prog.drop (x.nth+1+1):=by
   have a:x.nth+1<x.prog.length:=zO;rw[Pu a];congr 1;unfold Ci.call;rw[h1,h2,OP,OL a];rfl
  have d:dZ c x'=aF c x'.call:=by unfold dZ;rw[h3];rfl
  rw[b,d,Pi,Vc];unfold wCl;omega
def TY(h:lG c e)(hy:e.ws[i]?=some y)(hs:y.task∈e.g.B3):y.B6=1:=((h.Q1 i y hy).T0 ((h.Q1 i y hy).H7 hs)).1
def Us(h:lG c e){i j:Nat}{y y':Wi}(hy:e.ws[i]?=some y)(hy':e.ws[j]?=some y')(ht:y.task=y'.task):i=j:=by
 have a:=h.I4 i y hy;have b:=h.I4 j y' hy';omega
def Vm(q:Qm):Vl q<=1:=by unfold Vl;split<;>omega
def UZ(hc0:c.ok)(hL:lG c e)(hQ:gb c ps e)(hr:e.ready c t=true):phi c (e.go c t)+1<=phi c e:=by
 rcases i6 hr with⟨x,n,F⟩|⟨j,x,rfl,n,F⟩
 ·have R:=Ci.G0 F;have ak:=hL.I1 t x n;obtain⟨B,al⟩:=ak.place (hc0:=hc0) R;rw[Dn n];have h:∀(g':Gs) (x':Ci),g'.q=e.g.q->g'.B3=e.g.B3->x'.prog=x.prog->x'.nth=x.nth->x.at_+1<=x'.at_->phi c {e with g:=g',cs:=e.cs.set t x',used:=e.used+1}+1<=phi c e:=λg' x' u P a3 a4 a5=>by
   refine Uc n _ ?_;have G:=Uj R B a3 a4 a5;have h2:1<=wOp (opNow c x):=by unfold wOp;split<;>omega
   rw[u,P];omega
  rcases al with⟨h0,am⟩|⟨h0,an⟩
  ·have G:(opNow c x).1=1:=by rw[am]
   rw[tY G];exact h _ _ (by split<;>rfl) (by split<;>rfl) rfl rfl (OA _)
  ·obtain⟨p1,p2,p3,p4,p5,p6⟩:=an;have p:(opNow c x).1=2\/(opNow c x).1=3\/(opNow c x).1=4\/(opNow c x).1=5\/(opNow c x).1=6\/(opNow c x).1=7:=zO
   rcases p with p|p|p|p|p|p
   iterate 2
    ·rw[pN zO];exact h _ _ (dY _ _ _ _).2.2.1 (dY _ _ _ _).1 rfl rfl (OA _)
   ·rw[tZ p];obtain⟨d1,d2,d3,d4,d5⟩:=JU c e.g x.call;refine Uc n _ ?_;have G:=Uj (x':={x with B8:= -1,rep:=(e.g.E6 c x.call).2,at_:=x.at_+1}) R B rfl rfl (OA _);have h2:1<=wOp (opNow c x):=by unfold wOp;split<;>omega
    have h3:TP (e.g.E6 c x.call).1.q=TP e.g.q:=by unfold TP;rw[d3,d4,d5]
    have X:TQ (Vl (e.g.E6 c x.call).1.q) (e.g.E6 c x.call).1.B3 e.ws<=TQ (Vl e.g.q) e.g.B3 e.ws:=by
     unfold Gs.E6;simp only;split
     ·refine TZ _ _ e.ws λi y s=>?_;have w:o6 0 y.B6<=o6 (Vl e.g.q) y.B6:=by unfold o6;(repeat' split)<;>omega
      show(if y.task∈([]:List Int)then 2 else o6 (Vl {e.g.q with over:=true}) y.B6)<=_;rw[Oz zS,show Vl {e.g.q with over:=true}=0 from rfl];unfold TS;split
      ·rename_i S;rw[TY hL s S];exact OA _
      ·exact w
     ·exact OA _
    show TR c {x with B8:= -1,rep:=(e.g.E6 c x.call).2,at_:=x.at_+1}+TP (e.g.E6 c x.call).1.q+TQ (Vl (e.g.E6 c x.call).1.q) (e.g.E6 c x.call).1.B3 e.ws+1<=_;omega
   ·rw[ua p];refine h _ _ (dA _ _ _).2.2.1 (dA _ _ _).1 rfl rfl ?_;show x.at_+1<=(if _ then _ else _)+1;split
    ·have:=UB (c:=c) (aF c x.call) (aF c x.call).length x.at_;omega
    ·exact OA _
   ·rw[ub p];refine Uc n _ ?_;have G:=Uj (x':={x with B8:= -1,at_:=x.at_+1}) R B rfl rfl (OA _);have h2:wOp (opNow c x)=17:=OB p;have h3:=UP (q:=e.g.q) (av x.call.id);have T:Vl (e.g.q.add (av x.call.id)).1=Vl e.g.q:=by
     unfold Vl Qm.add;split
     ·rfl
     split<;>rfl
    have X:(e.g.add (av x.call.id)).q=(e.g.q.add (av x.call.id)).1:=(Dl hL.lk _).2.2.2.2;have h5:TQ (Vl e.g.q) (e.g.add (av x.call.id)).B3 e.ws<=TQ (Vl e.g.q) e.g.B3 e.ws+(if(e.g.q.add (av x.call.id)).2=true then 1 else 0):=by
     unfold Gs.add;split
     ·have hw:=((hL.lk.same (g':={e.g with q:=(e.g.q.add (av x.call.id)).1}) rfl rfl rfl).F0).2.2.2.2.2.2;rw[hw];exact Um (Vm _) (λi y s S=>TY hL s S) λi j y y' a b q=>Us hL a b q
     ·exact OA _
    show TR c {x with B8:= -1,at_:=x.at_+1}+TP (e.g.add (av x.call.id)).q+TQ (Vl (e.g.add (av x.call.id)).q) (e.g.add (av x.call.id)).B3 e.ws+1<=_;rw[X,T];omega
   ·rw[uc p];refine Uc n _ ?_;have G:=UV (x':={x with B8:= -1,nth:=x.nth+1,at_:=0}) R B p rfl rfl rfl;show TR c {x with B8:= -1,nth:=x.nth+1,at_:=0}+TP e.g.q+TQ (Vl e.g.q) e.g.B3 e.ws+1<=_;omega
 ·have L:=hL.Q1 j x n;have hd:=L.B6;have bd:=Wi.G1 F;have A:=L.M4 hL.lk F;have ap:=hL.I4 j x n;have aq:=cz n;have H:∀{i:Nat} {y x':Wi},x'.task=x.task->(e.ws.set j x')[i]?=some y->(y.task=((e.cs.length+i:Nat):Int))/\(y.task∈e.g.B3->y.B6=1):=λ{i y x'} u s=>by
   rcases dp s aq with⟨rfl,rfl⟩|⟨q1,q2⟩
   ·exact⟨by rw[u,ap];omega,λq=>absurd (by rw[<-u];exact q) A⟩
   ·exact⟨by rw[hL.I4 i y q2];omega,λq=>TY hL q2 q⟩
  rw[Do n];have h:∀(g':Gs) (x':Wi),x'.task=x.task->g'.q=e.g.q->g'.B3=e.g.B3->(∀z,z<=1->(e.g.q.over=true->z=0)->o6 z x'.B6+1<=o6 z x.B6)->phi c {e with g:=g',ws:=e.ws.set j x',used:=e.used+1}+1<=phi c e:=λg' x' u P a3 a4=>by
   refine Ui n u A 0 (by rw[P,a3];omega) ?_ _;rw[P];have:=a4 (Vl e.g.q) (Vm _) (λq=>OB q);omega
  have D:∀(Q:Int) (b:Bool) (v:Nat),(∀z,z<=1->o6 z v+1<=o6 z x.B6)->phi c {e with g:=(ic e.g x.y Q b v).1,ws:=e.ws.set j (ic e.g x.y Q b v).2,used:=e.used+1}+1<=phi c e:=λQ b v u=>
   h _ _ rfl (dY _ _ _ _).2.2.1 (dY _ _ _ _).1 λz l _=>u z l
  have o:∀(Q:Int) (v:Nat),(∀z,z<=1->o6 z v+1<=o6 z x.B6)->phi c {e with g:=e.g.drop Q x.task,ws:=e.ws.set j {x.y with B6:=v},used:=e.used+1}+1<=phi c e:=λQ v u=>
   h _ _ rfl (dA _ _ _).2.2.1 (dA _ _ _).1 λz l _=>u z l
  have ab:x.B6=0\/x.B6=1\/x.B6=2\/x.B6=3\/x.B6=4\/x.B6=5\/x.B6=6\/x.B6=7\/x.B6=8\/x.B6=9\/x.B6=10\/x.B6=11\/x.B6=12\/x.B6=14:=zO;have w:∀(d v:Nat),x.B6=d->(∀z,z<=1->o6 z v+1<=o6 z d)->∀z,z<=1->o6 z v+1<=o6 z x.B6:=λd v u P z l=>by rw[u];exact P z l
  rcases ab with f|f|f|f|f|f|f|f|f|f|f|f|f|f
  ·rw[qo f];exact D _ _ _ (w 0 1 f λz l=>by simp[o6];omega)
  ·cases hq:e.g.q.line with
   |nil=>
    rw[mz f hq];by_cases N:e.g.q.over=true
    ·rw[OB N];exact h _ _ rfl rfl rfl λz l h0=>by rw[f,h0 N];exact(by decide:o6 0 12+1<=o6 0 1)
    ·rw[Oz N];have hl:c.st+1<c.st+2:=zO;have O:∀m:Nat,m<c.st+2->clG e.g x.task m=if m=c.st+1 then some true else none:=λm aw=>by
      rw[L.cl m aw];unfold cS;rw[OB f];by_cases e2:m=c.st+1
      ·rw[OB e2,OB ⟨e2,λq=>A q.2⟩]
      ·rw[Oz e2,Oz λq=>e2 q.1]
     have ax:0<=x.task/\x.task<e.count:=by unfold En.count;omega
     obtain⟨_,_,_,_,k5,_⟩:=hL.lk.sleep ax (L.has hL.lk F hl (by rw[O _ hl];simp)) O A;have ay:(e.g.sleep x.task).q=e.g.q:=by unfold Gs.sleep;split<;>rfl
     have l:Vl e.g.q=1:=Oz N;unfold phi;simp only;rw[ay,k5,l];have h3:=Ua (TS 1 (e.g.B3++[x.task])) e.ws j x {x with B8:= -1,B3:=true,B6:=1} n;have X:TS 1 (e.g.B3++[x.task]) x=2:=OB zS;have h5:TS 1 (e.g.B3++[x.task]) {x with B8:= -1,B3:=true,B6:=1}=2:=OB zS;have h6:TQ 1 (e.g.B3++[x.task]) e.ws+1<=TQ 1 e.g.B3 e.ws:=by
      refine UD _ _ e.ws j x n (by rw[X];unfold TS;rw[Oz A,f];decide) λi y s=>?_;unfold TS;by_cases U:y.task∈e.g.B3
      ·rw[OB U,OB (RU _ U)];exact OA _
      ·by_cases h8:y.task=x.task
       ·obtain rfl:=Us hL s n h8;rw[n]at s;injection s with s;subst s;rw[OB zS,Oz U,f];decide
       ·rw[Oz (by simp[U,h8]),Oz U];exact OA _
     unfold TQ at*;omega
   |cons k r=>
    rw[oJ f hq];have G:=UQ hQ.q hq;refine Ui (g':={e.g with q:={e.g.q with line:=r,C5:=ib e.g.q.C5 k,busy:=fu e.g.q.busy k}}.note (({x.y with key:=k,B6:=2}:Wi).event 4)) (x':={x.y with key:=k,B6:=2}) n zF A 0 (OA _) ?_ _;show TP {e.g.q with line:=r,C5:=ib e.g.q.C5 k,busy:=fu e.g.q.busy k}+0+o6 (Vl e.g.q) 2+1<=TP e.g.q+o6 (Vl e.g.q) x.B6;rw[f];have:=Vm e.g.q;simp only[o6];simp;omega
  ·rw[qp f];exact o _ _ (w 2 3 f λz l=>by simp[o6];omega)
  ·rw[qr f];exact D _ _ _ (w 3 4 f λz l=>by simp[o6];omega)
  ·rw[qt f];exact h _ _ rfl rfl rfl λz l _=>by rw[f];simp[o6];omega
  ·rw[qu f];exact o _ _ (w 5 6 f λz l=>by simp[o6];omega)
  ·rw[qw f];split
   ·exact h _ _ rfl rfl rfl λz l _=>by rw[f];simp[o6];omega
   ·exact h _ _ rfl rfl rfl λz l _=>by rw[f];simp[o6];omega
  ·rw[qy f];exact D _ _ _ (w 7 8 f λz l=>by simp[o6];omega)
  ·rw[qz f];exact h _ _ rfl rfl rfl λz l _=>by rw[f];simp[o6];omega
  ·rw[qA f];exact o _ _ (w 9 10 f λz l=>by simp[o6];omega)
  ·rw[oK f];exact D _ _ _ (w 10 11 f λz l=>by simp[o6];omega)
  ·rw[oL f];have a0:x.at:=⟨zO,zO⟩;have a6:=hQ.wb j x n a0;obtain⟨k1,k2,k3,k4,k5⟩:=xQ (hL.lk.same (g':=e.g.note (x.y.event 7)) rfl rfl rfl) x.key;have ad:((e.g.note (x.y.event 7)).F6 x.key).q=(e.g.q.done x.key).1:=k5;have G:=UL hQ.q a6;have T:Vl (e.g.q.done x.key).1=Vl e.g.q:=by
    have:(e.g.q.done x.key).1.over=e.g.q.over:=by
     unfold Qm.done;by_cases q1:x.key∈e.g.q.busy<;>by_cases q2:x.key∈e.g.q.C5<;>simp[q1,q2]
    unfold Vl;rw[this]
   refine Ui (g':=(e.g.note (x.y.event 7)).F6 x.key) (x':={x.y with done:=x.done+1,B6:=14}) n zF A (if(e.g.q.done x.key).2=true then 1 else 0) ?_ ?_ _
   ·rw[ad,T];unfold Gs.F6;show TQ _ (if(e.g.q.done x.key).2=true then _ else _:Gs).B3 _<=_;split
    ·have hw:=((hL.lk.same (g':={e.g.note (x.y.event 7)with q:=(e.g.q.done x.key).1}) rfl rfl rfl).F0).2.2.2.2.2.2;show TQ _ ({e.g.note (x.y.event 7)with q:=(e.g.q.done x.key).1}:Gs).F0.B3 _<=_;rw[hw];exact Um (Vm _) (λi y s S=>(H zF s).2 S) λi i' y y' a b q=>by
      have G:=(H zF a).1;have h2:=(H zF b).1;omega
    ·exact OA _
   ·rw[ad];show _+_+o6 (Vl e.g.q) 14+1<=_;rw[f];have l:=Vm e.g.q;simp only[o6];simp;omega
  ·rw[oM f];exact o _ _ (w 12 13 f λz l=>by simp[o6])
  ·rw[oN f];exact o _ _ (w 14 0 f λz l=>by simp[o6];omega)
def UW(hc0:c.ok)(ps:List (List Cl))(m:Nat):phi c (.new c ps m)<=mostN c ps m:=by
 have b:∀p:List Cl,∀i,TR c (.new p i)=(p.map (wCl c)).sum:=λp i=>by
  unfold TR
  cases p with
  |nil=>rfl
  |cons a r=>
   rw[Oz (by simp[Ci.new])];rfl
 have d:∀l:List Cl,(l.map (wCl c)).sum=(l.map λx=>(aF c x).length).sum+16*(l.map ee).sum:=λl=>by
  induction l with
  |nil=>rfl
  |cons a r ih=>
   simp only[Pi,Vc,ih,UY hc0 a];omega
 have e:((ps.mapIdx λi p=>Ci.new p i).map (TR c)).sum=(ps.flatten.map (wCl c)).sum:=by
  have:(ps.mapIdx λi p=>Ci.new p i).map (TR c)=ps.map λp=>(p.map (wCl c)).sum:=by
   refine Vh zS λi h _=>?_;simp[b]
  rw[this];clear this;induction ps with
  |nil=>rfl
  |cons a r ih=>simp only[Pi,Vc,Sm,QC,List.sum_append,ih]
 have f:TQ 1 [] ((List.range m).map λi=>Wi.new (ps.length+i))=4*m:=by
  unfold TQ;rw[Px];have:(TS 1 [] ∘ λi=>Wi.new (ps.length+i))=λ_=>4:=by
   funext i;simp[TS,o6,Wi.new]
  rw[this];clear b d e this;induction m with
  |zero=>rfl
  |succ m ih=>
   rw[Vf,QC,List.sum_append,ih];simp;omega
 have g:phi c (.new c ps m)=((ps.mapIdx λi p=>Ci.new p i).map (TR c)).sum+0+TQ 1 [] ((List.range m).map λi=>Wi.new (ps.length+i)):=rfl;rw[g,e,f,d];unfold mostN stepsN stirsN;omega
end
def TT(c:Cg)(e:En)(k:K2):Prop:=k∈e.g.q.C5\/∃(i:Nat) (x:Ci),e.cs[i]?=some x/\x.at_≠0/\du (dZ c x)=false/\x.rep.err=0/\gU (dZ c x)=true/\av x.call.id=k
def Uk(ev:List Vt)(k:K2)(y:Ld):Prop:=∃a,kb ev k=some a/\y.C0.getLast?=some a/\a.tick=dg y.D2
structure qq(c:Cg)(e:En):Prop where
 over:e.g.q.over=false
 M4:e.g.q.line≠[]->∃(j:Nat) (x:Wi),e.ws[j]?=some x/\x.task∉e.g.B3
 d12:∀(j:Nat) x,e.ws[j]?=some x->x.B6≠12/\x.B6≠13
 dec:∀(j:Nat) x,e.ws[j]?=some x->7<=x.B6/\x.B6<=8->x.E0.tick=dg x.D9.D2
 look:∀k y,ap e.g.mp.ls k=some y->y.E9=true->y.D2≠[]->TT c e k\/(∃(j:Nat) (x:Wi),e.ws[j]?=some x/\x.key=k/\2<=x.B6/\x.B6<=8)\/Uk e.g.ev k y
 cur:∀(j:Nat) x,e.ws[j]?=some x->5<=x.B6/\x.B6<=8->TT c e x.key\/∃y,ap e.g.mp.ls x.key=some y/\x.D9.D2=y.D2/\x.D9.D8=y.D8/\x.D9.E9=y.E9
def TU(x:Vt)(k:K2):kb (l++[x]) k=if x.kind=6/\x.key=k then some x.E0 else kb l k:=by
 unfold kb;rw[List.reverse_append];simp only[List.reverse_cons,List.reverse_nil,QA,List.singleton_append,List.find?_cons];by_cases h:x.kind=6/\x.key=k
 ·simp[h]
 ·rw[Oz h,show decide (x.kind=6/\x.key=k)=false from by simpa using h]
def UM:∀(new:List Vt),(∀y∈new,y.kind≠6)->kb (l++new) k=kb l k:=by
 intro new;induction new using Sy with
 |nil=>intro _;rw[PC]
 |append_singleton r y ih=>
  intro h;rw[<-Pv,TU,Oz (λq=>h y zS q.1),ih λz a=>h z (by simp[a])]
def Ud{o:Op2}(h:o.1≠6):gU (o::r)=gU r:=by
 unfold gU;simp[h]
def Uv{o:Op2}(h:o.1≠4):du (o::r)=du r:=by
 unfold du;simp[h]
def UR(c:Cg)(m:Mp)(x:Cl)(h2:x.k≠2)(k:K2):ap (doM c m x).1.ls k=ap m.ls k\/((doM c m x).2.err=0/\aH x=0/\(x.k=1\/x.k=6)/\k=av x.id):=by
 by_cases b:aH x=0
 ·unfold doM;rw[Oz (by simpa using b)];split
  ·rename_i d;split
   ·exact .inl rfl
   ·by_cases a:k=av x.id
    ·exact .inr ⟨rfl,b,.inl d,a⟩
    ·exact .inl (iE _ _ a)
  first|rw[Oz h2]|skip
  split
  ·split<;>exact .inl rfl
  split
  ·split<;>exact .inl rfl
  split
  ·split
   ·split<;>exact .inl rfl
   ·exact .inl rfl
  split
  ·rename_i e;split
   ·exact .inl rfl
   ·by_cases a:k=av x.id
    ·exact .inr ⟨rfl,b,.inr e,a⟩
    ·exact .inl (iE _ _ a)
  split
  ·split<;>exact .inl rfl
  split<;>exact .inl rfl
 ·unfold doM;rw[OB b];exact .inl rfl
def Va{c:Cg}{x:Ci}(hk:(opNow c x).1=4)(h1:x.call.k=1\/x.call.k=6)(hz:aH x.call=0):gU (fP c x)=true:=by
 have a:aF c x.call=[(1,0),(3,i7 c x.call.id),(4,0),(5,i7 c x.call.id),(3,lineN c),(6,0),(5,lineN c),(7,0)]:=by
  unfold aF;rw[OB hz];unfold cg;rw[OB h1];rfl
 have b:x.at_=2:=by
  unfold opNow at hk;rw[a]at hk
  match hq:x.at_ with
  |0=>rw[hq]at hk;simp at hk
  |1=>rw[hq]at hk;simp at hk
  |2=>rfl
  |3=>rw[hq]at hk;simp at hk
  |4=>rw[hq]at hk;simp at hk
  |5=>rw[hq]at hk;simp at hk
  |6=>rw[hq]at hk;simp at hk
  |7=>rw[hq]at hk;simp at hk
  |n+8=>rw[hq]at hk;simp at hk
 unfold fP;rw[a,b];rfl
section
variable {c:Cg} {ps:List (List Cl)} {e:En} {g':Gs} {t j:Nat}
def Ue(hx:e.cs[t]?=some x)(u:Nat)(hd:∀k∈e.g.q.C5,k∈g'.q.C5)(hc:x.at_≠0->du (dZ c x)=false->x.rep.err=0->gU (dZ c x)=true->av x.call.id∈g'.q.C5\/(x'.at_≠0/\du (dZ c x')=false/\x'.rep.err=0/\gU (dZ c x')=true/\av x'.call.id=av x.call.id)):
  ∀k,TT c e k->TT c {e with g:=g',cs:=e.cs.set t x',used:=u} k:=λk h=>by
 have f:=cz hx
 rcases h with h|⟨i,y,a,j,l,m,n,d⟩
 ·exact .inl (hd k h)
 ·by_cases o:i=t
  ·subst o;rw[hx]at a;injection a with a;subst a
   rcases hc j l m n with b|⟨p,r,s,v,w⟩
   ·exact .inl (d▸b)
   ·exact .inr ⟨i,x',Ro f,p,r,s,v,w.trans d⟩
  ·exact .inr ⟨i,y,by show(e.cs.set t x')[i]?=_;rw[Qf (Pc o)];exact a,j,l,m,n,d⟩
def qq.I1(h:qq c e)(u:Nat)(new:List Vt)(hev:g'.ev=e.g.ev++new)(hn:∀y∈new,y.kind≠6)(hov:g'.q.over=false)(haw:g'.q.line≠[]->∃(j:Nat) (y:Wi),e.ws[j]?=some y/\y.task∉g'.B3)
  (hp:∀k,TT c e k->TT c {e with g:=g',cs:=e.cs.set t x',used:=u} k)(hls:∀k,ap g'.mp.ls k=ap e.g.mp.ls k\/TT c {e with g:=g',cs:=e.cs.set t x',used:=u} k):qq c {e with g:=g',cs:=e.cs.set t x',used:=u}:=by
 refine⟨hov,haw,h.d12,h.dec,λk y f l m=>?_,λi y f n=>?_⟩
 ·rcases hls k with q|q
  ·have d:=f;rw[q]at d
   rcases h.look k y d l m with a|a|⟨b,o,p,r⟩
   ·exact .inl (hp k a)
   ·exact .inr (.inl a)
   ·exact .inr (.inr ⟨b,by show kb g'.ev k=_;rw[hev,UM _ _ _ hn];exact o,p,r⟩)
  ·exact .inl q
 ·rcases h.cur i y f n with a|a
  ·exact .inl (hp _ a)
  ·rcases hls y.key with q|q
   ·refine .inr ?_;show ∃z,ap g'.mp.ls y.key=some z/\_;rw[q];exact a
   ·exact .inl q
def qq.Q1{x x':Wi}{u:Nat}(hQ:gb c ps e)(hQ':gb c ps {e with g:=g',ws:=e.ws.set j x',used:=u})(h:qq c e)(hx:e.ws[j]?=some x)(hov:g'.q.over=false)(haw:x'.task∉g'.B3\/g'.q.line=[])(hd:x'.B6≠12/\x'.B6≠13)(hdc:7<=x'.B6/\x'.B6<=8->x'.E0.tick=dg x'.D9.D2)
  (hp:∀k,TT c e k->TT c {e with g:=g',ws:=e.ws.set j x',used:=u} k\/(x'.key=k/\2<=x'.B6/\x'.B6<=4))
  (hm:∀k,k≠x.key\/x.B6≠8->ap g'.mp.ls k=ap e.g.mp.ls k/\kb g'.ev k=kb e.g.ev k)
  (hl:2<=x.B6/\x.B6<=8->∀y,ap g'.mp.ls x.key=some y->y.E9=true->y.D2≠[]->TT c {e with g:=g',ws:=e.ws.set j x',used:=u} x.key\/(x'.key=x.key/\2<=x'.B6/\x'.B6<=8)\/Uk g'.ev x.key y)
  (hc:5<=x'.B6/\x'.B6<=8->TT c {e with g:=g',ws:=e.ws.set j x',used:=u} x'.key\/∃y,ap g'.mp.ls x'.key=some y/\x'.D9.D2=y.D2/\x'.D9.D8=y.D8/\x'.D9.E9=y.E9):qq c {e with g:=g',ws:=e.ws.set j x',used:=u}:=by
 have n:=cz hx;have d:(e.ws.set j x')[j]?=some x':=Ro n;refine⟨hov,λF=>?_,λi y f=>?_,λi y f l=>?_,λk y f G H=>?_,λi y f l=>?_⟩
 ·rcases haw with q|q
  ·exact⟨j,x',d,q⟩
  ·exact absurd q F
 ·rcases dp f n with⟨rfl,rfl⟩|⟨t,o⟩
  ·exact hd
  ·exact h.d12 i y o
 ·rcases dp f n with⟨rfl,rfl⟩|⟨t,o⟩
  ·exact hdc l
  ·exact h.dec i y o l
 ·have p:=f;by_cases s:k=x.key/\2<=x.B6/\x.B6<=8
  ·obtain⟨rfl,s⟩:=s
   rcases hl s y p G H with a|a|a
   ·exact .inl a
   ·exact .inr (.inl ⟨j,x',d,a⟩)
   ·exact .inr (.inr a)
  ·obtain⟨P,Q⟩:=hm k (by by_cases q:k=x.key;exact .inr (λr=>s ⟨q,zO,zO⟩);exact .inl q);rw[P]at p
   rcases h.look k y p G H with a|⟨i,z,m,v,w,L⟩|⟨b,m,v,w⟩
   ·rcases hp k a with b|⟨B,D,R⟩
    ·exact .inl b
    ·exact .inr (.inl ⟨j,x',d,B,D,zO⟩)
   ·by_cases N:i=j
    ·subst N;rw[hx]at m;injection m with m;subst m;exact absurd ⟨v.symm,w,L⟩ s
    ·exact .inr (.inl ⟨i,z,by show(e.ws.set j x')[i]?=_;rw[Qf (Pc N)];exact m,v,w,L⟩)
   ·exact .inr (.inr ⟨b,by show kb g'.ev k=_;rw[Q];exact m,v,w⟩)
 ·have O:=f
  rcases dp f n with⟨rfl,rfl⟩|⟨t,o⟩
  ·exact hc l
  ·have A:y.at:=⟨zO,zO⟩
   rcases h.cur i y o l with a|a
   ·rcases hp y.key a with b|⟨B,D,R⟩
    ·exact .inl b
    ·exact absurd (hQ'.ww j i x' y d O ⟨D,zO⟩ A B).symm t
   ·refine .inr ?_;show ∃z,ap g'.mp.ls y.key=some z/\_;rw[(hm y.key ?_).1]
    ·exact a
    ·by_cases q:y.key=x.key
     ·refine .inr λr=>t (hQ.ww i j y x o hx A ⟨zO,zO⟩ q)
     ·exact .inl q
def UN(ho:q.over=false)(k:K2):(q.add k).1.over=false/\(∀i∈q.C5,i∈(q.add k).1.C5)/\k∈(q.add k).1.C5/\((q.add k).2=false->(q.add k).1.line=q.line):=by
 unfold Qm.add;split
 ·rename_i h;rw[ho]at h;exact⟨ho,λ_ h=>h,by simpa using h,λ_=>rfl⟩
 split
 ·exact⟨ho,λi a=>eV.2 (.inr a),eV.2 (.inl rfl),λ_=>rfl⟩
 ·exact⟨ho,λi a=>eV.2 (.inr a),eV.2 (.inl rfl),λq=>by cases q⟩
def qq.R5(hc0:c.ok)(hL:lG c e)(hQ:gb c ps e)(hps:∀y∈ps.flatten,y.k≠2/\y.k≠8)(hws:0<e.ws.length)(h:qq c e)(hx:e.cs[t]?=some x)(hrx:x.ready e.g=true):qq c (e.go c t):=by
 have T:=Ci.G0 hrx;have H:=Ci.K1 T;have U:=hL.I1 t x hx;have X:=cz hx;obtain⟨n,aa⟩:=U.place (hc0:=hc0) T;have G:x.call∈ps.flatten:=by
  rw[Sv];refine⟨x.prog,Qx (hQ.prog t x hx),?_⟩;unfold Ci.call;rw[OP,OL H];exact OR H
 obtain⟨ab,ac⟩:=hps _ G;rw[Dn hx];have a:∀(g':Gs) (o:Ci) (v:List Vt),g'.ev=e.g.ev++v->(∀y∈v,y.kind≠6)->g'.q=e.g.q->g'.B3=e.g.B3->g'.mp=e.g.mp->(x.at_≠0->du (dZ c x)=false->x.rep.err=0->gU (dZ c x)=true->o.at_≠0/\du (dZ c o)=false/\o.rep.err=0/\gU (dZ c o)=true/\av o.call.id=av x.call.id)->qq c {e with g:=g',cs:=e.cs.set t o,used:=e.used+1}:=λg' o v N O p z a5 a6=>
  h.I1 _ v N O (by rw[p];exact h.over) (by rw[p,z];exact h.M4) (Ue hx _ (by rw[p];exact λ_ h=>h) λA l s m=>.inr (a6 A l s m)) λk=>.inl (by rw[a5])
 rcases aa with⟨P,ad⟩|⟨P,ae⟩
 ·have h1:(opNow c x).1=1:=by rw[ad]
  rw[tY h1];by_cases hz:aH x.call=0
  ·rw[OB hz];exact a _ _ [_] rfl (by intro y d;simp at d;rw[d];simp[Ci.event]) rfl rfl rfl λb=>absurd P b
  ·rw[Oz hz];refine a _ _ [({x with B8:= -1,rep:=.of (aH x.call),at_:=x.at_+1}:Ci).event 1,({x with B8:= -1,rep:=.of (aH x.call),at_:=x.at_+1}:Ci).event 2] (by simp[Gs.note]) (λy d=>?_) rfl rfl rfl λb=>absurd P b;simp at d
   rcases d with d|d
   ·rw[d];exact(by decide:¬(1:Int)=6)
   ·rw[d];exact(by decide:¬(2:Int)=6)
 ·obtain⟨p1,p2,p3,p4,p5,p6⟩:=ae;have f:(opNow c x).1=2\/(opNow c x).1=3\/(opNow c x).1=4\/(opNow c x).1=5\/(opNow c x).1=6\/(opNow c x).1=7:=zO;have w:(opNow c x).1≠4->(opNow c x).1≠6->du (dZ c x)=false->gU (dZ c x)=true->du ((aF c x.call).drop (x.at_+1))=false/\gU ((aF c x.call).drop (x.at_+1))=true:=λN O p z=>by
   rw[n]at p z;rw[Uv N]at p;rw[Ud O]at z;exact⟨p,z⟩
  rcases f with f|f|f|f|f|f
  iterate 2
   ·rw[pN zO];refine a _ _ [] (by rw[PC];exact(dY _ _ _ _).2.2.2) zS (dY _ _ _ _).2.2.1 (dY _ _ _ _).1 (dY _ _ _ _).2.1 λA l s m=>?_;obtain⟨B,D⟩:=w zO zO l m;exact⟨PU _,B,s,D,rfl⟩
  ·rw[tZ f];have ag:e.g.E6 c x.call=({e.g with mp:=(doM c e.g.mp x.call).1},(doM c e.g.mp x.call).2):=by
    unfold Gs.E6;simp only;rw[Oz λq=>ac q.1]
   rw[ag];refine h.I1 _ [_] rfl (by intro y d;simp at d;rw[d];simp[Ci.event]) h.over h.M4 (Ue hx _ (λ_ h=>h) λA l=>?_) λk=>?_
   ·exfalso;rw[mB,n]at l;exact l _ Qc f
   ·rcases UR c e.g.mp x.call ab k with q|⟨q1,q2,q3,q4⟩
    ·exact .inl q
    ·refine .inr (.inr ⟨t,_,Ro X,PU _,?_,q1,Va f q3 q2,q4.symm⟩);exact mB.2 (p3 (.inl f)).1
  ·rw[ua f];refine a _ _ [] (by rw[PC];exact(dA _ _ _).2.2.2) zS (dA _ _ _).2.2.1 (dA _ _ _).1 (dA _ _ _).2.1 λA l s m=>?_;obtain⟨B,D⟩:=w zO zO l m;have ah:(if(opNow c x).2<(c.st:Int)/\x.rep.err≠0 then jP c (aF c x.call) (aF c x.call).length x.at_ else x.at_)=x.at_:=Oz λq=>q.2 s;rw[ah];exact⟨PU _,B,s,D,rfl⟩
  ·rw[ub f];obtain⟨k1,k2,k3,k4,Q⟩:=Dl hL.lk (av x.call.id);obtain⟨B,D,d3,d4⟩:=UN h.over (av x.call.id);refine h.I1 _ [] (by rw[PC];exact k3) zS (by rw[Q];exact B) (λF=>?_) (Ue hx _ (by rw[Q];exact D) λ_ _ _ _=>.inl (by rw[Q];exact d3)) λk=>.inl (by rw[k4]);unfold Gs.add at F ⊢;by_cases R:(e.g.q.add (av x.call.id)).2=true
   ·rw[OB R];have hw:=((hL.lk.same (g':={e.g with q:=(e.g.q.add (av x.call.id)).1}) rfl rfl rfl).F0).2.2.2.2.2.2;rw[hw];show ∃(j:Nat) (y:Wi),e.ws[j]?=some y/\y.task∉e.g.B3.drop 1
    cases hs:e.g.B3 with
    |nil=>exact⟨0,e.ws[0],OL hws,zS⟩
    |cons u r=>
     obtain⟨i,y,y1,y2⟩:=hL.H7 u (by rw[hs];simp);have L:=hL.lk.nodup;rw[hs,QB]at L;exact⟨i,y,y1,by rw[y2];exact L.1⟩
   ·rw[Oz R]at F ⊢;refine h.M4 ?_;rw[<-d4 (by simpa using R)];exact F
  ·rw[uc f];refine a _ _ [_] rfl (by intro y d;simp at d;rw[d];simp[Ci.event]) rfl rfl rfl λA l s m=>?_;exfalso;have S:=p5.1 f;rw[n,Ud zO,S]at m
   cases m
def qq.stepW(hc0:c.ok)(hL:lG c e)(hQ:gb c ps e)(hE:Go.Fw.InvE c ps e)(h:qq c e){x:Wi}(hx:e.ws[j]?=some x)(hrx:x.ready c e.g=true):qq c (e.go c (e.cs.length+j)):=by
 have ab:=hL.Q1 j x hx;have hd:=ab.B6;have aq:=Wi.G1 hrx;have t:=ab.M4 hL.lk hrx;have B:=hQ.go hc0 hL (by rw[Mw hx];exact hrx);rw[Do hx]at B ⊢;have aa:x.B6=0\/x.B6=1\/x.B6=2\/x.B6=3\/x.B6=4\/x.B6=5\/x.B6=6\/x.B6=7\/x.B6=8\/x.B6=9\/x.B6=10\/x.B6=11\/x.B6=12\/x.B6=14:=zO;have m:∀(r:Gs×Wi),aM c e.g x=r->r.1.q.C5=e.g.q.C5->r.1.q.over=e.g.q.over->(r.2.task∉r.1.B3\/r.1.q.line=[])->r.1.mp=e.g.mp->(∀k,kb r.1.ev k=kb e.g.ev k)->r.2.key=x.key->r.2.B6≠12/\r.2.B6≠13->(7<=r.2.B6/\r.2.B6<=8->r.2.E0.tick=dg r.2.D9.D2)->
   (2<=x.B6/\x.B6<=8->∀y,ap e.g.mp.ls x.key=some y->y.E9=true->y.D2≠[]->TT c e x.key\/(2<=r.2.B6/\r.2.B6<=8))->
   (5<=r.2.B6/\r.2.B6<=8->TT c e x.key\/∃y,ap e.g.mp.ls x.key=some y/\r.2.D9.D2=y.D2/\r.2.D9.D8=y.D8/\r.2.D9.E9=y.E9)->qq c {e with g:=(aM c e.g x).1,ws:=e.ws.set j (aM c e.g x).2,used:=e.used+1}:=λr n a1 T U L X Q a7 aj a8 a9=>by
  subst n;have D:∀k,TT c e k->TT c {e with g:=(aM c e.g x).1,ws:=e.ws.set j (aM c e.g x).2,used:=e.used+1} k:=λk u=>by
   rcases u with q|q
   ·exact .inl (by show k∈(aM c e.g x).1.q.C5;rw[a1];exact q)
   ·exact .inr q
  refine h.Q1 hQ B hx (by rw[T];exact h.over) U a7 aj (λk u=>.inl (D k u)) (λk _=>⟨by rw[L],X k⟩) (λq y N n A=>?_) λq=>?_
  ·rw[L]at N
   rcases a8 q y N n A with b|b
   ·exact .inl (D _ b)
   ·exact .inr (.inl ⟨Q,b⟩)
  ·rw[Q]
   rcases a9 q with b|b
   ·exact .inl (D _ b)
   ·exact .inr (by rw[L];exact b)
 have G:∀(o:Int) (b:Bool) (d l:Nat),x.B6=d->aM c e.g x=ic e.g x.y o b l->(l≠12/\l≠13)->(2<=d/\d<=8->2<=l/\l<=8)->(5<=l/\l<=8->5<=d/\d<=8)->(7<=l/\l<=8->7<=d/\d<=8)->qq c {e with g:=(aM c e.g x).1,ws:=e.ws.set j (aM c e.g x).2,used:=e.used+1}:=λo b d l a1 T U L X Q=>by
  have n:=dY e.g o x.task b;exact m _ T (by show(e.g.ask o x.task b).1.q.C5=_;rw[n.2.2.1]) (by show(e.g.ask o x.task b).1.q.over=_;rw[n.2.2.1]) (.inl (by show x.task∉(e.g.ask o x.task b).1.B3;rw[n.1];exact t)) n.2.1 (λk=>by show kb (e.g.ask o x.task b).1.ev k=_;rw[n.2.2.2]) rfl U (λq=>h.dec j x hx (by have:=Q q;omega)) (λq _ _ _ _=>.inr (L zO)) λq=>h.cur j x hx (by have:=X q;omega)
 have v:∀(o:Int) (d l:Nat),x.B6=d->aM c e.g x=(e.g.drop o x.task,{x.y with B6:=l})->(l≠12/\l≠13)->(2<=d/\d<=8->2<=l/\l<=8)->(5<=l/\l<=8->5<=d/\d<=8)->(7<=l/\l<=8->7<=d/\d<=8)->qq c {e with g:=(aM c e.g x).1,ws:=e.ws.set j (aM c e.g x).2,used:=e.used+1}:=λo d l a1 T U L X Q=>by
  have n:=dA e.g o x.task;exact m _ T (by show(e.g.drop o x.task).q.C5=_;rw[n.2.2.1]) (by show(e.g.drop o x.task).q.over=_;rw[n.2.2.1]) (.inl (by show x.task∉(e.g.drop o x.task).B3;rw[n.1];exact t)) n.2.1 (λk=>by show kb (e.g.drop o x.task).ev k=_;rw[n.2.2.2]) rfl U (λq=>h.dec j x hx (by have:=Q q;omega)) (λq _ _ _ _=>.inr (L zO)) λq=>h.cur j x hx (by have:=X q;omega)
 rcases aa with f|f|f|f|f|f|f|f|f|f|f|f|f|f
 ·exact G _ _ 0 1 f (qo f) zO zO zO zO
 ·cases hq:e.g.q.line with
  |nil=>
   have ak:¬e.g.q.over=true:=by rw[h.over];decide
   have s:=mz (c:=c) f hq;rw[Oz ak]at s;have A:(e.g.sleep x.task).q=e.g.q/\(e.g.sleep x.task).mp=e.g.mp/\(e.g.sleep x.task).ev=e.g.ev:=by unfold Gs.sleep;split<;>exact⟨rfl,rfl,rfl⟩
   exact m _ s (by rw[A.1]) (by rw[A.1]) (.inr (by rw[A.1];exact hq)) A.2.1 (λk=>by rw[A.2.2]) rfl (by show 1≠12/\1≠13;decide) (λq=>by simp at q) (λq=>zO) (λq=>by simp at q)
  |cons k r=>
   have s:=oJ (c:=c) f hq;have w:(({x.y with key:=k,B6:=2}:Wi).event 4)=⟨4,x.task,0,.zero,.zero,k,az⟩:=rfl;rw[w]at s;rw[s]at B ⊢;refine h.Q1 hQ B hx h.over (.inl t) (by show 2≠12/\2≠13;decide) (λq=>by simp at q) (λi hi=>?_) (λi _=>⟨rfl,?_⟩) (λq=>zO) (λq=>by have:=q.1;simp at this)
   ·by_cases ac:k=i
    ·exact .inr ⟨ac,by show 2<=2;omega,by show 2<=4;omega⟩
    ·rcases hi with q|q
     ·exact .inl (.inl (ga.2 ⟨q,Pc ac⟩))
     ·exact .inl (.inr q)
   ·show kb (e.g.ev++[_]) i=_;rw[TU,Oz λq=>absurd q.1 (show ¬(4:Int)=6 by decide)]
 ·exact v _ 2 3 f (qp f) zO zO zO zO
 ·exact G _ _ 3 4 f (qr f) zO zO zO zO
 ·have P:x.at:=⟨zO,zO⟩;have u:=hQ.bk _ (hQ.wb j x hx P);unfold dB at u;have w:(({x.y with D9:=(ap e.g.mp.ls x.key).getD .new,B6:=5}:Wi).event 5)=⟨5,x.task,0,.zero,.zero,x.key,az⟩:=rfl;refine m _ (qt f) rfl rfl (.inl t) rfl (λk=>?_) rfl (by show 5≠12/\5≠13;decide) (λq=>by simp at q) (λ_ _ _ _ _=>.inr (by show 2<=5/\5<=8;omega)) λ_=>.inr ?_
  ·show kb (e.g.ev++[_]) k=_;rw[w,TU,Oz λq=>absurd q.1 (show ¬(5:Int)=6 by decide)]
  ·cases hg:ap e.g.mp.ls x.key with
   |none=>exact absurd hg u
   |some y=>exact⟨y,rfl,rfl,rfl,rfl⟩
 ·exact v _ 5 6 f (qu f) zO zO zO zO
 ·have s:=qw (c:=c) (g:=e.g) f;have H:=h.cur j x hx zO;by_cases O:x.D9.E9=true/\fW x.D9.D8 x.D9.D2=0
  ·rw[OB O]at s;exact m _ s rfl rfl (.inl t) rfl (λ_=>rfl) rfl (by show 7≠12/\7≠13;decide) (λ_=>rfl) (λ_ _ _ _ _=>.inr (by show 2<=7/\7<=8;omega)) λ_=>H
  ·rw[Oz O]at s;refine m _ s rfl rfl (.inl t) rfl (λ_=>rfl) rfl (by show 10≠12/\10≠13;decide) (λq=>by simp at q) (λ_ y N n A=>?_) λq=>by have:=q.2;simp at this
   rcases H with a|⟨z,R,b2,b3,b4⟩
   ·exact .inl a
   ·exfalso;rw[N]at R;injection R with R;subst R;refine O ⟨by rw[b4];exact n,?_⟩;have hf:=hE.C6.get N;unfold fW;rw[b2,b3,hf.D8 n,Oz zP,Oz A]
 ·exact G _ _ 7 8 f (qy f) zO zO zO zO
 ·have P:x.at:=⟨zO,zO⟩;have s:=qz (c:=c) (g:=e.g) f;have w:(({x.y with B6:=9}:Wi).event 6)=⟨6,x.task,0,.zero,.zero,x.key,x.E0⟩:=rfl;rw[w]at s;rw[s]at B ⊢;have H:=h.cur j x hx zO;have ai:=h.dec j x hx zO;have D:∀k,TT c e k->TT c {e with g:={e.g with mp:=(eo c e.g.mp x.key x.E0).1}.note ⟨6,x.task,0,.zero,.zero,x.key,x.E0⟩,ws:=e.ws.set j {x.y with B6:=9},used:=e.used+1} k:=λk u=>u;refine h.Q1 hQ B hx h.over (.inl t) (by show 9≠12/\9≠13;decide) (λq=>by simp at q) (λk u=>.inl (D k u)) (λk u=>?_) (λ_ y N n A=>?_) (λq=>by have:=q.2;simp at this)
  ·have ad:k≠x.key:=by rcases u with q|q;exact q;exact absurd f q
   refine⟨?_,?_⟩
   ·show ap (eo c e.g.mp x.key x.E0).1.ls k=_;unfold eo;split
    ·rfl
    ·exact iE _ _ ad
   ·show kb (e.g.ev++[_]) k=_;rw[TU,Oz λq=>ad q.2.symm]
  ·rcases H with a|⟨z,R,b2,b3,b4⟩
   ·exact .inl (D _ a)
   ·refine .inr (.inr ⟨x.E0,?_,?_,?_⟩)
    ·show kb (e.g.ev++[_]) x.key=_;rw[TU,OB ⟨rfl,rfl⟩]
    all_goals
     have F:ap (eo c e.g.mp x.key x.E0).1.ls x.key=some y:=N;unfold eo at F;rw[R]at F;simp only[lD]at F;injection F with F;subst F
    ·show(jH c.hi z.C0 x.E0).getLast?=_;unfold jH;have bd:1<=c.hi:=by
      have:=hc0;unfold Cg.ok cA at this;simp only[OY,decide_eq_true_eq]at this;omega
     split
     ·rename_i ae;have an:z.C0≠[]:=λq=>by rw[q]at ae;simp at ae;omega
      cases hz:z.C0 with
      |nil=>exact absurd hz an
      |cons p r=>simp
     ·simp
    ·show x.E0.tick=dg z.D2;rw[ai,b2]
 ·exact v _ 9 10 f (qA f) zO zO zO zO
 ·exact G _ _ 10 11 f (oK f) zO zO zO zO
 ·have P:x.at:=⟨zO,zO⟩;have ao:=hQ.wb j x hx P;obtain⟨k1,k2,k3,k4,k5⟩:=xQ (hL.lk.same (g':=e.g.note (x.y.event 7)) rfl rfl rfl) x.key;obtain⟨d1,d2⟩:=JV ao;have af:((e.g.note (x.y.event 7)).F6 x.key).q=(e.g.q.done x.key).1:=k5;have w:x.y.event 7=⟨7,x.task,0,.zero,.zero,x.key,az⟩:=rfl;refine m _ (oL f) (by rw[af];exact d1) ?_ (.inl λq=>t ?_) k4 (λk=>?_) rfl (by show 14≠12/\14≠13;decide) (λq=>by simp at q) (λq=>zO) λq=>by have:=q.2;simp at this
  ·rw[af];unfold Qm.done;by_cases q1:x.key∈e.g.q.busy<;>by_cases S:x.key∈e.g.q.C5<;>simp[q1,S]
  ·have S:=q;unfold Gs.F6 at S;split at S
   ·exact((hL.lk.same (g':={e.g.note (x.y.event 7)with q:=((e.g.note (x.y.event 7)).q.done x.key).1}) rfl rfl rfl).F0).2.2.1 _ S
   ·exact S
  ·rw[k3];show kb (e.g.ev++[_]) k=_;rw[w,TU,Oz λq=>absurd q.1 (show ¬(7:Int)=6 by decide)]
 ·exact absurd f (h.d12 j x hx).1
 ·exact v _ 14 0 f (oN f) zO zO zO zO
def qq.new(c:Cg)(ps:List (List Cl))(n:Nat):qq c (.new c ps n):=by
 have b:∀(j:Nat) x,(En.new c ps n).ws[j]?=some x->x.B6=0:=λj x a=>by
  simp only[En.new,Pz,PB]at a;obtain⟨k,_,rfl⟩:=a;rfl
 exact⟨rfl,λq=>absurd rfl q,λj x a=>by rw[b j x a];decide,λj x a q=>by have:=b j x a;omega,λk y d=>by simp[En.new,Gs.new,Mp.new,ap]at d,λj x a q=>by have:=b j x a;omega⟩
def qq.go(hc0:c.ok)(hL:lG c e)(hQ:gb c ps e)(hE:Go.Fw.InvE c ps e)(hps:∀y∈ps.flatten,y.k≠2/\y.k≠8)(hws:0<e.ws.length)(h:qq c e)(hr:e.ready c t=true):qq c (e.go c t):=by
 rcases i6 hr with⟨x,b,a⟩|⟨j,x,rfl,b,a⟩
 ·exact h.R5 hc0 hL hQ hps hws b a
 ·exact h.stepW hc0 hL hQ hE b a
def qq.rest(hL:lG c e)(hQ:gb c ps e)(h:qq c e)(hno:∀t,t<e.count->e.ready c t=false):e.g.q.line=[]/\∀k y,ap e.g.mp.ls k=some y->y.E9=true->y.D2≠[]->Uk e.g.ev k y:=by
 obtain⟨p,r⟩:=UA hL hno;have d:∀(j:Nat) x,e.ws[j]?=some x->x.task∈e.g.B3/\x.B6=1:=λj x n=>by
  rcases r j x n with q|q
  ·exact absurd q (h.d12 j x n).2
  ·exact⟨q,TY hL n q⟩
 have m:e.g.q.line=[]:=Pg λq=>by
  obtain⟨j,x,f,l⟩:=h.M4 q;exact l (d j x f).1
 refine⟨m,λk y s u v=>?_⟩
 rcases h.look k y s u v with(a|⟨i,x,f,l,_⟩)|⟨j,x,f,l,A,B⟩|a
 ·exfalso
  rcases hQ.q.dq k a with b|b
  ·rw[m]at b;simp at b
  ·obtain⟨j,x,w,D,z⟩:=hQ.bw k b;have:=(d j x w).2;have:=z.1;omega
 ·exfalso;have o:=p i x f;unfold Ci.over at o;have:=((hL.I1 i x f).rem l).1;simp at o;omega
 ·have:=(d j x f).2;omega
 ·exact a
end
def Uf(t:Int)(l:List Vt):∀(new:List Vt),(∀y∈new,y.kind≠3\/y.task≠t)->da t ((l++new).map aK)=da t (l.map aK):=by
 intro new;induction new using Sy with
 |nil=>intro _;rw[PC]
 |append_singleton r y ih=>
  intro h;rw[<-Pv,QC,Pi,Qs,AV,Oz,ih λz b=>h z (by simp[b])];intro q
  rcases h y zS with a|a
  ·exact a q.2
  ·exact a q.1
section
variable {c:Cg} {ps:List (List Cl)} {e:En} {g':Gs} {t j:Nat}
def Ug(e:En):Prop:=∀(i:Nat) x,e.cs[i]?=some x->(da (i:Int) (e.g.ev.map aK)).length=x.nth
def UX(hL:lG c e):∃new,(bT c e.g x).1.ev=e.g.ev++new/\(((bT c e.g x).2.nth=x.nth/\(∀y∈new,y.kind≠3)/\∀y∈new,y.task=x.task)\/((bT c e.g x).2.nth=x.nth+1/\∃y,new=[y]/\y.kind=3/\y.task=x.task)):=by
 by_cases b:(opNow c x).1=1
 ·rw[tY b];split
  ·exact⟨[_],rfl,.inl ⟨rfl,by intro y a;simp at a;rw[a];simp[Ci.event],by intro y a;simp at a;rw[a];rfl⟩⟩
  ·refine⟨[({x with B8:= -1,rep:=.of (aH x.call),at_:=x.at_+1}:Ci).event 1,({x with B8:= -1,rep:=.of (aH x.call),at_:=x.at_+1}:Ci).event 2],by simp[Gs.note],.inl ⟨rfl,λy a=>?_,λy a=>?_⟩⟩
   ·simp at a
    rcases a with a|a
    ·rw[a];exact(by decide:¬(1:Int)=3)
    ·rw[a];exact(by decide:¬(2:Int)=3)
   ·simp at a
    rcases a with a|a<;>(rw[a];rfl)
 by_cases d:(opNow c x).1=2\/(opNow c x).1=3
 ·rw[pN d];exact⟨[],by rw[PC];exact(dY _ _ _ _).2.2.2,.inl ⟨rfl,zS,zS⟩⟩
 by_cases f:(opNow c x).1=4
 ·rw[tZ f];obtain⟨_,_,k⟩:=xP e.g c hL.lk x.call;exact⟨[_],by show(e.g.E6 c x.call).1.ev++_=_;rw[k],.inl ⟨rfl,by intro y a;simp at a;rw[a];simp[Ci.event],by intro y a;simp at a;rw[a];rfl⟩⟩
 by_cases h:(opNow c x).1=5
 ·rw[ua h];exact⟨[],by rw[PC];exact(dA _ _ _).2.2.2,.inl ⟨rfl,zS,zS⟩⟩
 by_cases i:(opNow c x).1=6
 ·rw[ub i];obtain⟨m,n,l,o,p⟩:=Dl hL.lk (av x.call.id);exact⟨[],by rw[PC];exact l,.inl ⟨rfl,zS,zS⟩⟩
 by_cases j:(opNow c x).1=7
 ·rw[uc j];exact⟨[_],rfl,.inr ⟨rfl,_,rfl,rfl,rfl⟩⟩
 ·have:bT c e.g x=(e.g,{x with B8:= -1,at_:=x.at_+1}):=by
   unfold bT;unfold opNow at b d f h i j;simp only[b,d,f,h,i,j,if_false]
  rw[this];exact⟨[],by rw[PC],.inl ⟨rfl,zS,zS⟩⟩
def Vb(hL:lG c e)(x:Wi):∃new,(aM c e.g x).1.ev=e.g.ev++new/\∀y∈new,y.kind≠3:=by
 have b:∀g':Gs,g'.ev=e.g.ev->∃new,g'.ev=e.g.ev++new/\∀y∈new,y.kind≠3:=λg' q=>⟨[],by rw[PC];exact q,zS⟩;have f:x.B6=0\/x.B6=1\/x.B6=2\/x.B6=3\/x.B6=4\/x.B6=5\/x.B6=6\/x.B6=7\/x.B6=8\/x.B6=9\/x.B6=10\/x.B6=11\/x.B6=12\/13<=x.B6:=zO
 rcases f with a|a|a|a|a|a|a|a|a|a|a|a|a|a
 ·rw[qo a];exact b _ (dY _ _ _ _).2.2.2
 ·cases hl:e.g.q.line with
  |nil=>
   rw[mz a hl];by_cases h:e.g.q.over=true
   ·rw[OB h];exact b _ rfl
   ·rw[Oz h];exact b _ (by show(e.g.sleep x.task).ev=_;unfold Gs.sleep;split<;>rfl)
  |cons k r=>
   rw[oJ a hl];exact⟨[_],rfl,by intro y d;simp at d;rw[d];simp[Wi.event]⟩
 ·rw[qp a];exact b _ (dA _ _ _).2.2.2
 ·rw[qr a];exact b _ (dY _ _ _ _).2.2.2
 ·rw[qt a];exact⟨[_],rfl,by intro y d;simp at d;rw[d];simp[Wi.event]⟩
 ·rw[qu a];exact b _ (dA _ _ _).2.2.2
 ·rw[qw a];split<;>exact b _ rfl
 ·rw[qy a];exact b _ (dY _ _ _ _).2.2.2
 ·rw[qz a];exact⟨[_],rfl,by intro y d;simp at d;rw[d];simp[Wi.event]⟩
 ·rw[qA a];exact b _ (dA _ _ _).2.2.2
 ·rw[oK a];exact b _ (dY _ _ _ _).2.2.2
 ·rw[oL a];obtain⟨j,l,i,m,n⟩:=xQ (hL.lk.same (g':=e.g.note (x.y.event 7)) rfl rfl rfl) x.key;exact⟨[_],i,by intro y d;simp at d;rw[d];simp[Wi.event]⟩
 ·rw[oM a];exact b _ (dA _ _ _).2.2.2
 ·have:aM c e.g x=(e.g.drop (lineN c) x.task,{x.y with B6:=0}):=by
   unfold aM;simp only[show ¬x.B6=0 by omega,show ¬x.B6=1 by omega,show ¬x.B6=2 by omega,show ¬x.B6=3 by omega,show ¬x.B6=4 by omega,show ¬x.B6=5 by omega,show ¬x.B6=6 by omega,show ¬x.B6=7 by omega,show ¬x.B6=8 by omega,show ¬x.B6=9 by omega,show ¬x.B6=10 by omega,show ¬x.B6=11 by omega,show ¬x.B6=12 by omega,if_false,Wi.y]
  rw[this];exact b _ (dA _ _ _).2.2.2
def Ug.go(hL:lG c e)(h:Ug e)(hr:e.ready c t=true):Ug (e.go c t):=by
 rcases i6 hr with⟨x,b,p⟩|⟨j,x,rfl,b,p⟩
 ·have d:=cz b;have f:=hL.J0 t x b;rw[Dn b];obtain⟨q,k,l⟩:=UX (x:=x) hL;intro i y a;show(da (i:Int) ((bT c e.g x).1.ev.map aK)).length=_;rw[k]
  rcases l with⟨m,n,r⟩|⟨m,z,n,r,s⟩
  ·rw[Uf _ _ _ λy a=>.inl (n y a)]
   rcases dp a d with⟨rfl,rfl⟩|⟨u,o⟩
   ·rw[m];exact h i x b
   ·exact h i y o
  ·subst n
   rcases dp a d with⟨rfl,rfl⟩|⟨u,o⟩
   ·rw[m,QC,Pi,Qs,AV,OB ⟨by show z.task=_;rw[s,f],r⟩,OS,h i x b];rfl
   ·rw[Uf _ _ _ λy a=>.inr (by simp at a;rw[a,s,f];omega)];exact h i y o
 ·rw[Do b];obtain⟨q,k,l⟩:=Vb hL x;intro i y a;show(da (i:Int) ((aM c e.g x).1.ev.map aK)).length=_;rw[k,Uf _ _ _ λy a=>.inl (l y a)];exact h i y a
def Ug.new(c:Cg)(ps:List (List Cl))(n:Nat):Ug (.new c ps n):=λi x a=>by
 simp only[En.new,Qw,PB]at a;obtain⟨k,_,rfl⟩:=a;rfl
end
def dK(f:Cl->Nat)(l:List Cl):Nat:=(l.map f).sum
def oW(a b:List Cl):dK f (a++b)=dK f a+dK f b:=by simp[dK]
def lZ(l:List Cl)(h:∀x∈l,f x<=F):dK f l<=l.length*F:=by
 induction l with
 |nil=>simp[dK]
 |cons a t ih=>
  have b:=ih λx c=>h x (Pm _ c);have d:=h a (Qc ..);simp only[dK,Pi,Vc,OC]at b ⊢;rw[Qj];omega
def mH(h:∀p∈ps,p.length<=F):ps.flatten.length<=ps.length*F:=by
 induction ps with
 |nil=>simp
 |cons a t ih=>
  have c:=ih λx b=>h x (Pm _ b);have d:=h a (Qc ..);simp only[Sm,OS,OC];rw[Qj];omega
def vO{ps:List (List Cl)}(h:i<ps.length):(ps.take (i+1)).flatten=(ps.take i).flatten++ps[i]:=by
 rw[OG h,Se,Sm,List.flatten_nil,PC]
def qB{c:Cg}(hc:c.ok)(x:Cl):(aF c x).length<=202:=by
 have:=vF hc x;unfold aF;split<;>simp<;>omega
def DK(hc:c.ok)(ps:List (List Cl))(A:Option Addr)(n k:Nat)(w:World)(hP:dv w A n ps)(hn:n<=32)(hall:∀p∈ps,p.length<=256/\∀x∈p,x.ok):
  C 46 #[.agg #[I c.st,I c.sa,I c.lo,I c.hi],.slice A n k] w λr w'=>r=.returned (I (stepsN c ps:Int))/\M w w':=by
 have S:=zh w (.cells #[I c.st,I c.sa,I c.lo,I c.hi] 23);have T:=Blk.A8 w 23 #[I c.st,I c.sa,I c.lo,I c.hi] rfl;have y:=hP.len;have z:=Z4 hP hall hc y;have ac:Hid (stepsN c ps=dK (λx=>(aF c x).length) (ps.take n).flatten):=Z1 (by rw[y,PO];rfl);have HO:=Z1 (λx (P:x.ok) W=>yk c hc x P W);have H0:Hid (M w (w.alloc (.cells #[I c.st,I c.sa,I c.lo,I c.hi] 23))/\Blk (w.alloc (.cells #[I c.st,I c.sa,I c.lo,I c.hi] 23)) w.heap.size 23 #[I c.st,I c.sa,I c.lo,I c.hi]):=Z1 ⟨S,T⟩;have U:∀i≤n,dK (λx=>(aF c x).length) (ps.take i).flatten<=i*(256*202):=λi hi=>by
  have h1:=lZ (λx=>(aF c x).length) 202 (ps.take i).flatten λx _=>qB hc x;have h2:=mH (ps.take i) 256 λp hp=>(hall p (Qb hp)).1;have h3:(ps.take i).length<=i:=zT;have h4:(ps.take i).length*256<=i*256:=Pr _ h3;have h5:(ps.take i).flatten.length*202<=i*256*202:=Pr _ zO;rw[QM]at h5;omega
 have HF:=Z1 U;clear hP hall hc y S T U
 go_in
 go_wp2;go_loopw [5,12] (λs i wr=>∃j q:Nat,j<=n/\i=I j/\s=I q/\Hid (q=dK (λx=>(aF c x).length) (ps.take j).flatten)/\Hid (M w wr/\Blk wr w.heap.size 23 #[I c.st,I c.sa,I c.lo,I c.hi])) (λ_ i _=>n-(intOf i).toNat)
 case atStart=>exact⟨0,0,OK _,rfl,rfl,Z1 (by simp[dK]),H0⟩
 case round=>
  obtain⟨j,q,hj,rfl,rfl,HQ,Q⟩:=hrel;by_cases ba:j<n
  ·have B:j<ps.length:=by have:=z.o.2.2.2;omega
   obtain⟨ad,A3,k3,rfl,_,v,_,_,X⟩:=(z.o.1.up Q.o.1).at_ B;have aa:=z.o.2.1 _ (OR B);have bb:(j:Int)<(n:Int):=zO;have ab:=HF.o j hj;have ah:Hid (dK (λx=>(aF c x).length) (ps.take (j+1)).flatten=q+dK (λx=>(aF c x).length) ps[j]):=Z1 (by rw[vO B,oW,HQ.o]);rw[<-HQ.o]at ab;generalize ps[j]=p at*;obtain⟨f,D⟩:∃f,f=p.length:=⟨_,rfl⟩;have R:=Z3 aa D X;have az:f<=256:=zO;have bc:q<=1654784:=by
    have:j*(256*202)<=32*(256*202):=Pr _ zO;omega
   rw[<-D]at v;clear aa D X ab;go_wp2_with fail;go_loopw [5,18] (λs i wi=>∃a e:Nat,a<=f/\i=I a/\s=I e/\Hid (e=q+dK (λx=>(aF c x).length) (p.take a))/\Hid (M w wi/\Blk wi w.heap.size 23 #[I c.st,I c.sa,I c.lo,I c.hi]/\M wr wi)) (λ_ i _=>f-(intOf i).toNat)
   case atStart=>exact⟨0,q,OK _,rfl,rfl,Z1 (by simp[dK]),Z1 ⟨Q.o.1,Q.o.2,Oy _ _⟩⟩
   case round=>
    obtain⟨a,e,bd,rfl,rfl,F,m⟩:=hrel;by_cases a0:a<f
    ·have t:a<p.length:=by have:=R.o.2.1;omega
     have G:=(R.o.2.2).up m.o.2.2;obtain⟨b,o,rfl,_,H⟩:=sf G t;have a1:(a:Int)<(f:Int):=zO;have P:=R.o.1.2 _ (OR t);have aj:Hid (dK (λx=>(aF c x).length) (p.take (a+1))=dK (λx=>(aF c x).length) (p.take a)+(aF c p[a]).length):=Z1 (by rw[OG t,oW];simp[dK]);have a2:e<=1654784+256*202:=by
      have h1:=lZ (λx=>(aF c x).length) 202 (p.take a) λx _=>qB z.o.2.2.1 x;have h2:(p.take a).length<=256:=zT;have h3:(p.take a).length*202<=256*202:=Pr _ h2;have:=F.o;omega
     generalize p[a]=x at*;have a3:=qB z.o.2.2.1 x;have d:=Z3 (show x.arr.size=11 from rfl) (mF x) (dw (cs:=x.arr) (b:=b) (o:=o+a*11) λj u h=>by have:=H j u h;rwa [<-PQ]at this);have HX:=Z1 (HO.o x P);have g:=m.o.2.1.alloc (.cells x.arr 73);have c0:=g.cell 0;have c1:=g.cell 1;have c2:=g.cell 2;have c3:=g.cell 3;generalize L:x.arr=cs at*;have HG:=Z1 L;clear H P v L g G
     go_wp2_with (first|(refine aG dU rfl (.tmp 20) rfl (Y b (o+a*11)) zF cs d.o.1 d.o.2.2 ?_)|(refine aS dU rfl rfl ?_)|(refine aT dU rfl (.tmp 9) (.tmp 21) rfl _ rfl zF cs _ zF _ d.o.1 dU.D6 d.o.2.1 ?_)|(refine aG dU rfl (.tmp 9) rfl (Y wr.heap.size 0) zF cs d.o.1 (ff _ _ _) ?_))
     have N:=HX.o (wr.alloc (.cells cs 73));rw[Cl.val,HG.o]at N;refine zX N λv6 w6 l=>?_;obtain⟨A6,k6,rfl,_,_⟩:=ak l.own;have ao:=Z3 (af (ae m.o.1 (.cells cs 73)) l.below) ((m.o.2.1.alloc (.cells cs 73)).later l.below) (af (ae m.o.2.2 (.cells cs 73)) l.below);generalize (aF c x).length=ln at*;have be:IntKind.i64.wrap ((e:Int)+(ln:Int))=((e+ln:Nat):Int):=by rw[OX];omega
     clear l N c0 c1 c2 c3;go_wp2;go_roundw
     case rel=>exact⟨a+1,e+ln,zO,by go_num,by go_num,Z1 (by rw[aj.o,F.o];omega),ao⟩
     case measure=>simp[intOf];omega
    ·obtain rfl:f=a:=zO;have O:e=q+dK (λx=>(aF c x).length) p:=by
      have:=F.o;rw[OT (by have:=R.o.2.1;omega)]at this;exact this
     have ap:=Z1 O;clear O;go_wp2;go_roundw
     case rel=>exact⟨j+1,e,zO,by go_num,rfl,Z1 (by rw[ah.o,ap.o]),Z1 ⟨m.o.1,m.o.2.1⟩⟩
     case measure=>simp[intOf];omega
  ·obtain rfl:n=j:=zO;go_wp2;go_ret;exact⟨by rw[ac.o,HQ.o];rfl,Q.o.1⟩
def DL(k:Nat)(w:World)(hP:dv w A n ps)(hn:n<=32)(hall:∀p∈ps,p.length<=256/\∀x∈p,x.ok):
  C 47 #[.slice A n k] w λr w'=>r=.returned (I (stirsN ps:Int))/\M w w':=by
 have D:=hP.len;have HI:=Z4 hP hall True.intro D;have am:Hid (stirsN ps=dK ee (ps.take n).flatten):=Z1 (by rw[D,PO];rfl);have HO:=Z1 (λ(x:Cl) (T:x.ok) W=>oy x T.L7 W);have F:∀x:Cl,ee x<=1:=λx=>by unfold ee;split<;>omega
 have aa:∀i≤n,dK ee (ps.take i).flatten<=i*(256*1):=λi hi=>by
  have h1:=lZ ee 1 (ps.take i).flatten λx _=>F x;have h2:=mH (ps.take i) 256 λp hp=>(hall p (Qb hp)).1;have h3:(ps.take i).length<=i:=zT;have h4:(ps.take i).length*256<=i*256:=Pr _ h3;have h5:(ps.take i).flatten.length*1<=i*256*1:=Pr _ zO;rw[QM]at h5;omega
 have HF:=Z1 aa;clear hP hall D aa
 go_in
 go_wp2;go_loopw [3,10] (λs i wr=>∃j q:Nat,j<=n/\i=I j/\s=I q/\Hid (q=dK ee (ps.take j).flatten)/\Hid (M w wr)) (λ_ i _=>n-(intOf i).toNat)
 case atStart=>exact⟨0,0,OK _,rfl,rfl,Z1 (by simp[dK]),Z1 (Oy _ _)⟩
 case round=>
  obtain⟨j,q,hj,rfl,rfl,HQ,HW⟩:=hrel;by_cases bd:j<n
  ·have G:j<ps.length:=by have:=HI.o.2.2.2;omega
   obtain⟨ad,A3,k3,rfl,_,B,_,_,ab⟩:=(HI.o.1.up HW.o).at_ G;have ac:=HI.o.2.1 _ (OR G);have be:(j:Int)<(n:Int):=zO;have ag:=HF.o j hj;have ap:Hid (dK ee (ps.take (j+1)).flatten=q+dK ee ps[j]):=Z1 (by rw[vO G,oW,HQ.o]);rw[<-HQ.o]at ag;generalize ps[j]=p at*;obtain⟨m,H⟩:∃m,m=p.length:=⟨_,rfl⟩;have U:=Z3 ac H ab;have a5:m<=256:=zO;have bf:q<=8192:=by
    have:j*(256*1)<=32*(256*1):=Pr _ zO;omega
   rw[<-H]at B;clear ac H ab ag;go_wp2_with fail;go_loopw [3,16] (λs i wi=>∃c d:Nat,c<=m/\i=I c/\s=I d/\Hid (d=q+dK ee (p.take c))/\Hid (M w wi/\M wr wi)) (λ_ i _=>m-(intOf i).toNat)
   case atStart=>exact⟨0,q,OK _,rfl,rfl,Z1 (by simp[dK]),Z1 ⟨HW.o,Oy _ _⟩⟩
   case round=>
    obtain⟨c,d,bg,rfl,rfl,t,X⟩:=hrel;by_cases a6:c<m
    ·have y:c<p.length:=by have:=U.o.2.1;omega
     have L:=(U.o.2.2).up X.o.2;obtain⟨b,o,rfl,_,N⟩:=sf L y;have a7:(c:Int)<(m:Int):=zO;have T:=U.o.1.2 _ (OR y);have z:Hid (dK ee (p.take (c+1))=dK ee (p.take c)+ee p[c]):=Z1 (by rw[OG y,oW];simp[dK]);have a8:d<=8192+256:=by
      have h1:=lZ ee 1 (p.take c) λx _=>F x;have h2:(p.take c).length<=256:=zT;have:=t.o;omega
     generalize p[c]=x at*;have a9:=F x;have bh:(wr.alloc (.cells x.arr 73)).cell? (Y wr.heap.size 0)=some (I x.k):=(Blk.A8 wr 73 x.arr rfl).cell 0;have a:=Z3 (show x.arr.size=11 from rfl) (mF x) (dw (cs:=x.arr) (b:=b) (o:=o+c*11) λj u h=>by have:=N j u h;rwa [<-PQ]at this);have HX:=Z1 (HO.o x T);generalize O:x.arr=cs at*;have HG:=Z1 O;have P:Hid (ee x=if(x.k=1\/x.k=6)/\aH x=0 then 1 else 0):=Z1 rfl;have ah:Hid (C 95 #[.agg cs] (wr.alloc (.cells cs 73)) λe w'=>e=.returned (I (aH x))/\Below (wr.alloc (.cells cs 73)).heap.size (wr.alloc (.cells cs 73)) w'):=Z1 (by
      have:=HX.o (wr.alloc (.cells cs 73));rw[Cl.val,HG.o]at this;exact this)
     have v:=Z2 (ae X.o.1 (.cells cs 73)) (ae X.o.2 (.cells cs 73));generalize aH x=ce at*;generalize x.k=g at*;generalize ee x=sx at*;have bi:IntKind.i64.wrap ((d:Int)+1)=((d+1:Nat):Int):=by rw[OX];omega
     clear N T B O L;by_cases hk:g=1\/g=6
     ·have l:Hid (sx=if ce=0 then 1 else 0):=Z1 (by rw[P.o];simp[hk]);have ai:g=1\/(g==1)=false/\(g==6)=true:=by
       by_cases h:g=1
       ·exact .inl h
       ·have:g=6:=zO;subst this;exact .inr ⟨rfl,rfl⟩
      by_cases Q:ce=0
      ·subst Q
       rcases ai with rfl|⟨aj,ak⟩
       all_goals
        go_wp2_with (first|(refine aG dU rfl (.tmp 18) rfl (Y b (o+c*11)) zF cs a.o.1 a.o.2.2 ?_)|(refine aS dU rfl rfl ?_)|(refine aT dU rfl (.tmp 7) (.tmp 19) rfl _ rfl zF cs _ zF _ a.o.1 dU.D6 a.o.2.1 ?_)|(refine fh dU zF (.tmp 7) rfl (Y wr.heap.size 0) zF cs a.o.1 (ff _ _ _) ?_))
        refine zm ah.o λw6 f=>?_;have R:=Z2 (af v.o.1 f) (af v.o.2 f);clear f;go_wp2;go_roundw
        case rel=>exact⟨c+1,d+1,zO,by go_num,by go_num,Z1 (by rw[z.o,t.o,l.o];first|(simp;done)|(simp;omega)),R⟩
        case measure=>simp[intOf];omega
      ·have bj:(ce==0)=false:=by simpa using Q
       rcases ai with rfl|⟨aj,ak⟩
       all_goals
        go_wp2_with (first|(refine aG dU rfl (.tmp 18) rfl (Y b (o+c*11)) zF cs a.o.1 a.o.2.2 ?_)|(refine aS dU rfl rfl ?_)|(refine aT dU rfl (.tmp 7) (.tmp 19) rfl _ rfl zF cs _ zF _ a.o.1 dU.D6 a.o.2.1 ?_)|(refine fh dU zF (.tmp 7) rfl (Y wr.heap.size 0) zF cs a.o.1 (ff _ _ _) ?_))
        refine zm ah.o λw6 f=>?_;have R:=Z2 (af v.o.1 f) (af v.o.2 f);clear f;go_wp2;go_roundw
        case rel=>exact⟨c+1,d,zO,by go_num,rfl,Z1 (by rw[z.o,t.o,l.o,Oz Q];omega),R⟩
        case measure=>simp[intOf];omega
     ·have aj:(g==1)=false:=zT;have ak:(g==6)=false:=zT;have l:Hid (sx=0):=Z1 (by rw[P.o,Oz λh=>hk h.1])
      go_wp2_with (first|(refine aG dU rfl (.tmp 18) rfl (Y b (o+c*11)) zF cs a.o.1 a.o.2.2 ?_)|(refine aS dU rfl rfl ?_)|(refine aT dU rfl (.tmp 7) (.tmp 19) rfl _ rfl zF cs _ zF _ a.o.1 dU.D6 a.o.2.1 ?_)|(refine fh dU zF (.tmp 7) rfl (Y wr.heap.size 0) zF cs a.o.1 (ff _ _ _) ?_))
      go_roundw
      case rel=>exact⟨c+1,d,zO,by go_num,rfl,Z1 (by rw[z.o,t.o,l.o];omega),v⟩
      case measure=>simp[intOf];omega
    ·obtain rfl:m=c:=zO;have S:d=q+dK ee p:=by
      have:=t.o;rw[OT (by have:=U.o.2.1;omega)]at this;exact this
     have aw:=Z1 S;clear S;go_wp2;go_roundw
     case rel=>exact⟨j+1,d,zO,by go_num,rfl,Z1 (by rw[ap.o,aw.o]),Z1 X.o.1⟩
     case measure=>simp[intOf];omega
  ·obtain rfl:n=j:=zO;go_wp2;go_ret;exact⟨by rw[am.o,HQ.o];rfl,HW.o⟩
def TW(ps:List (List Cl))(kd:Int):Bool:=ps.any λp=>p.any λx=>x.k==kd
def US(A:Option Addr)(n k:Nat)(w:World)(hP:dv w A n ps)(hn:n<=1000000)(hall:∀p∈ps,p.length<=1000):
  C 14 #[.slice A n k,I kd] w λr w'=>r=.returned (.bool (TW ps kd))/\M w w':=by
 have L:=hP.len;have F:=Z3 hP hall L;clear hP hall L
 go_in
 go_wp2;go_loopw [11] (λi wr=>∃j:Nat,j<=n/\i=I j/\Hid (TW (ps.take j) kd=false)/\Hid (M w wr)) (λi _=>n-(intOf i).toNat)
 case atStart=>exact⟨0,OK _,rfl,Z1 rfl,Z1 (Oy _ _)⟩
 case round=>
  obtain⟨j,hj,rfl,R,Q⟩:=hrel;by_cases ai:j<n
  ·have g:j<ps.length:=by have:=F.o.2.2;omega
   obtain⟨ad,A3,k3,rfl,_,l,_,_,N⟩:=(F.o.1.up Q.o).at_ g;have S:=F.o.2.1 _ (OR g);have aj:(j:Int)<(n:Int):=zO;have m:TW (ps.take (j+1)) kd=ps[j].any λx=>x.k==kd:=by
    rw[OG g];have:=R.o;unfold TW at this ⊢;rw[List.any_append,this];simp
   have s:(ps[j].any λx=>x.k==kd)=true->TW ps kd=true:=λq=>by
    unfold TW;exact Sq.2 ⟨_,OR g,q⟩
   generalize ps[j]=p at*;obtain⟨e,t⟩:∃e,e=p.length:=⟨_,rfl⟩;have v:=Z4 m t N s;have ab:e<=1000:=zO;rw[<-t]at l;clear S t N m s;go_wp2_with fail;go_loopw [17] (λi T=>∃c:Nat,c<=e/\i=I c/\Hid (((p.take c).any λx=>x.k==kd)=false)/\Hid (M w T/\M wr T)) (λi _=>e-(intOf i).toNat)
   case atStart=>exact⟨0,OK _,rfl,Z1 rfl,Z1 ⟨Q.o,Oy _ _⟩⟩
   case round=>
    obtain⟨c,ak,rfl,O,G⟩:=hrel;by_cases ac:c<e
    ·have f:c<p.length:=by have:=v.o.2.1;omega
     have y:=(v.o.2.2.1).up G.o.2;obtain⟨b,o,rfl,_,z⟩:=sf y f;have af:(c:Int)<(e:Int):=zO;have B:Hid (((p.take (c+1)).any λx=>x.k==kd)=(p[c].k==kd)):=Z1 (by rw[OG f,List.any_append,O.o];simp);have D:Hid (p[c].k=kd->(p.any λx=>x.k==kd)=true):=Z1 λq=>Sq.2 ⟨_,OR f,by simp[q]⟩;generalize p[c]=x at*;have al:(wr.alloc (.cells x.arr 73)).cell? (Y wr.heap.size 0)=some (I x.k):=(Blk.A8 wr 73 x.arr rfl).cell 0;have a:=Z3 (show x.arr.size=11 from rfl) (mF x) (dw (cs:=x.arr) (b:=b) (o:=o+c*11) λj u h=>by have:=z j u h;rwa [<-PQ]at this);have P:=Z2 (ae G.o.1 (.cells x.arr 73)) (ae G.o.2 (.cells x.arr 73));generalize x.arr=cs at*;generalize x.k=U at*;clear z l y;by_cases H:U=kd
     ·have HY:=Z1 (v.o.2.2.2 (D.o H));subst H;clear D
      go_wp2_with (first|(refine aG dU rfl (.tmp 19) rfl (Y b (o+c*11)) zF cs a.o.1 a.o.2.2 ?_)|(refine aS dU rfl rfl ?_)|(refine aT dU rfl (.tmp 8) (.tmp 20) rfl _ rfl zF cs _ zF _ a.o.1 dU.D6 a.o.2.1 ?_))
      go_ret;exact⟨by rw[HY.o];rfl,P.o.1⟩
     ·have X:(U==kd)=false:=by simpa using H
      rw[X]at B;clear H
      go_wp2_with (first|(refine aG dU rfl (.tmp 19) rfl (Y b (o+c*11)) zF cs a.o.1 a.o.2.2 ?_)|(refine aS dU rfl rfl ?_)|(refine aT dU rfl (.tmp 8) (.tmp 20) rfl _ rfl zF cs _ zF _ a.o.1 dU.D6 a.o.2.1 ?_))
      go_roundw
      case rel=>exact⟨c+1,zO,by go_num,B,P⟩
      case measure=>simp[intOf];omega
    ·obtain rfl:e=c:=zO;have d:TW (ps.take (j+1)) kd=false:=by
      rw[v.o.1];have:=O.o
      rwa [OT (by have:=v.o.2.1;omega)]at this
     have aa:=Z1 d;clear d;go_wp2;go_roundw
     case rel=>exact⟨j+1,zO,by go_num,aa,Z1 G.o.1⟩
     case measure=>simp[intOf];omega
  ·obtain rfl:n=j:=zO;have d:TW ps kd=false:=by
    have:=R.o
    rwa [F.o.2.2,PO]at this
   have HX:=Z1 d;clear d;go_wp2;go_ret;exact⟨by rw[HX.o];rfl,Q.o⟩
structure TX(c:Cg)(ps:List (List Cl))(m:Nat)(e:En)(j:Nat):Prop where
 inv:dI c ps e
 rep:Ug e
 pot:phi c e+j<=mostN c ps m
 used:e.used<=j
 count:e.count=ps.length+m
 cs:e.cs.length=ps.length
 ws:e.ws.length=m
 live:(∀y∈ps.flatten,y.k≠2/\y.k≠8)->0<m->qq c e
section
variable {c:Cg} {ps:List (List Cl)} {e:En} {m t j:Nat}
def TX.new(hp:ge c ps)(hn:ps.length+m<=32):TX c ps m (.new c ps m) 0:=
 ⟨dI.new hp m hn,Ug.new c ps m,by have:=UW hp.cfg ps m;omega,by simp[En.new],by simp[En.new,En.count],by simp[En.new],by simp[En.new],λ_ _=>qq.new c ps m⟩
def TX.go(hp:ge c ps)(hm:mostN c ps m<=30000)(h:TX c ps m e j)(hr:e.ready c t=true):TX c ps m (e.go c t) (j+1):=by
 have d:e.used<=30000:=by have:=h.pot;have:=h.used;omega
 obtain⟨f,g,i,k⟩:=KK (c:=c) (e:=e) t;refine⟨h.inv.go hp d hr,h.rep.go h.inv.L hr,?_,by have:=h.used;omega,f.trans h.count,g.trans h.cs,i.trans h.ws,λa b=>(h.live a b).go hp.cfg h.inv.L h.inv.Q h.inv.E a (by rw[h.ws];exact b) hr⟩;have l:=UZ hp.cfg h.inv.L h.inv.Q hr;have n:=h.pot;omega
def TX.step(hp:ge c ps)(hm:mostN c ps m<=30000)(h:TX c ps m e j){p:Int}(hn:e.next c p≠none):TX c ps m (ja c e p) (j+1):=by
 obtain⟨t,a⟩:=Option.ne_none_iff_exists'.1 hn;have b:ja c e p=e.go c t:=by unfold ja;rw[a]
 rw[b];exact h.go hp hm (vn a).1
def Ut(o:Nat->Bool):∀n,(∀i,i<n->o i=true)->cntN o n=0
 |0,_=>rfl
 |n+1,h=>by
  show cntN o n+_=0;rw[Ut o n λi hi=>h i zO,h n zO];rfl
def TX.rest(h:TX c ps m e j)(hno:∀t,t<e.count->e.ready c t=false):openN e=0/\(∀(i:Nat) (hi:i<ps.length),(da (i:Int) (e.g.ev.map aK)).length=ps[i].length):=by
 obtain⟨f,_⟩:=UA h.inv.L hno;refine⟨Ut _ _ λi hi=>?_,λi hi=>?_⟩
 ·rw[OL hi];exact f i _ (OL hi)
 ·have k:i<e.cs.length:=by rw[h.cs];exact hi
  have b:=OL k;have d:=f i _ b;have a:=h.inv.Q.prog i _ b;rw[OL hi]at a;injection a with a;have l:=(h.inv.L.I1 i _ b).nth;rw[h.rep i _ b,a];unfold Ci.over at d;simp at d;omega
def UT(hc:c.ok)(h1:ps.length<=5)(h2:∀p∈ps,p.length<=8)(h3:m<=4):mostN c ps m<=30000:=by
 have b:=mH ps 8 h2;have d:=lZ (λx=>(aF c x).length) 202 ps.flatten λx _=>qB hc x;have e:=lZ ee 1 ps.flatten λx _=>by unfold ee;split<;>omega
 have f:stepsN c ps=dK (λx=>(aF c x).length) ps.flatten:=rfl;have g:stirsN ps=dK ee ps.flatten:=rfl;unfold mostN;have a:ps.flatten.length<=40:=zO;have h:ps.flatten.length*202<=40*202:=Pr _ a;omega
def UO{kd:Int}(h:TW ps kd=false):∀y∈ps.flatten,y.k≠kd:=λy b e=>by
 obtain⟨p,c,a⟩:=Sv.1 b;have:TW ps kd=true:=by
  unfold TW;exact Sq.2 ⟨p,c,Sq.2 ⟨y,a,by simp[e]⟩⟩
 rw[h]at this
 cases this
end
def Uw(st sa lo hi:Int)(ps:List (List Cl))(A:Option Addr)(n k:Nat)(wk:Int)(hP:dv w A n ps)(hn:n<=1000000)(hwk:aq wk)(h0:cj st sa lo hi ps wk≠0):
  C 9 #[.agg #[I st,I sa,I lo,I hi],.slice A n k,I wk] w λr w'=>r=.returned (.tuple #[I 0,I (cj st sa lo hi ps wk)])/\M w w':=by
 have a:=zh w (.cells #[I st,I sa,I lo,I hi] 23);have f:=Z1 (λW (hW:M w W)=>oU st sa lo hi ps A n k wk W (hP.up hW) hn hwk);generalize cj st sa lo hi ps wk=e at*;have g:(e==0)=false:=by simpa using h0
 have c:=Z1 a;clear hP h0 a
 go_in
 go_wp2_with fail;refine(f.o _ c.o).mono ?_;rintro h i ⟨rfl,b⟩;have d:=Z1 (af c.o b);clear b;go_wp2;exact OH (results_tmp2 rfl _ _ _) rfl ⟨rfl,d.o⟩
def GP{c:Cg}(hc:c.ok){ps:List (List Cl)}(hn:ps.length<=32)(hall:∀p∈ps,p.length<=256):stepsN c ps<=1654784:=by
 have a:=lZ (λx=>(aF c x).length) 202 ps.flatten λx _=>qB hc x;have b:=mH ps 256 hall;have d:ps.length*256<=32*256:=Pr _ hn;have e:ps.flatten.length*202<=8192*202:=Pr _ zO;have:stepsN c ps=dK (λx=>(aF c x).length) ps.flatten:=rfl;omega
def GQ{ps:List (List Cl)}(hn:ps.length<=32)(hall:∀p∈ps,p.length<=256):stirsN ps<=8192:=by
 have a:=lZ ee 1 ps.flatten λx _=>by unfold ee;split<;>omega
 have b:=mH ps 256 hall;have c:ps.length*256<=32*256:=Pr _ hn;have:stirsN ps=dK ee ps.flatten:=rfl;omega
def GR(hc:c.ok)(ps:List (List Cl))(A:Option Addr)(n k m:Nat)(hP:dv w A n ps)(hn:ps.length+m<=32)(hall:∀p∈ps,p.length<=256/\∀x∈p,x.ok)(h0:cj c.st c.sa c.lo c.hi ps m=0):
  C 9 #[.agg #[I c.st,I c.sa,I c.lo,I c.hi],.slice A n k,I m] w λr w'=>r=.returned (.tuple #[I (mostN c ps m:Int),I 0])/\M w w':=by
 have e:=zh w (.cells #[I c.st,I c.sa,I c.lo,I c.hi] 23);have f:=Blk.A8 w 23 #[I c.st,I c.sa,I c.lo,I c.hi] rfl;have s:=hP.len;have t:=Z1 (λW (hW:M w W)=>oU c.st c.sa c.lo c.hi ps A n k m W (hP.up hW) zO (by unfold aq;omega));rw[h0]at t;have v:=Z1 (λW (hW:M w W)=>DK c hc ps A n k W (hP.up hW) zO hall);have y:=Z1 (λW (hW:M w W)=>DL ps A n k W (hP.up hW) zO hall);have N:=GP hc zO λp j=>(hall p j).1;have O:=GQ (ps:=ps) zO λp j=>(hall p j).1;have z:Hid (mostN c ps m=stepsN c ps+16*stirsN ps+6*m):=Z1 rfl;generalize mostN c ps m=B at*;generalize stepsN c ps=l at*;generalize stirsN ps=b at*;have D:m<=32:=zO;have P:IntKind.i64.wrap (16*(b:Int))=16*(b:Int):=by rw[OX];omega
 have Q:IntKind.i64.wrap ((l:Int)+16*(b:Int))=(l:Int)+16*(b:Int):=by rw[OX];omega
 have R:IntKind.i64.wrap (6*(m:Int))=6*(m:Int):=by rw[OX];omega
 have S:IntKind.i64.wrap ((l:Int)+16*(b:Int)+6*(m:Int))=(B:Int):=by have:=z.o;rw[OX];omega
 have q:=Z2 e f;clear hP h0 e f hc hall hn s
 go_in
 go_wp2_with fail;refine zm (t.o _ q.o.1) λT d=>?_;have a:=Z2 (af q.o.1 d) (q.o.2.later d);clear d;have F:=a.o.2.cell 0;have G:=a.o.2.cell 1;have H:=a.o.2.cell 2;have L:=a.o.2.cell 3;go_wp2_with fail;refine zm (v.o _ a.o.1) λU g=>?_;have h:=Z1 (af a.o.1 g);clear g F G H L;go_wp2_with fail;refine zm (y.o _ h.o) λX i=>?_;have u:=Z1 (af h.o i);clear i;go_wp2;exact OH (results_tmp2 rfl _ _ _) rfl ⟨rfl,u.o⟩
def yE:(finL c ps m raw).length=mostN c ps m+1:=pd _ _ _
def MP(h0:0<ps.length+m)(h1:ps.length+m<=32):∀p∈finL c ps m raw,aq p:=λp a=>by
 have:=vM (ps.length+m) zO raw _ p a;unfold aq;omega
def AU(hp:ge c ps)(A Ap:Option Addr)(n k kp m:Nat)(hP:dv w A n ps)(hn:ps.length+m<=32)(hn0:0<ps.length+m)(hall:∀p∈ps,p.length<=256/\∀x∈p,x.ok)(h0:cj c.st c.sa c.lo c.hi ps m=0)
  (raw:List Int)(hl:∀p∈raw,aq p)(hr:an w w.heap.size 1 Ap raw.length (i64s raw))(hrl:raw.length<=100000)(hu:mostN c ps m+1<=30000):
  C 42 #[.agg #[I c.st,I c.sa,I c.lo,I c.hi],.slice A n k,I m,.slice Ap raw.length kp] w λr w'=>∃ve vq,r=.returned (.tuple #[.agg (pT ve vq (j9 c ps m raw) (decide (gQ c (j9 c ps m raw) 0<0))),I 0])/\
   w'.ownsRow w.heap.size 79 34 ve (j9 c ps m raw).g.ev.length (vts (j9 c ps m raw).g.ev)/\w'.ownsRow w.heap.size 58 2 vq (j9 c ps m raw).g.q.line.length (cG (j9 c ps m raw).g.q.line)/\M w w':=by
 have s:=hP.len;have D:=ae (zh w (.cells #[I c.st,I c.sa,I c.lo,I c.hi] 23)) (.cells kG 38);have F:=Blk.A8 (w.alloc (.cells #[I c.st,I c.sa,I c.lo,I c.hi] 23)) 38 kG (g:=w.heap.size+1) zS;have G:=(Blk.A8 w 23 #[I c.st,I c.sa,I c.lo,I c.hi] rfl).alloc (.cells kG 38);have HM:=Z1 (λW (hW:M w W)=>GR W c hp.cfg ps A n k m (hP.up hW) hn hall h0);have T:Hid (∀W,M w W->C 91 #[I ((ps.length+m:Nat):Int),I ((mostN c ps m+1:Nat):Int),.slice Ap raw.length kp] W λe w'=>∃v,e=.returned v/\aL 1 W w' 3 v (mostN c ps m+1) (i64s (finL c ps m raw))):=Z1 λW hW=>by
  have h:=GO (ps.length+m) ((mostN c ps m+1:Nat):Int) raw Ap kp W (hr.up hW) hl zO hn zO hrl;rw[PH]at h;exact h
 have X:=Z1 (λW (hW:M w W) A2 k2 (ab:an W W.heap.size 1 A2 (mostN c ps m+1) (i64s (finL c ps m raw)))=>tj W c ps hp A A2 n k (mostN c ps m+1) k2 m (hP.up hW) hn hn0 h0 (finL c ps m raw) (MP c ps m raw hn0 hn) ab hu);have H:En.run c (.new c ps m) (finL c ps m raw)=j9 c ps m raw:=rfl;rw[H]at X;generalize j9 c ps m raw=e at*;generalize ac:mostN c ps m=mo at*;rw[<-s]at T;have ao:IntKind.i64.wrap ((n:Int)+(m:Int))=((n+m:Nat):Int):=by rw[OX];omega
 have ap:IntKind.i64.wrap ((mo:Int)+1)=((mo+1:Nat):Int):=by rw[OX];omega
 have B:=Z4 D F G s;clear hP h0 D F G hp hn hn0 hall hl hr hrl hu s H ac
 go_in
 go_wp2_with fail;refine zm (HM.o _ B.o.1) λw1 j=>?_;have i:=Z3 (af B.o.1 j) (B.o.2.1.later j) (B.o.2.2.1.later j);clear j;have Q:=i.o.2.2.drew;go_upto_region 4 with fail
 refine bW 14 (S:=λU=>Blk U w.heap.size 23 #[I c.st,I c.sa,I c.lo,I c.hi]) zR zR Q ?_;simp only[OM,OO,ON,OQ];try simp only[zD,zE,Nat.reduceAdd,zG]
 refine zQ 0 _ ?_ (hy:=λW hW=>by refine bE ye (.tmp 4) ?_ (Y w.heap.size 0) ?_ #[I c.st,I c.sa,I c.lo,I c.hi] rfl ?_;exact rfl;exact rfl;exact bQ hW);refine zo 10 λK hK=>?_;go_simp;refine zX (T.o _ i.o.1.drew) λv3 w3 d=>?_;obtain⟨A3,k3,rfl,_,_,t⟩:=d.form;have u:=Q.later d.below;refine zJ hK u ?_;refine zo 11 λK hK=>?_;go_simp
 (refine(X.o _ (af i.o.1.drew d.below) A3 k3 t).mono ?_)
 rintro e4 w4 ⟨ve,vq,rfl,L,N,l⟩;have O:=u.later l;refine zJ hK O ?_;rw[bI];have a:=Z4 (af (af i.o.1.drew d.below) l) (aP L (af i.o.1.drew d.below).size) (aP N (af i.o.1.drew d.below).size) ((i.o.2.1.drew.later d.below).later l);clear L N l d t Q u O;generalize P:pT ve vq e (decide (gQ c e 0<0))=R at*;have y:R.size=5/\R.all (·.oneCell')=true:=by
  rw[<-P];have h1:=ak a.o.2.1;have h2:=ak a.o.2.2.1;obtain⟨_,_,rfl,_⟩:=h1;obtain⟨_,_,rfl,_⟩:=h2;exact⟨rfl,by simp[pT,Value.oneCell']⟩
 refine zj j8 (cs:=R) (hn:=y.1) (h1:=y.2) a.o.2.2.2 ?_;intro w9 ag z;go_wp2;refine OH (cx j8 rfl ag y.1 _ rfl) rfl ⟨ve,vq,by rw[P];rfl,?_,?_,z.below a.o.1 zO⟩
 ·exact z.B7.C8 a.o.2.1 λb e f=>aB a.o.2.1 a.o.2.2.2 zP (f▸e)
 ·exact z.B7.C8 a.o.2.2.1 λb e f=>aB a.o.2.2.1 a.o.2.2.2 zP (f▸e)
section
open Go.Maps Go.Sort Go.Shelf
def GS:Result Next->Bool
 | .ok (.enter _ _) _=>false
 | .ok (.row _ _) _=>false
 |_=>true
def MQ{F:Fence}{n:Nat}{P:Program}{o:Oper}{a:Act}{K:Act->World->Prop}{Q:Exit->Act->World->Prop}{r:Result Next}(hq:GS r=true)(h:o.upon P a K Q r):o.uponIn F n P a K Q r:=by
 unfold Oper.upon at h;unfold Oper.uponIn;split at h
 ·exact h
 ·exact h
 ·exact h
 ·cases hq
 ·cases hq
 ·exact h
 ·exact h.elim
def qC:Op->Bool
 | .load _ _=>true
 | .alloc _=>true
 | .store _ _ _=>true
 |_=>false
def GT{P:Program}{ρ:Operand->Value}{o:Oper}(h:qC o.op=true)(w:World):GS ((execOp ρ o).run P w)=true:=by
 unfold execOp
 cases ho:o.op<;>simp only[ho,qC]at h<;>first|cases h|skip
 all_goals
  simp only[Sem.run_bind];generalize Sem.run P _ w=r
  cases r<;>rfl
def nD{F:Fence}{n:Nat}{P:Program}{o:Oper}{ops:Array Oper}{rest:List Oper}{a:Act}{w:World}{Q:Exit->Act->World->Prop}(hgd:o.guard=none)(hq:qC o.op=true)
  (h:∀K:Act->World->Prop,(∀a' w',wpListIn F n P ops Q rest a' w'->K a' w')->o.wp P a w K Q):wpListIn F n P ops Q (o::rest) a w:=by
 refine wpListIn_plain hgd λK hK=>?_;have b:=h K hK;unfold Oper.wp at b;unfold Oper.wpIn;refine⟨λf d=>?_,?_⟩
 ·unfold Oper.about at d
  cases ho:o.op<;>simp[ho,qC]at hq d
 ·rw[Oper.semAt_plain F _ _ (λc e=>by rw[e]at hq;cases hq)];exact MQ (GT hq w) b
variable {F:Fence} {m n:Nat} {P:Program} {T:TypeId} {ops:Array Oper} {rest:List Oper} {o:Oper} {a:Act} {w:World} {Q:Exit→Act→World→Prop}
def rW(hT:cU P T n)(hgd:o.guard=none)(x:Operand)(ho:o.op=.load T x)
  (ad:Addr)(hx:a.eval x=.pointer (some ad))(cs:Array Value)(hn:cs.size=n)(hc:∀j v,cs.toList[j]?=some v->w.cell? (ad.add j)=some v)(h:wpListIn F m P ops Q rest (a.put o.dst (.agg cs)) w):wpListIn F m P ops Q (o::rest) a w:=
 nD hgd (by rw[ho];rfl) λK hK=>nU hT x ho ad hx cs hn hc (hK _ _ h)
def pV(hT:cU P T n)(hgd:o.guard=none)(ho:o.op=.alloc T)
  (h:wpListIn F m P ops Q rest (a.put o.dst (Z w.heap.size 0)) (w.alloc (.cells (zc P T) T))):wpListIn F m P ops Q (o::rest) a w:=
 nD hgd (by rw[ho];rfl) λK hK=>pg hT ho (hK _ _ h)
def iz(hT:cU P T n)(hgd:o.guard=none)(x y:Operand)(ho:o.op=.store T x y)(g:Nat)(hx:a.eval x=Z g 0)(cs:Array Value)(hy:a.eval y=.agg cs)
  {t:TypeId}{E8:Array Value}(hb:Blk w g t E8)(hn:cs.size=n)(hold:E8.size=n)(h1:cs.all (·.oneCell')=true)
  (h:∀w',Blk w' g t cs->aI g w w'->wpListIn F m P ops Q rest (a.put o.dst undef) w'):wpListIn F m P ops Q (o::rest) a w:=
 nD hgd (by rw[ho];rfl) λK hK=>bX hT x y ho g 0 hx cs hy hb hn zO h1 λw' b c=>hK _ _ (h w' (by rwa [pi _ _ zO]at b) c)
end
section
open Go.Maps Go.Sort Go.Shelf
set_option maxRecDepth 100000
attribute [local go_sem] Oper.semAt_some
def fS(l:List Vt):List (Int×Vt):=(l.mapIdx λi x=>((i:Int),x)).reverse
def pW:(fS l).length=l.length:=by simp[fS]
def GU{l:List Vt}{m k:Nat}(h:l.length=m+1+k)(hk:k<(fS l).length)(hm:m<l.length):(fS l)[k]=((m:Int),l[m]):=by
 have:l.length-1-k=m:=zO;simp[fS,this]
def GV(hn:1<=n)(l Bb tb:Nat)(A:Option Addr)(cp:Nat)(es:List Vt)(S:Nat->Prop)(hSb:S Bb)(hSA:∀ad,A=some ad->0<es.length->S ad.block)(hfew:es.length<=100000)(J Jx:List (Int×Vt)->World->Prop)(W:World)
  (hY:∀pre x W1,J pre W1->pre.length<(fS es).length->YieldAt Fence.wide (n-1) prog l #[I x.1,.agg x.2.arr] W1 λe W'=>
   (e=.returned (.bool true)/\J (pre++[x]) W'/\KpQ S W1 W')\/(e=.returned (.bool false)/\Jx (pre++[x]) W'))
  (hBn:Blk W Bb tb #[.slice A es.length cp])(hR:an W W.heap.size 34 A es.length (vts es))(h0:J [] W):
  CallsIn Fence.wide n prog 110 #[.func (.yield l) #[] #[],Z Bb 0] W λe W'=>(∃v,e=.returned v)/\
   ((∃ys,ys=fS es/\J ys W')\/(∃pre,pre <+:fS es/\Jx pre W')):=by
 have f:=pW es;have y:=Z3 f hSA hR;refine callsIn_of_wp func110 rfl trivial ?_ rfl;simp only[ntmps110,OD,OC,OE,Nat.reduceAdd,Nat.reduceSub,Qu,Qv,QJ,QD,QA,PY];have X:=hBn.cell 0;simp at X;have ai:IntKind.i64.wrap ((es.length:Int)-1)=(es.length:Int)-1:=IntWalk.i64_in _ ⟨zO,zO⟩;obtain⟨N,hN⟩:∃N,N=es.length:=⟨_,rfl⟩;clear hR f hSA;gi_wp2
 gi_loopw [3] (λi wr=>∃k:Nat,k<=es.length/\i=I ((es.length:Int)-1-k)/\Hid (J ((fS es).take k) wr/\KpQ S W wr)) (λi _=>(intOf i+1).toNat)
 case atStart=>exact⟨0,OK _,zS,Z1 ⟨by simpa using h0,KpQ.refl _ _⟩⟩
 case round=>
  obtain⟨k,hk,rfl,c⟩:=hrel;have b1:wr.cell? (Y Bb 0)=some (.slice A es.length cp):=by
   have z:Blk wr Bb tb #[.slice A es.length cp]:=(c.o.2.1 Bb hSb).trans hBn;have:=z.cell 0
   simpa using this
  by_cases B:k<es.length
  ·obtain⟨m,s⟩:∃m,es.length=m+1+k:=⟨es.length-1-k,zO⟩;have g:m<es.length:=zO;have h:k<(fS es).length:=by rw[pW];exact B
   have D:=OG h;have t:=GU s h g;obtain⟨b,o,rfl,_,a⟩:=y.o.2.2.elem Vt.C2 zP rfl g;obtain⟨fn,aa,F,ab,hy,p⟩:=hY _ (fS es)[k] wr c.o.1 zT;have q:∀j u,es[m].arr.toList[j]?=some u->wr.cell? (((Y b (o+m*34)):Addr).add j)=some u:=by
    refine dw λj u hj=>?_;have G:=a j u hj;rw[<-PQ]at G;have h2:=c.o.2.1 b (y.o.2.1 _ rfl zO);simpa[World.cell?,h2]using G
   have H:=Z1 D;have d:(es.length:Int)-1-k=(m:Int):=zO;have ag:(m:Int)<(es.length:Int):=zO;have aj:IntKind.i64.wrap ((m:Int)-1)=(m:Int)-1:=IntWalk.i64_in _ ⟨zO,zO⟩;rw[d];rw[t]at hy p;have L:=Z1 t;have O:=Z2 d s;have P:=Z2 (show es[m].arr.size=34 from kF _) q;clear D a d s q t;generalize es[m]=x at*;generalize x.arr=cs at*
   gi_wp2_with (refine rW ba rfl (.tmp 15) rfl (Y b (o+m*34)) zF cs P.o.1 P.o.2 ?_)
   refine p.mono ?_;rintro e W3 (⟨rfl,Q,R⟩|⟨rfl,w⟩)
   ·gi_wp2;go_roundw
    case rel=>exact⟨k+1,zO,by have:=O.o.1;congr 1;omega,Z1 ⟨by rw[H.o,L.o];exact Q,c.o.2.trans R⟩⟩
    case measure=>have:=O.o.1;simp[intOf]
   ·gi_wp2;refine OH (Pb rfl _ _ _) rfl ?_;exact⟨⟨_,rfl⟩,.inr ⟨_,by have T:=H.o;rw[L.o]at T;rw[<-T];exact List.take_prefix _ _,w⟩⟩
  ·obtain rfl:k=es.length:=zO;have U:(es.length:Int)-1-(es.length:Int)= -1:=zO;have r:=c.o.1;rw[OT (by rw[pW];exact OA _)]at r;rw[U];gi_wp2
   go_end0
   exact⟨⟨_,rfl⟩,.inl ⟨_,rfl,r⟩⟩
def NM(hn:1<=n)(Bb tb:Nat)(A:Option Addr)(cp:Nat)(es:List Vt)(S:Nat->Prop)(hSb:S Bb)(hSA:∀ad,A=some ad->0<es.length->S ad.block)(hfew:es.length<=100000)(w:World)(hBn:Blk w Bb tb #[.slice A es.length cp])(hR:an w w.heap.size 34 A es.length (vts es)):
  SeqStopsK Fence.wide n prog 110 #[Z Bb 0] (λx:Int×Vt=>#[I x.1,.agg x.2.arr]) (KpQ S) (λys=>ys=fS es) (λpre=>pre <+:fS es) (fS es).length w:=λl J a W hW d _ b c=>
 GV n hn l Bb tb A cp es S hSb hSA hfew J a W b (hBn.later hW) (hR.up hW) c
def GW(c:Nat)(w:World):C 64 #[.slice A n c] w λe w'=>e=.returned (.func (.func 110) #[] #[Z w.heap.size 0])/\w.alloc (.cells #[.slice A n c] 35)=w':=by
 go_in
 go_wp2;go_ret;exact⟨rfl,rfl⟩
end
def jc:Array Value:=#[I 0,I 0,I 0,I 0,I 0]
def lI(k:K2)(x:Vt):Bool:=decide (x.kind=6)&&decide (x.key=k)
def qD(w WA:World)(k:K2)(tk ta tb:TypeId)(S:Nat->Prop)(pre:List (Int×Vt))(W:World):Prop:=
 ((Blk W w.heap.size tk k.arr/\Blk W (w.heap.size+1) ta jc/\Blk W (w.heap.size+2) tb #[.bool false])/\M w W)/\KpQ S WA W/\∀y∈pre,lI k y.2=false
def Lq(w:World)(k:K2)(ta tb:TypeId)(c:Code)(pre:List (Int×Vt))(W:World):Prop:=
 c=.ret/\∃p y,pre=p++[y]/\(∀z∈p,lI k z.2=false)/\lI k y.2=true/\(Blk W (w.heap.size+1) ta y.2.E0.cells.toArray/\Blk W (w.heap.size+2) tb #[.bool true])/\M w W
def iR{W:World}{row:Option Nat}{B g:Nat}{t:TypeId}(h:Blk W g t cs)(hg:W.grownBy W' row)(hr:∀r,row=some r->B<=r/\∃o:Obj,W.heap[r]?=some o/\o.isCells=false):Blk W' g t cs:=
 (hg.block g h.lt λe=>by
  obtain⟨_,o,a,b⟩:=hr g e.symm;rw[show W.heap[g]?=_ from h]at a;injection a with a;subst a
  cases b).trans h
def GX{w:World}{k:K2}{tk ta tb:TypeId}(h1:w.heap.size<=WA.heap.size)(hS:∀j,S j->j<WA.heap.size):OwnFrom WA.heap.size (qD w WA k tk ta tb S):=λs W o n g a b=>by
 obtain⟨⟨⟨h,i,l⟩,c⟩,d,m⟩:=g;refine⟨⟨⟨iR h a b,iR i a b,iR l a b⟩,c.grown a c.size λr e=>OJ h1 (b r e).1⟩,d.trans ⟨λj f=>a.block j (OV (hS j f) d.2) (λe=>by have:=(b j e.symm).1;have:=hS j f;omega),a.size⟩,m⟩
def qD.up{w W:World}{k:K2}{tk ta tb:TypeId}{pre:List (Int×Vt)}(h:qD w WA k tk ta tb S pre W)(hS:∀j,S j->j<WA.heap.size)(hb:M W W'):qD w WA k tk ta tb S pre W':=by
 obtain⟨⟨⟨b,c,d⟩,e⟩,a,f⟩:=h;exact⟨⟨⟨b.later hb,c.later hb,d.later hb⟩,af e hb⟩,a.trans ⟨λj g=>hb.block j (OV (hS j g) a.2),hb.size⟩,f⟩
def GY{w:World}{k:K2}{ta tb:TypeId}(h1:w.heap.size<=WA.heap.size)(c:Code):OwnFrom WA.heap.size (Lq w k ta tb c):=λs W o n f a b=>by
 obtain⟨g,p,y,h,i,j,⟨l,m⟩,d⟩:=f;exact⟨g,p,y,h,i,j,⟨iR l a b,iR m a b⟩,d.grown a d.size λr e=>OJ h1 (b r e).1⟩
section
open Go.Maps Go.Sort Go.Shelf
set_option maxRecDepth 100000
attribute [local go_sem] Oper.semAt_some
def uh(A:Option Addr)(n cp:Nat)(k0 k1:Int)(q vb:Nat)(x:Int×Vt):Act:={tmps:=#[.slice A n cp,.agg #[E k0,E k1],undef,Z q 0,Z (q+1) 0,Z (q+2) 0,undef,Z vb 0,.slice A n cp,.func (.func 110) #[] #[Z (q+3) 0],I x.1,.agg x.2.arr,undef,undef,undef,undef,undef,undef,undef,undef,undef,undef,undef,undef],defers:=[]}
def BO:cU prog 62 5:=⟨zR,zR,zR⟩
def pX{q:Nat}{b:Bool}(h1:Blk w (q+1) 62 cs)(hn:cs.size=5)(h2:Blk w (q+2) 4 #[.bool b])(tmps:Array Value)(h4:tmps[4]?.getD undef=Z (q+1) 0)(h5:tmps[5]?.getD undef=Z (q+2) 0):
  (results f19 tmps).run prog w=.ok (.tuple #[.agg cs,.bool b]) w:=by
 obtain⟨l⟩:=cs;obtain⟨a,c,d,e,f,rfl⟩:∃a c d e f,l=[a,c,d,e,f]:=by
  match l,hn with
  |[a,c,d,e,f],_=>exact⟨a,c,d,e,f,rfl⟩
 have g:=h1.cell 0;have h:=h1.cell 1;have i:=h1.cell 2;have j:=h1.cell 3;have k:=h1.cell 4;have m:=h2.cell 0;simp at g h i j k m;simp[results,results19,h4,h5,asAddr,go_sem,g,h,i,j,k,m]
def KS:(fS l).map (·.2)=l.reverse:=by
 unfold fS;rw[List.map_reverse];congr 1;apply QI;intro i;simp
 cases l[i]?<;>rfl
def tx:kb l k=((fS l).find? λy=>lI k y.2).map (·.2.E0):=by
 unfold kb;rw[<-KS,List.find?_map,Option.map_map];have:(λy:Int×Vt=>lI k y.2)=((λx:Vt=>decide (x.kind=6/\x.key=k)) ∘ λx:Int×Vt=>x.2):=by
  funext y;simp[lI]
 rw[this];rfl
def GZ(es:List Vt)(hes:∀x∈es,x.ok)(k:K2)(A:Option Addr)(cp:Nat)(w:World)(hr:an w w.heap.size 34 A es.length (vts es))(hfew:es.length<=100000):
  C 19 #[.slice A es.length cp,.agg k.arr] w λe w'=>e=.returned (.tuple #[.agg ((kb es k).getD az).cells.toArray,.bool (kb es k).isSome])/\M w w':=by
 refine(callsIn_wide (n:=3)).1 ?_;refine callsIn_of_wp_marks func19 rfl trivial ?_ rfl;simp only[ntmps19,OD,OC,OE,Nat.reduceAdd,Nat.reduceSub,Qu,Qv,QJ,QD,QA,PY];obtain⟨a,d⟩:=k;unfold K2.arr;simp only;gi_wp2;refine⟨trivial,(callsIn_wide.2 (GW _ _ _ _)).mono ?_⟩;rintro e w' ⟨rfl,rfl⟩;gi_wp2;have ay:=Blk.A8 w 58 (K2.arr ⟨a,d⟩) rfl;have a0:=Blk.A8 (w.alloc (.cells (K2.arr ⟨a,d⟩) 58)) 62 jc (g:=w.heap.size+1) zS;have a1:=Blk.A8 ((w.alloc (.cells (K2.arr ⟨a,d⟩) 58)).alloc (.cells jc 62)) 4 #[.bool false] (g:=w.heap.size+2) zS;have a2:=Blk.A8 (((w.alloc (.cells (K2.arr ⟨a,d⟩) 58)).alloc (.cells jc 62)).alloc (.cells #[.bool false] 4)) 35 #[.slice A es.length cp] (g:=w.heap.size+3) zS;have ab:M w ((((w.alloc (.cells (K2.arr ⟨a,d⟩) 58)).alloc (.cells jc 62)).alloc (.cells #[.bool false] 4)).alloc (.cells #[.slice A es.length cp] 35)):=ae (ae (ae (ae (Oy _ w) _) _) _) _;have h1:qD w _ ⟨a,d⟩ 58 62 4 (λb=>b<w.heap.size\/b=w.heap.size+3) [] ((((w.alloc (.cells (K2.arr ⟨a,d⟩) 58)).alloc (.cells jc 62)).alloc (.cells #[.bool false] 4)).alloc (.cells #[.slice A es.length cp] 35)):=⟨⟨⟨((ay.alloc _).alloc _).alloc _,(a0.alloc _).alloc _,a1.alloc _⟩,ab⟩,KpQ.refl _ _,λy m=>by cases m⟩;have P:((((w.alloc (.cells (K2.arr ⟨a,d⟩) 58)).alloc (.cells jc 62)).alloc (.cells #[.bool false] 4)).alloc (.cells #[.slice A es.length cp] 35)).heap.size=w.heap.size+4:=zS;have a3:=NM 2 zP (w.heap.size+3) 35 A cp es (λb=>b<w.heap.size\/b=w.heap.size+3) (.inr rfl) (λad e h0=>by
  obtain⟨bw,e2,h2,_⟩:=hr.2 h0;rw[e]at e2;injection e2 with e2;exact .inl (e2▸h2)) hfew _ a2 (hr.up ab)
 have Q:=Z3 P ab hes;have bg:=Z1 h1;have bh:=Z1 a3;clear P h1 a3 ay a0 a1 a2 ab hes;unfold K2.arr jc at*;simp only[PQ,Nat.reduceAdd];generalize bx:((((w.alloc (.cells #[E a,E d] 58)).alloc (.cells #[I 0,I 0,I 0,I 0,I 0] 62)).alloc (.cells #[.bool false] 4)).alloc (.cells #[.slice A es.length cp] 35))=WA at*;have ac:∀j,(j<w.heap.size\/j=w.heap.size+3)->j<WA.heap.size:=λj R=>by have:=Q.o.1;omega
 have a4:w.heap.size<=WA.heap.size:=by have:=Q.o.1;omega
 refine wpIn_rangeFunc_ownH rfl zP (gf:=110) (lb:=#[Z (w.heap.size+3) 0]) rfl trivial (enters_of func110 zR rfl)
  bh.o (λh k=>h.trans k) (λW l o o' hl h1 h2 h3=>⟨el.put ac W l o o' hl h1 h2 h3,zS⟩) (Oy _ _) (λ_=>rfl)
  (qD w WA ⟨a,d⟩ 58 62 4 λb=>b<w.heap.size\/b=w.heap.size+3) (Lq w ⟨a,d⟩ 62 4) (GX a4 ac) (λc=>GY a4 c)
  bg.o (λx a' W=>∃H,WA.heap.size<=H/\Blk W H 79 x.2.arr/\a'=uh A es.length cp a d w.heap.size H x) ?ax ?assign ?body ?done ?stop
 case ax=>
  rintro x a' s W W' bz ⟨H,h1,h2,h3⟩ hg hr;exact⟨H,h1,iR h2 hg hr,h3⟩
 case assign=>
  rintro l ao ⟨i,x⟩ W K S hK;obtain⟨⟨b0,q⟩,hk,t⟩:=id S;have P:=hk.2;have hx:=kF x;simp only;refine wpIn_region_lit ?_;refine pV ba rfl rfl ?_;go_simp;refine iz ba rfl (.tmp 7) (.tmp 11) rfl W.heap.size zF x.arr zF (Blk.A8 W 79 _ rfl) hx ba.D6 (mE x) ?_;intro L T v;have U:M W L:=v.below (ae (Oy _ W) _) (OA _);have HZ:=hK (uh A es.length cp a d w.heap.size W.heap.size (i,x)) L ⟨U.size,λj o _ R _=>(U.block j (PX.1 R).1).trans R⟩ ⟨λj R=>U.block j (OV (ac j R) P),U.size⟩ (S.up ac U) ⟨W.heap.size,P,T,rfl⟩;have HZ:=Z1 HZ;clear hK;gi_wp2;exact HZ.o
 case body=>
  rintro l ao ⟨i,x⟩ a' W _ _ S ⟨H,b1,u,rfl⟩ b2;unfold uh;simp only at*;obtain⟨⟨⟨N,B,F⟩,q⟩,X,t⟩:=id S;have c0:W.cell? ⟨H,0,none⟩=some (I x.kind):=u.cell 0;have b3:W.cell? ⟨H,27,none⟩=some (E x.key.hi):=u.cell 27;have b4:W.cell? ⟨H,28,none⟩=some (E x.key.lo):=u.cell 28;have d0:W.cell? ⟨w.heap.size,0,none⟩=some (E a):=N.cell 0;have d1:W.cell? ⟨w.heap.size,1,none⟩=some (E d):=N.cell 1;have a5:=qj x.key.hi x.key.lo a d;have HI:=Z1 S;by_cases h6:x.kind=6
  ·by_cases aa:x.key=⟨a,d⟩
   ·have hq:(x.key.hi==a&&x.key.lo==d)=true:=by rw[aa];simp
    rw[hq]at a5;have f:lI ⟨a,d⟩ x=true:=by simp[lI,h6,aa]
    have G:=Z4 f t q F;have b5:W.cell? ⟨H,29,none⟩=some (I x.E0.tick):=u.cell 29;have b6:W.cell? ⟨H,30,none⟩=some (I x.E0.load):=u.cell 30;have b7:W.cell? ⟨H,31,none⟩=some (I x.E0.want):=u.cell 31;have b8:W.cell? ⟨H,32,none⟩=some (I x.E0.reps):=u.cell 32;have b9:W.cell? ⟨H,33,none⟩=some (I x.E0.I8):=u.cell 33;have bj:=Z1 B;rw[h6]at c0;generalize a6:x.E0=ad at*;have bk:=Z1 a6;clear a6;have aq:w.heap.size+2≠w.heap.size+1:=zO;clear f S N B F q X t u hq h6
    gi_wp2_with (refine iz BO rfl (.tmp 4) (.tmp 22) rfl (w.heap.size+1) zF #[I ad.tick,I ad.load,I ad.want,I ad.reps,I ad.I8] zF bj.o rfl zF zV ?_;intro L T v;have O:Blk L (w.heap.size+2) 4 #[.bool false]:=v.B7.B0 G.o.2.2.2 aq;have cB:=O.cell 0;have fB:=O.frozen 0)
    have a7:=Q.o.1;refine⟨KeepsFrom.trans (Y:=L) ⟨v.B7.size,λj o hB R _=>(v.B7.block j (PX.1 R).1 zO).trans R⟩ ((KeepsOthers.setCell _ _ _).from _),rfl,ao,(i,x),rfl,G.o.2.1,G.o.1,⟨?_,?_⟩,(v.below G.o.2.2.1 zO).setCell (p:=⟨w.heap.size+2,0,none⟩) (by show w.heap.size<=w.heap.size+2;omega) _⟩
    ·have:=T.D1 (p:=⟨w.heap.size+2,0,none⟩) (by show w.heap.size+1≠w.heap.size+2;omega) (.bool true);rw[<-bk.o]at this;exact this
    ·have:=O.B4 0 (.bool true)
     simpa using this
   ·have hq:(x.key.hi==a&&x.key.lo==d)=false:=by
     cases hqq:(x.key.hi==a&&x.key.lo==d)with
     |false=>rfl
     |true=>
      simp at hqq;exact(aa (by cases hxk:x.key;rw[hxk]at hqq;simp at hqq;rw[hqq.1,hqq.2])).elim
    rw[hq]at a5;have f:lI ⟨a,d⟩ x=false:=by simp[lI,aa]
    have G:=Z1 f;rw[h6]at c0;clear f S N B F q X t u aa hq;gi_wp2;exact⟨KeepsFrom.refl _ _,KpQ.refl _ _,HI.o.1,HI.o.2.1,λy m=>by
     rcases Po.1 m with m|m
     ·exact HI.o.2.2 y m
     ·simp at m;subst m;exact G.o⟩
  ·have ca:(x.kind==6)=false:=by simpa using h6
   have f:lI ⟨a,d⟩ x=false:=by simp[lI,h6]
   have G:=Z1 f;clear f S N B F q X t u;gi_wp2;exact⟨KeepsFrom.refl _ _,KpQ.refl _ _,HI.o.1,HI.o.2.1,λy m=>by
    rcases Po.1 m with m|m
    ·exact HI.o.2.2 y m
    ·simp at m;subst m;exact G.o⟩
 case done=>
  rintro D ys W hD rfl ⟨⟨⟨N,B,F⟩,q⟩,X,t⟩ hK;have a7:=Q.o.1;have aq:w.heap.size+2≠w.heap.size+1:=zO;have G:=Z5 B F q t hK;clear B F q t hK N X
  gi_wp2_with (refine iz BO rfl (.tmp 4) (.tmp 23) rfl (w.heap.size+1) zF jc zF G.o.1 rfl zF (by simp[Value.oneCell',jc]) ?_;intro L T v;have O:Blk L (w.heap.size+2) 4 #[.bool false]:=v.B7.B0 G.o.2.1 aq;have cB:=O.cell 0;have fB:=O.frozen 0)
  have bd:Blk (L.setCell ⟨w.heap.size+2,0,none⟩ (.bool false)) (w.heap.size+2) 4 #[.bool false]:=by
   have:=O.B4 0 (.bool false)
   simpa using this
  have be:=T.D1 (p:=⟨w.heap.size+2,0,none⟩) (by show w.heap.size+1≠w.heap.size+2;omega) (.bool false);have bf:=(v.below G.o.2.2.1 zO).setCell (p:=⟨w.heap.size+2,0,none⟩) (by show w.heap.size<=w.heap.size+2;omega) (.bool false);have a8:(L.setCell ⟨w.heap.size+2,0,none⟩ (.bool false)).heap[D]?=some (.deferred (some [])):=(Pd L ⟨w.heap.size+2,0,none⟩ _ D (by show D≠w.heap.size+2;omega)).trans ((v.B7.block D (PX.1 G.o.2.2.2.2).1 zO).trans G.o.2.2.2.2);generalize L.setCell ⟨w.heap.size+2,0,none⟩ (.bool false)=W2 at*;refine⟨zS,.inl ⟨_,_,rfl,run_takeDeferred a8,?_⟩⟩;have af:Blk (W2.putObj D (.deferred none)) (w.heap.size+1) 62 jc:=(World.putObj_heap_other zO).trans be;have ag:Blk (W2.putObj D (.deferred none)) (w.heap.size+2) 4 #[.bool false]:=(World.putObj_heap_other zO).trans bd;have aw:kb es ⟨a,d⟩=none:=by
   rw[tx,RB.2 λy m=>by rw[G.o.2.2.2.1 y m];simp];rfl
  refine⟨.tuple #[.agg jc,.bool false],pX _ af rfl ag _ zF zF,by rw[aw];rfl,bf.trans (belowK_b (w:=w) (OA _) _ D _ (.deferred none) zO a8 rfl rfl)⟩
 case stop=>
  rintro D c ao W hD ⟨r,hr⟩ ⟨rfl,p,y,rfl,t,f,⟨B,F⟩,q⟩ hK;have a7:=Q.o.1;have af:Blk (W.putObj D (.deferred none)) (w.heap.size+1) 62 y.2.E0.cells.toArray:=(World.putObj_heap_other zO).trans B;have ag:Blk (W.putObj D (.deferred none)) (w.heap.size+2) 4 #[.bool true]:=(World.putObj_heap_other zO).trans F;have ah:kb es ⟨a,d⟩=some y.2.E0:=by
   rw[tx,<-hr,Pv,List.find?_append,RB.2 λz hz=>by rw[t z hz];simp];simp[List.find?_cons,f]
  have HF:=Z5 ah af ag hK (q.trans (belowK_b (w:=w) (OA _) _ D _ (.deferred none) zO hK rfl rfl));clear af ag ah hK q t f B F hr;gi_wp2;refine⟨zS,.inl ⟨_,_,rfl,run_takeDeferred HF.o.2.2.2.1,?_⟩⟩;exact⟨.tuple #[.agg y.2.E0.cells.toArray,.bool true],pX _ HF.o.2.1 rfl HF.o.2.2.1 _ zF zF,by rw[HF.o.1];rfl,HF.o.2.2.2.2⟩
end
def awA:Adv:=((kb (j9 awC awP 1 []).g.ev (av awI)).getD az)
def Ha:awC.ok:=by unfold Cg.ok;decide+kernel
def NN:cj (awC.st:Nat) (awC.sa:Nat) (awC.lo:Nat) (awC.hi:Nat) awP (1:Nat)=0:=by decide+kernel
def ui:mostN awC awP 1=54:=by decide+kernel
def MR:(kb (j9 awC awP 1 []).g.ev (av awI)).isSome=true/\awA.reps=3:=by decide+kernel
def Oi:bd awI=true:=by decide+kernel
def DM:∀p∈awP,p.length<=256/\∀x∈p,x.ok:=by
 intro p a;simp only[awP,Pj,List.mem_nil_iff,or_false]at a;subst a;refine⟨zP,λx b=>?_⟩;simp only[Pj,List.mem_nil_iff,or_false]at b
 rcases b with rfl|rfl
 all_goals exact⟨by unfold aq;decide,by unfold aq;decide,by unfold aq;decide,by unfold aq;decide,⟨by unfold aq;decide,by unfold aq;decide,by unfold aq;decide,by unfold aq;decide,by unfold aq;decide,by unfold aq;decide⟩,zP⟩
def DN:ge awC awP:=⟨Ha,λp a=>⟨OJ (DM p a).1 zP,(DM p a).2⟩,zP⟩
def NO:dI awC awP (j9 awC awP 1 [])/\(j9 awC awP 1 []).used<=55:=by
 have h:=(dI.new DN 1 zP).run DN (finL awC awP 1 []) (by rw[yE,ui];decide);refine⟨h.1,?_⟩;have:=h.2.1;rw[yE,ui]at this;exact this
def MS:gQ awC (j9 awC awP 1 []) 0<0:=by decide+kernel
def Hb:C 41 #[] w (J (.agg #[I 1,I 10,I 100,I 100,I 5,I 3]) w):=by
 go_in
 have a:=Blk.A8 w 51 #[I 0,I 0,I 0,I 0,I 0,I 0] rfl;have b:=Z2 a (ae (Oy _ w) (.cells #[I 0,I 0,I 0,I 0,I 0,I 0] 51));clear a
 go_wp2_with (refine zj wR (cs:=#[I 1,I 10,I 100,I 100,I 5,I 3]) b.o.1 ?_;intro f c d)
 exact OH (au wR rfl c rfl _ rfl) rfl ⟨rfl,d.below b.o.2 (OA _)⟩
def awB(w:World):World:=(w.alloc (.cells #[I 6,.string ⟨#[97]⟩,I 0,I 0,I 0,I 1,I 10,I 100,I 100,I 5,I 3,I 1,.string ⟨#[97]⟩,I 1,I 250,I 0,I 0,I 0,I 0,I 0,I 0,I 0] 73)).alloc (.cells #[V w.heap.size 0 2 2] 40)
def NP:dv (awB w) (some (Y (w.heap.size+1) 0)) 1 awP/\M w (awB w):=by
 have c:=(Blk.A8 w 73 (cls awP[0]).toArray rfl).alloc (.cells #[V w.heap.size 0 2 2] 40);have d:=Blk.A8 (w.alloc (.cells (cls awP[0]).toArray 73)) 40 #[V w.heap.size 0 2 2] (g:=w.heap.size+1) zS;refine⟨⟨[V w.heap.size 0 2 2],⟨rfl,λ_=>⟨_,rfl,by simp[awB],λj u a=>?_⟩⟩,rfl,λi e=>?_⟩,ae (ae (Oy _ w) _) _⟩
 ·exact bQ (w:=awB w) d j u a
 ·have b:i=0:=by simp[awP]at e;omega
  subst b;exact⟨some (Y w.heap.size 0),2,rfl,OA 2,zP,rfl,λ_=>⟨_,rfl,by simp[awB];omega,λj u a=>bQ (w:=awB w) c j u a⟩⟩
def NQ(h:dv w A 1 awP):∃(l:List Vt) (ad:Adv),C 42 #[.agg #[I 2,I 4,I 4,I 2],.slice A 1 1,I 1,.slice none 0 0] w (λr w'=>∃A3 k3 vq u op,r=.returned (.tuple #[.agg #[.slice A3 l.length k3,I u,I op,vq,.bool true],I 0])/\
   an w' w'.heap.size 34 A3 l.length (vts l)/\(∃A4 n4 k4,vq=.slice A4 n4 k4)/\M w w')/\l.length<=80000/\(∀x∈l,nz x)/\mT awC l/\sV l/\ix (l.map aK)=true/\kb l (av awI)=some ad/\ad.reps=3:=by
 have d:=AU w awC awP DN A none 1 1 0 1 h zP zP DM NN [] zS ⟨rfl,λh=>absurd h zP⟩ zP (by rw[ui];decide);rw[decide_eq_true MS]at d;have b:=NO;have i:=b.1.evs zO;have c:=MR;unfold awA at c;generalize j9 awC awP 1 []=e at*;refine⟨e.g.ev,(kb e.g.ev (av awI)).getD az,d.mono λr w' ⟨n,vq,j,f,k,m⟩=>?_,zO,b.1.E.L9.O3,b.1.E.L9.U0,b.1.E.L9.told,b.1.E.L9.right,?_,c.2⟩
 ·obtain⟨A3,k3,rfl,_⟩:=ak f;obtain⟨A4,k4,rfl,_⟩:=ak k;exact⟨A3,k3,.slice A4 e.g.q.line.length k4,(e.used:Int),(openN e:Int),j,an.C4 f,⟨A4,_,k4,rfl⟩,m⟩
 ·cases hq:kb e.g.ev (av awI)with
  |none=>rw[hq]at c;cases c.1
  |some a=>rfl
def pY:C 7 #[] w (J (.bool true) w):=by
 have HU:=Z1 (λW=>Hb W)
 go_in
 go_wp2_with fail;refine zm (HU.o _) λw1 N=>?_;have z:=Z1 N;clear N;have O:=(Blk.A8 w 23 #[I 2,I 4,I 4,I 2] rfl).later z.o;have P:=af (ae (Oy _ w) (.cells #[I 2,I 4,I 4,I 2] 23)) z.o;have Q:=NP w1;have q:=Z3 O P Q;clear O P Q;go_upto_region 3 with fail
 unfold awB at q;generalize a1:(w1.alloc (.cells #[I 6,.string ⟨#[97]⟩,I 0,I 0,I 0,I 1,I 10,I 100,I 100,I 5,I 3,I 1,.string ⟨#[97]⟩,I 1,I 250,I 0,I 0,I 0,I 0,I 0,I 0,I 0] 73)).alloc (.cells #[V w1.heap.size 0 2 2] 40)=w2 at*;have R:=q.o.2.2.1;have S:=af q.o.2.1 q.o.2.2.2;have c:=q.o.1.later q.o.2.2.2;obtain⟨l,a,hF,ao,B,T,U,X,aa,ab⟩:=NQ w2 _ R;have HF:=Z1 hF;obtain⟨f,er,a4,ac,ag⟩:=rJ awI zP;have D:=ac Oi;have HK:=Z1 ag;have HL:=Z1 (λ(W:World) (A:Option Addr) (k n:Nat) (hn:n=l.length) (hr:an W W.heap.size 34 A n (vts l))=>show C 43 #[.agg #[I 2,I 4,I 4,I 2],.slice A n k] W λe w'=>e=.returned (.bool true)/\M W w' from Di awC Ha l B T U X A k n W hr zO);have HD:=Z1 (λ(W:World) (A:Option Addr) (k n:Nat) (hn:n=l.length) (hr:an W W.heap.size 34 A n (vts l))=>show C 19 #[.slice A n k,.agg #[E f.hi,E f.lo]] W λe w'=>e=.returned (.tuple #[.agg #[I a.tick,I a.load,I a.want,I 3,I a.I8],.bool true])/\M W w' from by
  subst hn;have h:=GZ l (λx hx=>(B x hx).ok) f A k W hr zO;rw[D,aa]at h;rw[D,<-ab];exact h)
 have HE:=Z2 S c;have c0:=c.cell 0;have c1:=c.cell 1;have c2:=c.cell 2;have c3:=c.cell 3;clear hF ao B T U X aa ab D ag ac R S c a4 q a1 HU z;go_wp2_with fail;refine HF.o.mono ?_;rintro e3 w3 ⟨A3,k3,vq,u,op,rfl,F,⟨A4,n4,k4,rfl⟩,G⟩;obtain⟨H,r⟩:∃H,H=l.length:=⟨_,rfl⟩;rw[<-r]at F;rw[<-r];clear c0 c1 c2 c3;have y:=Z4 (af HE.o.1 G) (HE.o.2.later G) F r;have ah:=Blk.A8 w3 38 kG rfl;have a7:=Z1 ah;clear F r G ah
 go_wp2_with (refine zj j8 (cs:=#[.slice A3 H k3,I u,I op,.slice A4 n4 k4,.bool true]) a7.o ?_;intro w9 ai aj)
 have g:=aj.below (ae (Oy _ w3) _) (OA _);have s:=Z5 (af y.o.1 g) (y.o.2.1.later g) (y.o.2.2.1.up g) y.o.2.2.2 ai;clear ai aj g;refine zm (HK.o w9) λw4 i=>?_;have t:=Z4 (af s.o.1 i) (s.o.2.1.later i) (s.o.2.2.1.up i) (s.o.2.2.2.2.later i);clear i;go_upto_region 5 with fail
 have j:=ae (Oy _ w4) (.cells #[E f.hi,E f.lo] 58);have L:=Blk.A8 w4 58 #[E f.hi,E f.lo] rfl;have d:=Z4 (af t.o.1 j) (t.o.2.1.later j) (t.o.2.2.1.up j) (t.o.2.2.2.later j);have e0:=d.o.2.2.2.cell 0;have k0:=L.cell 0;have k1:=L.cell 1;clear L j;generalize w4.alloc (.cells #[E f.hi,E f.lo] 58)=w5 at*;go_wp2_with fail;refine zm (HD.o w5 A3 k3 H y.o.2.2.2 d.o.2.2.1) λw6 m=>?_;clear e0 k0 k1;have v:=Z4 (af d.o.1 m) (d.o.2.1.later m) (d.o.2.2.1.up m) (d.o.2.2.2.later m);clear m;go_upto_region 6 with fail
 have p:=ae (Oy _ w6) (.cells #[I a.tick,I a.load,I a.want,I 3,I a.I8] 62);have ak:=Blk.A8 w6 62 #[I a.tick,I a.load,I a.want,I 3,I a.I8] rfl;have b:=Z4 (af v.o.1 p) (v.o.2.1.later p) (v.o.2.2.1.up p) (v.o.2.2.2.later p);have a3:=ak.cell 3;clear ak p;generalize w6.alloc (.cells #[I a.tick,I a.load,I a.want,I 3,I a.I8] 62)=w7 at*;have e0:=b.o.2.2.2.cell 0;have e4:=b.o.2.2.2.cell 4;have c0:=b.o.2.1.cell 0;have c1:=b.o.2.1.cell 1;have c2:=b.o.2.1.cell 2;have c3:=b.o.2.1.cell 3;go_wp2_with fail;refine zm (HL.o w7 A3 k3 H y.o.2.2.2 b.o.2.2.1) λw8 al=>?_;have a8:=Z1 (af b.o.1 al);clear al e0 e4 c0 c1 c2 c3 a3;go_wp2;go_ret;exact⟨rfl,a8.o⟩
def ef(ps:List (List Cl))(wk:Int)(np:Nat):Bool:=ps.all (λp=>decide (p.length<=8))&&(decide (ps.length<=5)&&(decide (wk<=4)&&decide (np<=200)))
def Hc{ps:List (List Cl)}{wk:Int}{k:Nat}(h:k<ps.length)(h8:¬ps[k].length<=8):ef ps wk np=false:=by
 unfold ef;have:ps.all (λp=>decide (p.length<=8))=false:=by
  rw[List.all_eq_false];exact⟨ps[k],OR h,by simpa using h8⟩
 rw[this];rfl
def DO{ps:List (List Cl)}{wk:Int}(h:∀(j:Nat) (hj:j<ps.length),ps[j].length<=8):ef ps wk np=(decide (ps.length<=5)&&(decide (wk<=4)&&decide (np<=200))):=by
 unfold ef;have:ps.all (λp=>decide (p.length<=8))=true:=by
  rw[QT];intro p a;obtain⟨j,hj,rfl⟩:=PJ a
  simpa using h j hj
 rw[this];rfl
def DP(n k np kp:Nat)(w:World)(hP:dv w A n ps)(hn:n<=10000000000000)(hnp:np<=maxLen)(hwk:aq wk):
  C 44 #[.slice A n k,I wk,.slice Ap np kp] w (J (.bool (ef ps wk np)) w):=by
 have m:=hP.len;have r:=Z1 m;have D:=Z1 hP;have d:=Z1 (Oy w.heap.size w);unfold aq at hwk;unfold maxLen at hnp;clear m hP
 go_in
 go_wp2;go_loop [7] (λi=>∃(k:Nat),k<=n/\i=I k/\Hid (∀(j:Nat) (f:j<ps.length),j<k->ps[j].length<=8)) (λi=>n-(intOf i).toNat)
 case atStart=>exact⟨0,zO,rfl,Z1 λj _ h=>zO⟩
 case round=>
  obtain⟨k,O,rfl,u⟩:=hrel;by_cases H:k<n
  ·have p:k<ps.length:=by have:=r.o;omega
   have s:(k:Int)<(n:Int):=zO;obtain⟨P,Q,R,rfl,F,S,L,v,q⟩:=D.o.at_ p;unfold maxLen at v;by_cases g:ps[k].length<=8
   ·have x:¬(8:Int)<(ps[k].length:Int):=zO;have G:=Z1 g;clear g q;go_wp2;go_round
    case rel=>
     refine⟨k+1,zO,by go_num,Z1 λj f N=>?_⟩;by_cases y:j=k
     ·subst y;exact G.o
     ·exact u.o j f zO
    case measure=>simp[intOf];omega
   ·have x:(8:Int)<(ps[k].length:Int):=zO;have b:Hid (ef ps wk np=false):=Z1 (Hc p g);clear g q;go_wp2;go_ret;exact⟨cN b.o.symm,d.o⟩
  ·obtain rfl:n=k:=zO;have s:¬(n:Int)<(n:Int):=zO;have b:Hid (ef ps wk np=(decide (ps.length<=5)&&(decide (wk<=4)&&decide (np<=200)))):=Z1 (DO λj f=>u.o j f (by have:=r.o;omega));rw[<-r.o]at b;by_cases a:n<=5
   ·have z:(n:Int)<=5:=zO;by_cases t:wk<=4
    ·by_cases l:np<=200
     ·have B:(np:Int)<=200:=zO;have c:Hid (ef ps wk np=true):=Z1 (by rw[b.o];simp[a,t,l]);clear a l;go_wp2;go_ret;exact⟨cN c.o.symm,d.o⟩
     ·have B:¬(np:Int)<=200:=zO;have c:Hid (ef ps wk np=false):=Z1 (by rw[b.o];simp[a,t,l]);clear a l;go_wp2;go_ret;exact⟨cN c.o.symm,d.o⟩
    ·have c:Hid (ef ps wk np=false):=Z1 (by rw[b.o];simp[a,t]);clear a;go_wp2;go_ret;exact⟨cN c.o.symm,d.o⟩
   ·have z:¬(n:Int)<=5:=zO;have c:Hid (ef ps wk np=false):=Z1 (by rw[b.o];simp[a]);clear a;go_wp2;go_ret;exact⟨cN c.o.symm,d.o⟩
def pZ(ps:List (List Cl))(wk:Int)(A Ap:Option Addr)(n k np kp:Nat)(w:World)(hP:dv w A n ps)(hn:n<=10000000000000)(hnp:np<=maxLen)(hst:aq st)(hwk:aq wk):
  C 8 #[.agg #[I st,I sa,I lo,I hi],.slice A n k,I wk,.slice Ap np kp] w λe w'=>e=.returned (.bool (decide (st<=8)&&ef ps wk np))/\M w w':=by
 have a:=zh w (.cells #[I st,I sa,I lo,I hi] 23);have i:=Z1 (λW (hW:M w W)=>DP ps wk A Ap n k np kp W (hP.up hW) hn hnp hwk);have d:=Z1 a;generalize ef ps wk np=b at*;unfold aq at hst;clear a hP;by_cases g:st<=8
 ·have f:Hid ((decide (st<=8)&&b)=b):=Z1 (by simp[g])
  go_in
  go_wp2_with fail;refine zm (i.o _ d.o) λj c=>?_;have h:=Z1 (af d.o c);clear c;go_wp2;go_ret;exact⟨cN f.o.symm,h.o⟩
 ·have f:Hid ((decide (st<=8)&&b)=false):=Z1 (by simp[g])
  go_in
  go_wp2;go_ret;exact⟨cN f.o.symm,d.o⟩
def Un:∀(r:List Smp) (b:Int),(∀s∈r,b<s.tick)->ea r->r.foldl (λb s=>if b<s.tick then s.tick else b) b=(r.getLast?.map (·.tick)).getD b
 |[],b,_,_=>rfl
 |x::r,b,h1,h2=>by
  have h3:=Rn.1 h2;rw[Qz,OB (h1 x zS),Un r x.tick h3.1 h3.2]
  cases r with
  |nil=>rfl
  |cons y q=>simp[List.getLast?_cons]
def Ux{l:List Smp}(h:ea l){n:Nat}(hn:n<l.length)(h1:n+1=l.length):dg l=l[n].tick:=by
 have a:l.getLast?=some l[n]:=by rw[Ry,show l.length-1=n by omega,OL hn]
 cases l with
 |nil=>cases hn
 |cons x r=>
  have b:=Rn.1 h;show r.foldl _ x.tick=_;rw[Un r x.tick b.1 b.2]
  cases r with
  |nil=>
   simp at h1;subst h1;rfl
  |cons y q=>
   rw[List.getLast?_cons_cons]at a;rw[a];rfl
def UU{l:List Adv}{a:Adv}(h:l.getLast?=some a){n:Nat}(hn:n<l.length)(h1:n+1=l.length):l[n]=a:=by
 rw[Ry,show l.length-1=n by omega,OL hn]at h;injection h
def UH(ps:List (List Cl))(wk:Int)(A Ap:Option Addr)(n k np kp:Nat)(w:World)(hP:dv w A n ps)(hn:n<=10000000000000)(hnp:np<=maxLen)(hst:aq st)(hwk:aq wk)(hL:(decide (st<=8)&&ef ps wk np)=false\/np=0):
  C 3 #[.agg #[I st,I sa,I lo,I hi],.slice A n k,I wk,.slice Ap np kp] w (J (.bool true) w):=by
 have d:=zh w (.cells #[I st,I sa,I lo,I hi] 23);have f:=Blk.A8 w 23 #[I st,I sa,I lo,I hi] rfl;have j:=Z1 (λW (hW:M w W)=>pZ st sa lo hi ps wk A Ap n k np kp W (hP.up hW) hn hnp hst hwk);generalize (decide (st<=8)&&ef ps wk np)=l at*;have g:=Z1 hL;have m:=Z1 (λW=>pY W);have h:=Z2 d f
 go_in
 go_wp2_with fail;refine(m.o _).mono ?_;rintro r s ⟨rfl,b⟩;have a:=Z2 (af h.o.1 b) (h.o.2.later b);have t:=a.o.2.cell 0;have u:=a.o.2.cell 1;have v:=a.o.2.cell 2;have x:=a.o.2.cell 3;go_wp2_with fail;refine(j.o _ a.o.1).mono ?_;rintro y z ⟨rfl,i⟩;have c:=Z1 (af a.o.1 i)
 rcases g.o with rfl|p
 ·go_wp2;go_ret;exact⟨rfl,c.o⟩
 ·have q:((np:Int)==0)=true:=by rw[p];rfl
  cases l
  all_goals
   go_wp2;go_ret;exact⟨rfl,c.o⟩
def Up(ps:List (List Cl))(wk:Int)(A Ap:Option Addr)(n k np kp:Nat)(w:World)(hP:dv w A n ps)(hn:n<=1000000)(hnp:np<=maxLen)(hst:aq st)(hwk:aq wk)(hL:(decide (st<=8)&&ef ps wk np)=true)(h0:cj st sa lo hi ps wk≠0)(hnz:¬np=0):
  C 3 #[.agg #[I st,I sa,I lo,I hi],.slice A n k,I wk,.slice Ap np kp] w (J (.bool true) w):=by
 have f:=zh w (.cells #[I st,I sa,I lo,I hi] 23);have g:=Blk.A8 w 23 #[I st,I sa,I lo,I hi] rfl;have h:=Z1 (λW (hW:M w W)=>pZ st sa lo hi ps wk A Ap n k np kp W (hP.up hW) zO hnp hst hwk);rw[hL]at h;have m:=Z1 (λW=>pY W);have p:=Z1 (λW (hW:M w W)=>Uw W st sa lo hi ps A n k wk (hP.up hW) hn hwk h0);have q:((np:Int)==0)=false:=zT;generalize cj st sa lo hi ps wk=r at*;have x:(r==0)=false:=by simpa using h0
 have i:=Z2 f g
 go_in
 go_wp2_with fail;refine(m.o _).mono ?_;rintro y z ⟨rfl,c⟩;have a:=Z2 (af i.o.1 c) (i.o.2.later c);have s:=a.o.2.cell 0;have t:=a.o.2.cell 1;have u:=a.o.2.cell 2;have v:=a.o.2.cell 3;go_wp2_with fail;refine(h.o _ a.o.1).mono ?_;rintro B D ⟨rfl,d⟩;have b:=Z2 (af a.o.1 d) (a.o.2.later d);have s:=b.o.2.cell 0;have t:=b.o.2.cell 1;have u:=b.o.2.cell 2;have v:=b.o.2.cell 3;go_wp2_with fail;refine(p.o _ b.o.1).mono ?_;rintro F G ⟨rfl,j⟩;have l:=Z1 (af b.o.1 j);go_wp2;go_ret;exact⟨rfl,l.o⟩
def UI(hp:ge c ps)(A Ap:Option Addr)(n k np kp m:Nat)(w:World)(hP:dv w A n ps)(hn:ps.length+m<=32)(hn0:0<ps.length+m)(h0:cj c.st c.sa c.lo c.hi ps m=0)
  (raw:List Int)(hl:∀p∈raw,aq p)(hr:an w w.heap.size 1 Ap np (i64s raw))(hu:np<=30000)(hnz:¬np=0)(hx8:∀p∈ps,p.length<=8)(hn5:ps.length<=5)(hm4:m<=4)(hL:(decide ((c.st:Int)<=8)&&ef ps m np)=true):
  C 3 #[.agg #[I c.st,I c.sa,I c.lo,I c.hi],.slice A n k,I m,.slice Ap np kp] w (J (.bool true) w):=by
 have d4:=zh w (.cells #[I c.st,I c.sa,I c.lo,I c.hi] 23);have d5:=Blk.A8 w 23 #[I c.st,I c.sa,I c.lo,I c.hi] rfl;have f3:=Cg.I0 hp.cfg;have HC:=Z1 (λW (hW:Below w.heap.size w W)=>pZ c.st c.sa c.lo c.hi ps m A Ap n k np kp W (hP.up hW) (by have:=hP.len;omega) zU (by unfold aq;omega) (by unfold aq;omega));rw[hL]at HC;have HA:=Z1 (λW=>pY W);have d6:np=raw.length:=by have:=hr.len;simpa[i64s]using this
 have d7:=hP.len;have d8:=UT hp.cfg hn5 hx8 hm4;have cl:=Z1 (λW (hW:Below w.heap.size w W)=>GR W c hp.cfg ps A n k m (hP.up hW) hn (λp h=>⟨by have:=hx8 p h;omega,(hp.each p h).2⟩) h0);have HN:=Z1 (λW (hW:Below w.heap.size w W)=>KQ W c hp.cfg ps A n k m (hP.up hW) hn (λp h=>(hp.each p h).1) h0);have d9:=Z1 (λW kd (hW:Below w.heap.size w W)=>US ps kd A n k W (hP.up hW) zO λp h=>(hp.each p h).1);have f6:=Z1 (TX.new (m:=m) hp hn);have HP:=Z7 hp hP d7 d6 hl hr hn0;obtain⟨M,hM⟩:∃M,M=mostN c ps m:=⟨_,rfl⟩;rw[<-hM]at cl d8;have ea:=Z1 hM;have hm:((np:Int)==0)=false:=zT;have ix:=hnz;have hs:0<(np:Int):=zO;have hv:n<=5:=zO;have HI:=Z1 hp.cfg;have HB:=Z2 d4 d5;clear d4 d5 hP hL h0 hp hn hn0 hl hr f3 d6 hnz hx8 hn5 d7 hM
 go_in
 go_wp2_with fail;refine(HA.o _).mono ?_;rintro e1 w1 ⟨rfl,cm⟩;have S:=Z2 (af HB.o.1 cm) (HB.o.2.later cm);clear cm;have c0:=S.o.2.cell 0;have c1:=S.o.2.cell 1;have c2:=S.o.2.cell 2;have c3:=S.o.2.cell 3;go_wp2_with fail;refine(HC.o _ S.o.1).mono ?_;rintro e2 w2 ⟨rfl,cn⟩;have T:=Z2 (af S.o.1 cn) (S.o.2.later cn);clear cn c0 c1 c2 c3;have c0:=T.o.2.cell 0;have c1:=T.o.2.cell 1;have c2:=T.o.2.cell 2;have c3:=T.o.2.cell 3;go_wp2_with fail;refine(cl.o _ T.o.1).mono ?_;rintro e3 w3 ⟨rfl,co⟩;have G:=Z2 (af T.o.1 co) (T.o.2.later co);clear co c0 c1 c2 c3;have c0:=G.o.2.cell 0;have c1:=G.o.2.cell 1;have c2:=G.o.2.cell 2;have c3:=G.o.2.cell 3;go_wp2_with fail;refine(HN.o _ G.o.1).mono ?_;rintro e4 w4 ⟨ep,rfl,eb,ae⟩;have iy:=G.o.2.lt;have cp:=Z3 (af G.o.1 ae) (G.o.2.later ae) eb;generalize w3.heap.size=B at*;clear ae c0 c1 c2 c3 eb HA HC cl HN HB S T G;go_upto_region 9 with fail
 go_wp2_with fail;go_loopw [13] (λi wr=>∃(j:Nat),j<=M/\i=I j/\Hid (∃e,TX c ps m e j/\kY wr c B ep e/\Below w.heap.size w wr/\Blk wr w.heap.size 23 #[I c.st,I c.sa,I c.lo,I c.hi])) (λi _=>M+1-(intOf i).toNat)
 case atStart=>exact⟨0,OK _,rfl,Z1 ⟨_,f6.o,cp.o.2.2,cp.o.1,cp.o.2.1⟩⟩
 case round=>
  obtain⟨j,hj,rfl,HR⟩:=hrel;obtain⟨e,bc,hE,cq,ec⟩:=HR.o;have ga:(j:Int)<=(M:Int):=zO;have gb:j%np<np:=Rj _ zO;obtain⟨ad,v,rfl,_,hx,ar⟩:=(HP.o.2.2.2.2.2.1.below cq).at_ gb;have X:j%np<raw.length:=by have:=HP.o.2.2.2.1;omega
  obtain rfl:=ma hx X;have P:(j:Int)%(np:Int)=((j%np:Nat):Int):=zO;have dt:(j:Int).tmod (np:Int)=((j%np:Nat):Int):=by rw[Ra zO];exact P
  have fn:((j%np:Nat):Int)<(np:Int):=zO;have ed:=HP.o.2.2.2.2.1 _ (OR X);have hu:e.used<=30000:=by have:=bc.used;omega
  have HS:=Z1 (GH wr c B ep e ps HP.o.1 bc.inv hu (by rw[bc.count];exact HP.o.2.2.2.2.2.2) hE raw[j%np] ed);have r:=Z3 bc cq ec;have HJ:=Z2 ga hu;generalize raw[j%np]=pk at*;generalize j%np=jn at*;clear bc hE cq ec hx ed HR hu;go_wp2_with fail;refine HS.o.mono ?_;rintro e5 w5 ⟨rfl,ee,ae⟩;have ag:=Z3 (r.o.2.1.trans (ae.mono zO)) (show Blk w5 w.heap.size 23 #[I c.st,I c.sa,I c.lo,I c.hi]from(ae.block w.heap.size zO).trans r.o.2.2) ee;clear ae ee ar P dt fn;by_cases hz:e.next c pk=none
  ·have h5:=(yy pk).2 hz;have h6:¬(0<=gQ c e pk):=zO;have bv:=Ul.1 hz;have hrest:=r.o.1.rest bv;have eg:ja c e pk=e:=by unfold ja;rw[hz]
   rw[eg]at ag;have eh:decide (gQ c e 0<0)=true:=by rw[decide_eq_true_eq];exact(yy 0).2 (Ul.2 bv)
   have HO:=Z1 (yz w5 c B ep e ps HP.o.1 r.o.1.inv HJ.o.2 (by rw[r.o.1.count];exact HP.o.2.2.2.2.2.2) ag.o.2.2);rw[eh]at HO;have gf:=r.o.1.inv.evs HJ.o.2;have be:=Z3 hrest bv r.o.1.inv.E.L9;clear hz bv hrest eg eh;go_upto_region 12 with fail
   go_wp2_with fail;refine HO.o.mono ?_;rintro e6 w6 ⟨ve,vq,rfl,cs,ei,ct⟩;obtain⟨A3,k3,rfl,_,_⟩:=ak cs;obtain⟨A4,k4,rfl,_,_⟩:=ak ei;have ah:=an.C4 cs;obtain⟨N,hN⟩:∃N,N=e.g.ev.length:=⟨_,rfl⟩;obtain⟨L4,cu⟩:∃L4,L4=e.g.q.line.length:=⟨_,rfl⟩;rw[<-hN]at ah;unfold pT;rw[be.o.1.1,<-hN,<-cu];simp only;have ej:=Blk.A8 w6 38 #[.slice A3 N k3,I e.used,I ((0:Nat):Int),.slice A4 L4 k4,.bool true] rfl;have bw:=zh w6 (.cells #[.slice A3 N k3,I e.used,I ((0:Nat):Int),.slice A4 L4 k4,.bool true] 38);have D:=Z6 (af (af ag.o.1 ct) bw) ((ag.o.2.1.later ct).later bw) ej (ah.up bw) hN cu;have iz:N<=60000:=zO;clear cs ei ct bw ej ah hN cu gf HO;go_upto_region 13 with fail
   generalize w6.alloc (.cells #[.slice A3 N k3,I e.used,I ((0:Nat):Int),.slice A4 L4 k4,.bool true] 38)=w7 at*;generalize w6.heap.size=vo at*;have o2:=D.o.2.2.1.cell 2;have o4:=D.o.2.2.1.cell 4;have h9:¬(M:Int)<(j:Int):=zO;go_wp2_with fail;clear o2 o4;go_loopw [89] (λi wr=>∃(t:Nat),t<=n/\i=I t/\Hid (Below w7.heap.size w7 wr)) (λi _=>n-(intOf i).toNat)
   case atStart=>exact⟨0,OK _,rfl,Z1 (Oy _ _)⟩
   case round=>
    obtain⟨t,ht,rfl,HM⟩:=hrel;have bf:=af D.o.1 HM.o;have o0:=(D.o.2.2.1.later HM.o).cell 0;by_cases i0:t<n
    ·have X:t<ps.length:=by have:=HP.o.2.2.1;omega
     obtain⟨i1,A8,k8,rfl,_,ar,_,_,_⟩:=(HP.o.2.1.up bf).at_ X;have aa:=be.o.1.2 t X;have ah:=D.o.2.2.2.1.up HM.o;rw[<-iL]at ah;have cw:=yG (e.g.ev.map aK) A3 k3 N (t:Int) _ (jU λx hx=>(be.o.2.2.O3 x hx).ok) ah zO;unfold da at aa;rw[aa]at cw;have gi:=Z1 cw;have bx:=Z1 bf;have ia:(t:Int)<(n:Int):=zO;generalize ps[t].length=pl at*;clear aa ah cw bf;go_wp2_with fail;refine zX gi.o λv8 w8 cx=>?_;obtain⟨A9,k9,rfl,_,_,_⟩:=cx.form;have ab:=Z1 (af HM.o cx.below);clear cx o0;go_wp2;go_roundw
     case rel=>exact⟨t+1,zO,by go_num,ab⟩
     case measure=>simp[intOf];omega
    ·obtain rfl:t=n:=zO;have bx:=Z1 bf;have gj:=Z1 (D.o.2.2.1.later HM.o);clear bf o0;by_cases i2:m=0
     ·have gk:(m:Int)<1:=zO;go_wp2_with fail;go_wp2;go_ret;exact⟨rfl,bx.o⟩
     ·have gk:¬(m:Int)<1:=zO;go_wp2_with fail;refine(d9.o _ 8 bx.o).mono ?_;rintro e8 w8 ⟨rfl,bz⟩;have ab:=Z3 (af bx.o bz) (gj.o.later bz) (af HM.o bz);clear bz
      cases h8:TW ps 8 with
      |true=>
       clear h8;go_wp2;go_ret;exact⟨rfl,ab.o.1⟩
      |false=>
       have H8:=Z1 h8;clear h8;go_wp2_with fail;refine(d9.o _ 2 ab.o.1).mono ?_;rintro e9 w9 ⟨rfl,bg⟩;have F:=Z4 (af ab.o.1 bg) (ab.o.2.1.later bg) (D.o.2.2.2.1.up (af ab.o.2.2 bg)) (D.o.2.1.later (af ab.o.2.2 bg));clear bg
       cases h2:TW ps 2 with
       |true=>
        clear h2;go_wp2;go_ret;exact⟨rfl,F.o.1⟩
       |false=>
        have H2:=Z1 h2;clear h2;have ek:∀y∈ps.flatten,y.k≠2/\y.k≠8:=λy hy=>⟨UO H2.o y hy,UO H8.o y hy⟩;obtain⟨b0,bo⟩:=(r.o.1.live ek zO).rest r.o.1.inv.L r.o.1.inv.Q be.o.2.1;have gm:L4=0:=by rw[D.o.2.2.2.2.2,b0];rfl
        subst gm;have bh:=be.o.2.2;have el:=bh.mp;rw[<-el]at bo;have cy:=D.o.2.2.2.2.1;have em:e.g.ev.take N=e.g.ev:=OT zO;have b3:=SO c HI.o e.g.ev bh.O3 bh.U0 A3 k3 N N w9 F.o.2.2.1 zO (OA _);rw[em]at b3;unfold Cg.val at b3;have gn:=Z1 b3;have en:=(lQ c e.g.ev e.g.ev.length (OA _)).1;rw[PO,<-cy]at en;have go:=Z1 bo;have b4:=Z2 bh.O3 cy;have d0:=F.o.2.2.2.cell 0;have d1:=F.o.2.2.2.cell 1;have d2:=F.o.2.2.2.cell 2;have d3:=F.o.2.2.2.cell 3;have o0:=F.o.2.1.cell 0;generalize fK c e.g.ev=mm at*;clear ek b0 bo bh el cy em b3;go_wp2_with fail;refine gn.o.mono ?_;rintro i5 gq ⟨mb,lb,rfl,bi⟩;clear d0 d1 d2 d3 o0;obtain⟨fs,kv,cv,b5⟩:=bi.at_;have gv:=b5.P4.1;have cz:=Z1 (Jz gq c mb lb fs kv cv mm b5 zO);have f:=Z4 (af F.o.1 bi.below) (F.o.2.1.later bi.below) (F.o.2.2.1.up bi.below) b5;have eo:fs.length<=N:=zO;clear bi b5 en gv;go_wp2_with fail;refine cz.o.mono ?_;rintro i6 ao ⟨i7,H,rfl,hp,ho,c5⟩;obtain⟨i8,i9,rfl,_,_⟩:=ak ho;have aw:=an.C4 ho;obtain⟨K,hK⟩:∃K,K=H.length:=⟨_,rfl⟩;rw[<-hK]at aw;rw[<-hK];have s:=Z4 c5 aw hK hp;have jb:K<=N:=by rw[hK,hp.length_eq,Pe];exact eo
        clear ho aw hK hp c5 cz eo;go_wp2_with fail;go_loopw [123] (λi wr=>∃(q:Nat),q<=K/\i=I q/\Hid (Below ao.heap.size ao wr)) (λi _=>K-(intOf i).toNat)
        case atStart=>exact⟨0,OK _,rfl,Z1 (Oy _ _)⟩
        case round=>
         obtain⟨q,hq,rfl,HQ⟩:=hrel;by_cases ft:q<K
         ·have X:q<H.length:=by have:=s.o.2.2.1;omega
          obtain⟨ad,v,rfl,_,hx,ar⟩:=(s.o.2.1.up HQ.o).at_ ft;have gw:v=.string H[q]:=by simp[X]at hx;exact hx.symm
          subst gw;obtain⟨f0,c6,eq⟩:=Pa.1 (s.o.2.2.2.mem_iff.1 (OR X));have bj:=f.o.2.2.2.C1.ids f0 c6;obtain⟨g,hg⟩:=Tp c6;rw[eq]at bj hg;have P:=jk f.o.2.2.2.C1.ids bj;rw[hg,<-f.o.2.2.2.ls]at P;have bp:(dG fs H[q]).x=g.x:=by unfold dG;rw[hg];rfl
          have ax:=mv f.o.2.2.2.C1 H[q];rw[bp]at ax;have er:=go.o (av H[q]) g.x P;have c8:H[q].size<=maxLen:=by obtain⟨s1,s2,s3⟩:=dn bj;unfold maxLen;omega
          have es:=HQ.o;have c9:=λU (hU:Below ao.heap.size ao U)=>FO U c HI.o mb lb fs kv cv mm (f.o.2.2.2.up (af s.o.1 hU)) H[q] c8;rw[bp,hg]at c9;have jc:(q:Int)<(K:Int):=zO;generalize H[q]=id at*;have gy:=Z1 c9;have gz:=Z1 (λU=>oA id U bj);have et:=Z1 es;have HF:=Z2 ax er;generalize g2:av id=kk at*;have b6:=λU (hU:Below ao.heap.size ao U)=>GZ e.g.ev (λz hz=>(b4.o.1 z hz).ok) kk A3 k3 U (by rw[<-b4.o.2];exact f.o.2.2.1.up (af s.o.1 hU)) (by rw[<-b4.o.2];omega);rw[<-b4.o.2]at b6;unfold K2.arr at b6;have g3:=Z1 b6;generalize g.x=y at*;obtain⟨db,bq,⟨p0,p1,p2,p3,p4,p5⟩,ru⟩:=y;obtain⟨n3,eu⟩:∃n3,n3=db.length:=⟨_,rfl⟩;obtain⟨n4,ew⟩:∃n4,n4=bq.length:=⟨_,rfl⟩;have l:=Z2 eu ew;clear c6 eq bj hg P bp ax er c8 es c9 g2 b6 hx eu ew;go_wp2_with fail;refine(gy.o _ et.o).mono ?_;rintro jd dc ⟨sv,pv,rfl,ap⟩;obtain⟨A1,s1,rfl,_,_⟩:=ak ap.D2;obtain⟨A2,s2,rfl,_,_⟩:=ak ap.C0;have b7:=an.C4 ap.D2;have aa:=an.C4 ap.C0;have dd:=ap.below;simp only at b7 aa;rw[<-l.o.1]at b7;rw[<-l.o.2]at aa;simp only[ldV,<-l.o.1,<-l.o.2];have a6:=Z3 (af et.o dd) b7 aa;have de:=Blk.A8 dc 53 (ldC (.slice none 0 0) (.slice none 0 0) .new) rfl;clear ap dd b7 aa;go_upto_region 28 with(refine zj gO de ?_;intro je ex df)
          have a7:=df.below (zh dc _) (OA _);have a8:=Z4 (af a6.o.1 a7) (a6.o.2.1.up a7) (a6.o.2.2.up a7) ex;clear a6;generalize dc.heap.size=vl at*;clear de ex df a7;go_wp2_with fail;refine(gz.o _).mono ?_;rintro jf b8 ⟨rfl,ai⟩;have a9:=Z4 (af a8.o.1 ai) (a8.o.2.1.up ai) (a8.o.2.2.1.up ai) (a8.o.2.2.2.later ai);clear ai;go_upto_region 29 with fail
          have aj:=zh b8 (.cells #[E kk.hi,E kk.lo] 58);have br:=Blk.A8 b8 58 #[E kk.hi,E kk.lo] rfl;have R:=Z4 (af a9.o.1 aj) (a9.o.2.1.up aj) (a9.o.2.2.1.up aj) (a9.o.2.2.2.later aj);generalize b8.alloc (.cells #[E kk.hi,E kk.lo] 58)=jg at*;generalize b8.heap.size=vk at*;have g0:=br.cell 0;have g1:=br.cell 1;have o0:=(f.o.2.1.later (af s.o.1 R.o.1)).cell 0;clear aj br;go_wp2_with fail;refine(g3.o _ R.o.1).mono ?_;rintro jh ac ⟨rfl,al⟩;have u:=Z4 (af R.o.1 al) (R.o.2.1.up al) (R.o.2.2.1.up al) (R.o.2.2.2.later al);clear al g0 g1 o0;generalize ba:kb e.g.ev kk=bl at*
          cases ru with
          |false=>
           obtain⟨la,bm⟩:∃la:Adv,la=bl.getD az:=⟨_,rfl⟩;rw[<-bm];generalize bl.isSome=li at*;clear bm ba;unfold Adv.cells;obtain⟨l0,l1,l2,l3,l4⟩:=la;go_upto_region 30 with fail
           have b:=zh ac (.cells #[I l0,I l1,I l2,I l3,I l4] 62);have d:=Z2 (af u.o.1 b) (u.o.2.2.2.later b);obtain⟨⟨t0,t1,t2,t3,t4,t5,t6,t7,t8⟩,_⟩:=eR d.o.2;generalize ac.alloc (.cells #[I l0,I l1,I l2,I l3,I l4] 62)=ey at*;clear b;go_quiet (fail);go_wp2;go_roundw
           case rel=>exact⟨q+1,zO,by go_num,Z1 (fd d.o.1 _)⟩
           case measure=>simp[intOf];omega
          |true=>
           by_cases dl:n3=0
           ·subst dl;obtain⟨la,bm⟩:∃la:Adv,la=bl.getD az:=⟨_,rfl⟩;rw[<-bm];generalize bl.isSome=li at*;clear bm ba;unfold Adv.cells;obtain⟨l0,l1,l2,l3,l4⟩:=la;go_upto_region 30 with fail
            have b:=zh ac (.cells #[I l0,I l1,I l2,I l3,I l4] 62);have d:=Z2 (af u.o.1 b) (u.o.2.2.2.later b);obtain⟨⟨t0,t1,t2,t3,t4,t5,t6,t7,t8⟩,_⟩:=eR d.o.2;generalize ac.alloc (.cells #[I l0,I l1,I l2,I l3,I l4] 62)=ey at*;clear b;go_quiet (fail);go_wp2;go_roundw
            case rel=>exact⟨q+1,zO,by go_num,Z1 (fd d.o.1 _)⟩
            case measure=>simp[intOf];omega
           ·have ez:db≠[]:=λh=>dl (by rw[l.o.1,h];rfl);obtain⟨a,e0,bn,b9⟩:=HF.o.2 rfl ez;have hd:bl=some a:=by rw[<-ba];exact e0
            clear ba e0;subst hd;simp only at bn b9;obtain⟨q3,e7⟩:∃q3,n3=q3+1:=⟨n3-1,zO⟩;have dm:q3<db.length:=by have:=l.o.1;omega
            have fv:0<bq.length:=Nat.pos_of_ne_zero λh=>by rw[OU h]at bn;cases bn
            obtain⟨q4,fa⟩:∃q4,n4=q4+1:=⟨n4-1,by have:=l.o.2;omega⟩;have dp:q4<bq.length:=by have:=l.o.2;omega
            have ca:=UU bn dp (by have:=l.o.2;omega);have bb:=Ux HF.o.1.sorted dm (by have:=l.o.1;simp only;omega);have O:=Z2 e7 fa;have he:n3<=1000:=by have:=HF.o.1.E5;have:=Cg.small HI.o;have:=l.o.1;simp only at*;omega
            have fw:n4<=1000:=by have:=HF.o.1.C0;have:=Cg.small HI.o;have:=l.o.2;simp only at*;omega
            simp only[Qd,Rl];simp only at bb;obtain⟨a0,a1,a2,a3,a4⟩:=a;simp only at b9;have fb:=Z2 (b9.trans bb).symm ca;unfold Adv.cells;clear bn b9 ca bb e7 fa;go_upto_region 30 with fail
            have b:=zh ac (.cells #[I a0,I a1,I a2,I a3,I a4] 62);have dq:=Blk.A8 ac 62 #[I a0,I a1,I a2,I a3,I a4] rfl;have d:=Z4 (af u.o.1 b) (u.o.2.1.up b) (u.o.2.2.1.up b) (u.o.2.2.2.later b);obtain⟨⟨t0,t1,t2,t3,t4,t5,t6,t7,t8⟩,_⟩:=eR d.o.2.2.2;obtain⟨⟨c0,c1,c2,c3,c4⟩,_⟩:=eO dq;generalize ac.alloc (.cells #[I a0,I a1,I a2,I a3,I a4] 62)=ey at*;generalize ac.heap.size=va at*;obtain⟨b1,o1,rfl,_,m0,hf⟩:=il d.o.2.1 dm;obtain⟨b2,o2,rfl,_,fc,fe,ff,fg,fh⟩:=Go.Fw.adv_at d.o.2.2.1 dp;rw[fb.o.1]at m0;rw[fb.o.2]at fc fe ff fg fh;simp only at fc fe ff fg fh;have e3:((n3:Int)-1)=(q3:Int):=by have:=O.o.1;omega
            have e4:((n4:Int)-1)=(q4:Int):=by have:=O.o.2;omega
            have w3:IntKind.i64.wrap (q3:Int)=(q3:Int):=IntWalk.i64_in _ ⟨zO,by have:=O.o.1;omega⟩;have ji:IntKind.i64.wrap (q4:Int)=(q4:Int):=IntWalk.i64_in _ ⟨zO,by have:=O.o.2;omega⟩;have i3:(q3:Int)<(n3:Int):=by have:=O.o.1;omega
            have i4:(q4:Int)<(n4:Int):=by have:=O.o.2;omega
            have j3:0<n3:=by have:=O.o.1;omega
            have j5:¬n4=0:=by have:=O.o.2;omega
            have j4:((n4:Int)==0)=false:=by have:=O.o.2;simp;omega
            clear hf;clear b dq ez fv dl he fw;go_quiet (fail);go_wp2;go_roundw
            case rel=>exact⟨q+1,zO,by go_num,Z1 (fd d.o.1 _)⟩
            case measure=>simp[intOf];omega
         ·obtain rfl:K=q:=zO;have o3:=(f.o.2.1.later (af s.o.1 HQ.o)).cell 3;have hh:=Z1 (af f.o.1 (af s.o.1 HQ.o));go_wp2;go_ret;exact⟨rfl,hh.o⟩
  ·have iw:=Int.not_lt.1 λq=>hz ((yy pk).1 q);have dr:=r.o.1.step HP.o.1 (by rw[<-ea.o];exact d8) hz;have fi:=Z1 dr;have jj:IntKind.i64.wrap ((j:Int)+1)=(j:Int)+1:=by rw[OX];omega
   clear hz dr;go_wp2;go_roundw
   case rel=>exact⟨j+1,by have:=fi.o.pot;have:=ea.o;omega,by go_num,Z1 ⟨_,fi.o,ag.o.2.2,ag.o.1,ag.o.2.1⟩⟩
   case measure=>simp[intOf];omega
def vR{st:Int}{ps:List (List Cl)}{wk:Int}(h:(decide (st<=8)&&ef ps wk np)=true):st<=8/\(∀p∈ps,p.length<=8)/\ps.length<=5/\wk<=4/\np<=200:=by
 unfold ef at h;simp only[OY,decide_eq_true_eq,QT]at h;obtain⟨a,b,c,d,e⟩:=h;exact⟨a,b,c,d,e⟩
def KU{l:List Int}(h:rZ l):∀p∈l,aq p:=λp a=>by
 obtain⟨i,b,rfl⟩:=PJ a;exact h i b
def DS{st sa lo hi:Int}{ps:List (List Cl)}{wk:Int}(hL:(decide (st<=8)&&ef ps wk np)=true)(h:cj st sa lo hi ps wk=0)(hx:∀p∈ps,∀x∈p,x.ok):
  ∃(c:Cg) (m:Nat),st=c.st/\sa=c.sa/\lo=c.lo/\hi=c.hi/\wk=m/\ge c ps/\ps.length+m<=32/\0<ps.length+m:=by
 obtain⟨o,d,l,r,s⟩:=vR hL;unfold cj at h;by_cases a:cA st sa lo hi=false\/wk<0\/32<wk\/(ps.length:Int)+wk<1\/32<(ps.length:Int)+wk
 ·rw[OB a]at h
  cases h
 ·have e:cA st sa lo hi=true:=by
   cases hc:cA st sa lo hi with
   |true=>rfl
   |false=>exact absurd (.inl hc) a
  have t:¬wk<0:=λq=>a (.inr (.inl q));have u:¬(ps.length:Int)+wk<1:=λq=>a (.inr (.inr (.inr (.inl q))));have v:¬32<(ps.length:Int)+wk:=λq=>a (.inr (.inr (.inr (.inr q))));have b:=e;unfold cA at b;simp only[OY,decide_eq_true_eq]at b;obtain⟨n,w,y,z⟩:=b;have A:=ob n;have f:st=((st.toNat:Nat):Int):=zO;have g:sa=((sa.toNat:Nat):Int):=zO;have i:lo=((lo.toNat:Nat):Int):=zO;have j:hi=((hi.toNat:Nat):Int):=zO;refine⟨⟨st.toNat,sa.toNat,lo.toNat,hi.toNat⟩,wk.toNat,f,g,i,j,zO,⟨?_,λp k=>⟨OJ (d p k) zP,hx p k⟩,?_⟩,zO,zO⟩
  ·show cA ((st.toNat:Nat):Int) ((sa.toNat:Nat):Int) ((lo.toNat:Nat):Int) ((hi.toNat:Nat):Int)=true;rw[<-f,<-g,<-i,<-j];exact e
  ·have B:=mH ps 8 d;have:ps.length*8<=5*8:=Pr _ l;omega
def Uu(k n:Nat)(ps:List (List Cl))(wk:Int)(l:List Int)(Ap:Option Addr)(kp:Nat)(w:World)(hc:aq st/\aq sa/\aq lo/\aq hi)(hP:dv w A n ps)(hx:∀p∈ps,∀x∈p,x.ok)(hwk:aq wk)(hr:an w w.heap.size 1 Ap l.length (i64s l))(hs:rZ l)(hl:l.length<=maxLen/\l.length<=kp)(hn:n<=10000000000000):
  C 3 #[.agg #[I st,I sa,I lo,I hi],.slice A n k,I wk,.slice Ap l.length kp] w (J (.bool true) w):=by
 cases hL:(decide (st<=8)&&ef ps wk l.length)with
 |false=>exact UH st sa lo hi ps wk A Ap n k l.length kp w hP hn hl.1 hc.1 hwk (.inl hL)
 |true=>
  obtain⟨o,d,f,q,r⟩:=vR hL;have j:=hP.len;by_cases a:l.length=0
  ·exact UH st sa lo hi ps wk A Ap n k l.length kp w hP hn hl.1 hc.1 hwk (.inr a)
  ·by_cases b:cj st sa lo hi ps wk=0
   ·obtain⟨c,m,rfl,rfl,rfl,rfl,rfl,g,h,i⟩:=DS hL b hx;exact UI c ps g A Ap n k l.length kp m w hP h i b l (KU hs) hr zO a d f zO hL
   ·exact Up st sa lo hi ps wk A Ap n k l.length kp w hP zO hl.1 hc.1 hwk hL b a
end Go.Fw
