/- Lemmas of this claim. Conditions: as each says. -/
import Derived.Test.YtpfmpaolgmoajaaGreatS19
set_option linter.unusedVariables false
set_option linter.unusedSimpArgs false
set_option maxHeartbeats 4000000
set_option maxRecDepth 20000
set_option linter.defProp false
open Go.Proofs.Tryz
namespace Go.Fw
open Go.RowKit open Go.Proofs hiding intOf
variable {T:Nat->Tg}{m':Mp}{k n p:Nat}{W w':World}{xs:Array Value}{L:Nat->Prop}{vo' vp vo:Value}(w:World)(wp:Nat)(vs:Value)(v:Vt)(c:Cg)
def Gm(hc:c.ok)(T:Nat->Tg)(wp:Nat)(g:Gs)(h:GAt w c T wp g)(hf:g.E5)(k:K2)(hk:k.ok)(hbz:k∈g.q.busy):
  C 354 #[Z wp 0,k.val] w λe w'=>(∃b:Bool,e=.returned (.bool b))/\bj w w' c T wp (g.F6 k):=by
 have f:=zh w (.cells #[E k.hi,E k.lo] 58);have v:=Blk.A8 w 58 #[E k.hi,E k.lo] rfl;have A:=h.free.up f;have P:Hid (∀U,GAt U c (ext T w.heap.size .free) wp g->C 359 #[Z wp 10,k.val] U λe w'=>e=.returned (.tuple #[.bool (g.q.done k).2,I 0])/\bj U w' c (ext T w.heap.size .free) wp {g with q:=(g.q.done k).1}):=Z1 (λU d=>by
  obtain⟨Q,sp,lb,d⟩:=d;refine zm (Dw wp 10 _ Q _ g.q k U d.wq ⟨hf.q.1,hf.q.2.1,hf.q.2.2⟩ hk hbz) λR X=>?_;exact⟨rfl,d.queue X⟩)
 have HW:=Z1 (λU T' (d:GAt U c T' wp {g with q:=(g.q.done k).1})=>vE U c hc T' wp _ d hf.tasks (OJ hf.line zP) (OJ hf.B3 zP));have l:Hid (g.F6 k=if(g.q.done k).2=true then{g with q:=(g.q.done k).1}.F0 else{g with q:=(g.q.done k).1}):=Z1 rfl;have H:=Z3 A f v;generalize hr:(g.q.done k).2=r at*;obtain⟨B,y⟩:=k;simp only[K2.val,K2.arr]at*;have ae:=v.lt;clear h A f v hr hbz
 go_in
 go_upto_region 1 with fail
 generalize hV:w.alloc (.cells #[E B,E y] 58)=V at*;generalize p:w.heap.size=D at*;have z:=Z1 p;clear hV p;have m:=And.intro H.o.2.2.drew trivial;have i:=(zi V);refine zH (S:=λU=>Blk U D 58 #[E B,E y]/\True) m ?_;refine zq 2 ?_ (λW hW=>?_) ?_;rotate_left
 ·have q0:=hW.1.cell 0;have q1:W.cell? (Y D 1)=some (E y):=hW.1.cell 1;exact zf
 refine zo 1 λK hK=>?_;go_simp
 (refine(gP _ c _ wp g (H.o.1.up i)).mono ?_)
 rintro e1 R ⟨rfl,rfl⟩;refine zJ hK m ?_;refine zo 3 λK hK=>?_;go_simp;refine zm (P.o _ (H.o.1.up i)) λw2 j=>?_;have s:=And.intro (j.B0 m.1 (OA _)) trivial;refine zJ hK s ?_;have t:M w V.drew:=by
  have F:=H.o.2.1;try rw[<-z.o]at F
  exact F.drew
 have n:=Z2 j t;clear j m s i t
 cases r with
 |false=>
  have a:=Z1 l.o;rw[Oz zS]at a;clear l;go_wp2;go_ret;rw[a.o];exact⟨⟨_,rfl⟩,bj.box z.o.symm n.o.2 n.o.1⟩
 |true=>
  have a:=Z1 l.o;rw[OB rfl]at a;clear l;go_wp2_with fail;obtain⟨T2,G,L,N⟩:=n.o.1;refine(HW.o _ T2 L).mono ?_;rintro e3 w3 ⟨⟨x,b,rfl⟩,u⟩;have O:=Z1 (bj.trans G N u);clear G L N u;go_wp2;go_ret;rw[a.o];exact⟨⟨_,rfl⟩,bj.box z.o.symm n.o.2 O.o⟩
def GIn.note{w w1:World}{c:Cg}{wp sp lb:Nat}{g:Gs}{cs:Array Value}(h:GIn w c T wp g cs sp lb)(x:Vt){v v':Value}(hv:cs[15]?=some v)(hrow:w.ownsRow 0 79 34 v g.ev.length (vts g.ev))(htg:∀b,v.ownBlock=some b->T b=.ev)
  (hg:w.grownBy w1 v.ownBlock)(hr1:w1.ownsRow 0 79 34 v' (g.ev.length+1) (vts (g.ev++[x])))(hs:v'.ownBlock=v.ownBlock\/∀k,v'.ownBlock=some k->w.heap.size<=k):bj w (w1.setCell (Y wp 15) v') c T wp (g.note x):=by
 have y:=dl (ag.refl (λj=>j=wp\/v.ownBlock=some j) w) hg (λ_ h=>h) λ_ e=>.inr e;have hK:ag (λj=>j=wp\/v.ownBlock=some j) w (w1.setCell (Y wp 15) v'):=y.setCell (p:=Y wp 15) (.inl (.inl rfl)) _;have z:=aB hrow h.B0 zP;have r:=h.B0.grown hg λe=>z e.symm;have l:=r.B4 15 v';have s:∀b,(b=wp\/v.ownBlock=some b)->T b=.wld\/T b=.ev:=λb e=>by
  rcases e with rfl|e
  ·exact .inl h.tw
  ·exact .inr (htg b e)
 have d:∀(P:Tg->Prop),¬P .wld->¬P .ev->∀b,P (T b)->¬(b=wp\/v.ownBlock=some b):=λP A B b a e=>by
  rcases s b e with m|m<;>rw[m]at a
  ·exact A a
  ·exact B a
 have f:∀b,b<w.heap.size->ext T w.heap.size .ev b=T b:=λb a=>br T _ a;have u:=(bF.refl 6 10 cs).B4 (i:=15) zO zO v';have o:∀j,j≠15->(cs.setIfInBounds 15 v')[j]?=cs[j]?:=λj D=>bf (Pc D) v';refine⟨ext T w.heap.size .ev,fQ T _ _,⟨_,sp,lb,h.P5 l u ((f _ h.B0.lt).trans h.tw) ?_ ?_ h.nl ?_ ?_ ⟨v',cP hv v',?_,λb e=>?_⟩⟩,hK.C3 λb e=>?_⟩
 ·exact h.G3.D1 hK (d (λt=>eE t\/t=.fz) (by rintro(e|e);exact e;cases e) (by rintro(e|e);exact e;cases e)) f
 ·exact h.E4.D1 hK (λb n e=>d (λt=>t=.lk n) (by intro e;cases e) (by intro e;cases e) b e) (λb a _=>f b a)
 ·exact h.ln.D1 l (λj F G=>o j zO) hK (d (λt=>t=.ln\/t=.al) (by rintro(e|e)<;>cases e) (by rintro(e|e)<;>cases e)) (λb a _=>f b a)
 ·exact h.wq.D1 l (λj F G=>o j zO) hK (d (λt=>t=.q) (by intro e;cases e) (by intro e;cases e)) (λb a _=>f b a)
 ·show World.ownsRow _ 0 _ 34 v' (g.ev++[x]).length (vts (g.ev++[x]));rw[OS];exact bA hr1 (p:=Y wp 15) (aB hr1 r zP) v'
 ·rcases hs with hs|hs
  ·rw[hs]at e;rw[f _ (hrow.lt b e).2];exact htg b e
  ·exact cC T _ (hs b e)
 ·show eN (T b)
  rcases s b e with m|m<;>rw[m]<;>trivial
def lB(T:Nat->Tg)(wp:Nat)(g:Gs)(h:GAt w c T wp g)(x:Vt)(hx:x.ok)(hn:g.ev.length<=70000):
  C 276 #[Z wp 0,.agg x.arr] w λe w'=>e=.returned (.tuple #[])/\bj w w' c T wp (g.note x):=by
 have t:=zh w (.cells x.arr 79);have y:=Blk.A8 w 79 x.arr rfl;have h0:=h.free.up t;have HM:=Z1 (gB _ c _ wp g h0);have B:=(oG hx).all;have i:=(oG hx).one;have X:x.arr.size=34:=rfl;have D:=JF g.ev x;have F:x.arr.toList=x.cells:=rfl;rw[<-F]at D;have l:=B;have m:∀u∈x.arr.toList,u.oneCell'=true:=i;have G:=bQ y;generalize ap:x.arr=b at*;have H:=Z7 h0 t y X D l m;clear h h0 t y X D B i l m ap F G hx
 go_in
 go_wp2_with fail;refine HM.o.mono ?_;rintro e w1 ⟨rfl,rfl⟩;clear HM;go_upto_region 2 with fail
 generalize hV:w.alloc (.cells b 79)=V at*;generalize aa:w.heap.size=r at*;have HV:=Z1 aa;clear hV aa;have ab:M V V.drew:=(zi V);obtain⟨cs,sp,lb,p⟩:=H.o.1.up ab;obtain⟨v,hv,a,q⟩:=p.ev;obtain⟨A,k,rfl,ac,au⟩:=ak a;have L:=p.B0;have ad:Blk V.drew r 79 b:=H.o.2.2.1.drew;obtain⟨n,N⟩:∃n,n=g.ev.length:=⟨_,rfl⟩;rw[<-N]at hv a q ac hn;have f:=Z5 p a q hv N;have av:=aB a L zP;have aw:(Value.slice A n k).ownBlock≠some r:=λe=>by
  have h1:=q r e;rw[cC T _ (OA _)]at h1
  cases h1
 obtain⟨z,hE⟩:=Lj;obtain⟨i0,af,ag,ah,ai⟩:=info_parts hE.info;have s:=Z5 hE af ag ah ai;have O:Blk V.drew wp 165 cs/\Blk V.drew r 79 b:=⟨L,ad⟩;clear p a q ac au L ad af ag ah ai hE N ab;refine bW 10 (S:=λU=>Blk U wp 165 cs/\Blk U r 79 b) zR zR O ?_;simp only[OM,OO,ON,OQ];try simp only[zD,zE,Nat.reduceAdd,zG]
 refine zL ?_;refine zq 4 ?_ (λW hW=>?_) ?_;rotate_left
 ·have q0:=(hW.1.cell 15).trans hv;exact zf
 refine zq 5 ?_ (λW hW=>?_) ?_;rotate_left
 ·refine bE ba (.tmp 3) ?_ (Y r 0) ?_ b H.o.2.2.2.1 ?_;exact rfl;exact rfl;exact bQ hW.2
 refine zo 6 λK hK=>?_;refine ul ba zP zP 35 (.tmp 11) rfl underlying35 b zF H.o.2.2.2.1 ?_;refine hK _ _ ⟨O.1.alloc _,O.2.alloc _⟩ ?_;clear hK;refine zn ?_;refine zo 7 λK hK=>?_;refine dC _ (.tmp 10) (.tmp 12) 35 rfl 0 79 i0 z 34 280 s.o.1.under s.o.2.1 s.o.2.2.1 s.o.2.2.2.1 s.o.2.2.2.2 s.o.1.cells zP (.slice A n k) n (vts g.ev) zF (f.o.2.1.alloc _) _ _ 1 1 _ zF (dD V.drew 79 b 34 1 V.drew.heap.size (V.drew.heap.size+1) (by rw[H.o.2.2.2.1]) rfl rfl) H.o.2.2.2.2.2.2 zU zO (OK _) ?_;intro v7 w7 P Q d;obtain⟨A7,k7,rfl,_,_⟩:=ak P;have R:=And.intro ((O.1.alloc _).grown Q λe=>av e.symm) ((O.2.alloc _).grown Q λe=>aw e.symm);refine zJ hK R ?_;rw[bI];have a0:=(R.1.cell 15).trans f.o.2.2.2.1;have a1:=R.1.frozen 15;go_wp2;clear a0 a1;have aj:=f.o.2.2.2.2;have a2:=(World.grownBy_alloc V.drew (.cells b 79) _).trans Q;rw[H.o.2.2.2.2.1]at P;have a3:(Value.slice A7 (n+1) k7).ownBlock=(Value.slice A n k).ownBlock\/∀j,(Value.slice A7 (n+1) k7).ownBlock=some j->V.drew.heap.size<=j:=by
  rcases d with d|d
  ·exact .inl d
  ·refine .inr λj e=>?_;rw[d]at e;injection e with e;rw[<-e];exact(ae (Oy _ V.drew) (.cells b 79)).size
 have a4:=GIn.note f.o.1 x f.o.2.2.2.1 (by rw[<-aj];exact f.o.2.1) f.o.2.2.1 a2 (by rw[<-aj];exact P) a3;refine zt ?_;exact⟨rfl,bj.box HV.o.symm (by show Below _ _ _;rw[HV.o];exact H.o.2.1) (bj.after ((Oy _ V).drew) a4)⟩
def Gs.shut(g:Gs):Gs:=if gL g.mp=0 then{g with mp:=gM g.mp,q:={g.q with over:=true}}.E2 else{g with mp:=gM g.mp}
def Oe{x:Cl}(hk:x.k=8):aH x=0:=by
 unfold aH;simp[hk]
section
variable {w w' w'':World} {c:Cg} {T T':Nat→Tg} {wp sp lb:Nat} {g g':Gs} {cs cs':Array Value}
def GIn.P6(h:GIn w c T wp g cs sp lb)(a1:aW T T' w.heap.size)(a2:eH w' c T' sp m')(a3:ag (λb=>eE (T b)) w w'):GAt w' c T' wp {g with mp:=m'}/\ag (λb=>eN (T b)) w w':=by
 have keepT:∀b,b<w.heap.size->(∀k,T b≠.nd k)->T' b=T b:=λb a i=>a1.keepT a i;have d:=a3.B0 h.B0 (λe=>by rw[h.tw]at e;exact e);refine⟨⟨cs,sp,lb,h.P5 d (bF.refl 6 10 cs) ((keepT _ h.B0.lt (by rw[h.tw];intro k e;cases e)).trans h.tw) a2 ?_ h.nl ?_ ?_ ?_⟩,a3.C3 λb e=>?_⟩
 ·exact h.E4.D1 a3 (λb n e f=>by rw[e]at f;exact f) λb a ⟨n,e⟩=>keepT b a (by rw[e];intro k f;cases f)
 ·exact h.ln.D1 d (λ_ _ _=>rfl) a3 (λb e f=>by rcases e with e|e<;>rw[e]at f<;>exact f) λb a e=>keepT b a (by rcases e with e|e<;>rw[e]<;>intro k f<;>cases f)
 ·exact h.wq.D1 d (λ_ _ _=>rfl) a3 (λb e f=>by rw[e]at f;exact f) λb a e=>keepT b a (by rw[e];intro k f;cases f)
 ·exact h.ev.D1 rfl a3 (λb e f=>by rw[e]at f;exact f) λb a e=>keepT b a (by rw[e];intro k f;cases f)
 ·show eN (T b)
  cases a:T b<;>rw[a]at e<;>first|trivial|exact e.elim
def GIn.Q5(h:GIn w c T wp g cs sp lb)(hs:dJ w w' c T sp m'):bj w w' c T wp {g with mp:=m'}:=by
 obtain⟨b,a,d,e⟩:=hs;obtain⟨f,i⟩:=h.P6 a d e;exact⟨b,a,f,i⟩
def GAt.only(h:GAt w c T wp g)(ht:T k=.free)(hO:aI k w w'):GAt w' c T wp g:=by
 obtain⟨d,i,j,h⟩:=h;have hK:=hO.B7;have a:=hK.B0 h.B0 (λe=>by have:=h.tw;rw[e,ht]at this;cases this);exact⟨d,i,j,h.P5 a (bF.refl _ _ _) h.tw (h.G3.D1 hK (λb e f=>by rw[f,ht]at e;rcases e with e|e;exact e;cases e) λ_ _=>rfl) (h.E4.D1 hK (λb n e f=>by rw[f,ht]at e;cases e) λ_ _ _=>rfl) h.nl (h.ln.D1 a (λ_ _ _=>rfl) hK (λb e f=>by rw[f,ht]at e;rcases e with e|e<;>cases e) λ_ _ _=>rfl) (h.wq.D1 a (λ_ _ _=>rfl) hK (λb e f=>by rw[f,ht]at e;cases e) λ_ _ _=>rfl) (h.ev.D1 rfl hK (λb e f=>by rw[f,ht]at e;cases e) λ_ _ _=>rfl)⟩
def bj.D4{w2:World}(h:bj W w2 c (ext T w.heap.size .free) wp g')(hb:M w W)(hO:aI k w2 w')(hg:w.heap.size<=k)(hgW:k<W.heap.size):bj w w' c T wp g':=by
 obtain⟨d,f,g,i⟩:=h;have j:d k=.free:=by
  rcases f k hgW with e|⟨k,e,_⟩
  ·rw[e,cC T _ hg]
  ·rw[cC T _ hg]at e;cases e
 have m:=hb.size;refine⟨d,λb a=>?_,g.only j hO,?_⟩
 ·have:=f b zO
  rwa [br T _ a]at this
 ·refine bL (bL (ag.B5 hb) i λb a e=>by
   have l:=e
   rwa [br T _ a]at l) hO.B7 λb a e=>?_
  omega
def AI{l:Lk}{r:Rf}(zs:List Int)(h:dX l r):dX (kM l zs) (zs.foldl (λl t=>(ip l t true).1) r):=by
 induction zs generalizing l r with
 |nil=>exact h
 |cons t zs ih=>exact ih (h.ask t true).1
end
def yg(w:World)(c:Cg)(hc:c.ok)(T:Nat->Tg)(wp:Nat)(g:Gs)(h:GAt w c T wp g)(hs:∀t∈g.B3,aq t)(hf:g.ln.line.length<=100)(hz:g.B3.length<=100):
  C 284 #[Z wp 6] w λe w'=>(∃v,e=.returned v)/\bj w w' c T wp g.E2:=by
 obtain⟨d,z,A,h⟩:=h;obtain⟨f,i,l,a⟩:=h.ln;have b:=a.rel;refine(AH wp 6 0 _ d f i l g.B3 w a.L6 kE b.ok (by rw[b.line];exact hf) hz (OK _) (wu hs)).mono ?_;rintro e B ⟨⟨v,rfl⟩,u,x,y,k,m,n,o,p⟩;obtain⟨r,s⟩:=h.line a .ln (.inl rfl) k m (n.C3 λj e=>by rcases e with e|e;exact .inl e;exact .inr (.inl e)) (p.imp id λq=>⟨rfl,q⟩) (.inl o) (AI g.B3 b);exact⟨⟨_,rfl⟩,_,fQ T _ _,⟨_,_,_,r⟩,s⟩
def Gn(w:World)(c:Cg)(hc:c.ok)(T:Nat->Tg)(wp:Nat)(g:Gs)(h:GAt w c T wp g)(hf:g.E5)(hln:g.ln.line.length<=100):
  C 274 #[Z wp 0] w λe w'=>e=.returned (I (gL g.mp))/\bj w w' c T wp g.shut:=by
 obtain⟨u,j,x,h⟩:=h;have m:=Z1 (oR w c T wp g u j x h);have n:=Z1 (qO w c hc T j g.mp h.G3);have y:Hid (∀W,dJ w W c T j (gM g.mp)->bj w W c T wp {g with mp:=gM g.mp}):=Z1 λW hW=>h.Q5 hW;have k:Hid (g.shut=if gL g.mp=0 then{g with mp:=gM g.mp,q:={g.q with over:=true}}.E2 else{g with mp:=gM g.mp}):=Z1 rfl;have G:Hid (∀U a,GAt U c a wp {g with mp:=gM g.mp}->C 283 #[Z wp 10] U λe w'=>(∃v,e=.returned v)/\bj U w' c a wp {g with mp:=gM g.mp,q:={g.q with over:=true}}):=Z1 (λU a b=>by
  obtain⟨u,j,x,b⟩:=b;refine(EL wp 10 _ u _ g.q U b.wq).mono ?_;rintro e z ⟨H,L⟩;exact⟨H,b.queue L⟩)
 have N:=Z1 (λU a (b:GAt U c a wp {g with mp:=gM g.mp,q:={g.q with over:=true}})=>yg U c hc a wp _ b hf.tasks hln (OJ hf.B3 zP));generalize A:gL g.mp=B at*;clear h hf hln A
 go_in
 go_wp2_with fail;refine m.o.mono ?_;rintro e z ⟨rfl,rfl⟩;go_wp2_with fail;refine zm n.o λz p=>?_;have r:=Z1 (y.o _ p);clear p y n m;by_cases l:B=0
 ·subst l;rw[OB rfl]at k;go_wp2_with fail;obtain⟨O,d,f,i⟩:=r.o;refine(G.o _ _ f).mono ?_;rintro e Q ⟨⟨R,rfl⟩,s⟩;have D:=Z1 (bj.trans d i s);clear d f i s;go_wp2_with fail;obtain⟨O,d,f,i⟩:=D.o;refine(N.o _ _ f).mono ?_;rintro e S ⟨⟨X,rfl⟩,t⟩;have F:=Z1 (bj.trans d i t);clear d f i t;go_wp2;go_ret;rw[k.o];exact⟨rfl,F.o⟩
 ·rw[Oz l]at k;have P:(B==0)=false:=by simpa using l
  clear l;go_wp2;go_ret;rw[k.o];exact⟨rfl,r.o⟩
def AJ(w:World)(c:Cg)(T:Nat->Tg)(wp:Nat)(g:Gs)(h:GAt w c T wp g)(hn:g.ev.length<=90000)(hok:∀x∈g.ev,x.ok):
  C 29 #[Z wp 0] w λe w'=>∃v,e=.returned v/\aL 34 w w' 79 v g.ev.length (vts g.ev):=by
 have l:=Z1 (gB w c T wp g h);obtain⟨y,z,B,h⟩:=h;obtain⟨v,d,a,f⟩:=h.ev;have r:=(h.B0.cell 15).trans d;obtain⟨A,k,rfl,s,t⟩:=ak a;have m:=Z1 (yY (vts g.ev) A k g.ev.length w (an.C4 a) (λu b=>by
  obtain⟨x,p,b⟩:=QU.1 b;exact(oG (hok x p)).one u b) zO)
 generalize g.ev.length=n at*;clear hok h d a f
 go_in
 go_wp2_with fail;refine l.o.mono ?_;rintro e q ⟨rfl,rfl⟩;go_wp2_with fail;refine m.o.mono ?_;rintro e q ⟨v,rfl,i⟩;have j:=Z1 i;clear i;go_wp2;go_ret;exact⟨_,rfl,j.o⟩
def Kg(x:ByteArray)(hs:x.size<=maxLen):∃kk:K2,kk.ok/\(bd x=true->kk=av x)/\∀w,C 269 #[.string x] w (J kk.val w):=by
 obtain⟨kk,m,c,d,f⟩:=rJ x hs;refine⟨kk,c,d,λw=>?_⟩;have l:=Z1 (λW=>f W);obtain⟨g,h⟩:=kk;clear c d f
 go_in
 go_wp2_with fail;refine zm (l.o _) λn i=>?_;have j:=Blk.A8 w 58 #[E 0,E 0] rfl;have b:=zh w (.cells #[E 0,E 0] 58);have a:=(j.later i).alloc (.cells #[E g,E h] 58);obtain⟨p,q⟩:=ao a;have r:=a.frozen 0;have s:=a.frozen 1;go_wp2;have k:=(a.B4 0 (E g)).B4 1 (E h);refine OH (au lj rfl k rfl _ rfl) rfl ⟨rfl,?_⟩;exact((aI.B4 _ _ _ _).trans (aI.B4 _ _ _ _)).below (ae (af b i) _) (OA _)
def gV:cU prog 73 11:=⟨zR,zR,zR⟩
def ME(w:World)(c:Cg)(hc:c.ok)(T:Nat->Tg)(wp:Nat)(g:Gs)(h:GAt w c T wp g)(hf:g.E5)(x:Cl)(hx:x.ok):
  C 264 #[Z wp 0,x.val] w λe w'=>e=.returned (g.E6 c x).2.val/\bj w w' c T wp (g.E6 c x).1:=by
 have ac:=zh w (.cells x.arr 73);have t:=ae ac (.cells Rp.zero.arr 77);have u:=(Blk.A8 w 73 x.arr rfl).alloc (.cells Rp.zero.arr 77);have ad:=Blk.A8 (w.alloc (.cells x.arr 73)) 77 Rp.zero.arr (g:=w.heap.size+1) zS;have h0:=h.free.up t;have HM:=Z1 (λV (j:Below (w.alloc (.cells x.arr 73) |>.alloc (.cells Rp.zero.arr 77)).heap.size ((w.alloc (.cells x.arr 73)).alloc (.cells Rp.zero.arr 77)) V)=>gB V c _ wp g (h0.up j));have af:=Z1 (λV (j:Below (w.alloc (.cells x.arr 73) |>.alloc (.cells Rp.zero.arr 77)).heap.size ((w.alloc (.cells x.arr 73)).alloc (.cells Rp.zero.arr 77)) V)=>Gn V c hc _ wp g (h0.up j) hf (OJ hf.line zP));obtain⟨cs,sp,lb,n⟩:=h0;have ag:=Z1 (λV (j:Below (w.alloc (.cells x.arr 73) |>.alloc (.cells Rp.zero.arr 77)).heap.size ((w.alloc (.cells x.arr 73)).alloc (.cells Rp.zero.arr 77)) V)=>oR V c _ wp g cs sp lb (n.up j));have ah:=Z1 (λV (j:Below (w.alloc (.cells x.arr 73) |>.alloc (.cells Rp.zero.arr 77)).heap.size ((w.alloc (.cells x.arr 73)).alloc (.cells Rp.zero.arr 77)) V)=>show C 275 #[Z sp 0,x.val] V (λe w'=>e=.returned (doM c g.mp x).2.val/\bj V w' c (ext T w.heap.size .free) wp {g with mp:=(doM c g.mp x).1})from by
  refine zm (Gg V c hc _ sp g.mp (n.up j).G3 (OJ hf.B9 zP) x hx) λw1 hs=>?_;exact⟨rfl,(n.up j).Q5 hs⟩)
 have v:Hid (x.k=8->(doM c g.mp x).2=.of (gL g.mp)/\(g.E6 c x).1=g.shut):=Z1 (λi=>by
  have h8:=CV (c:=c) (m:=g.mp) (Oe i) i;unfold Gs.E6 Gs.shut;rw[h8];refine⟨rfl,?_⟩;simp only[Rp.of,i,true_and])
 have HX:Hid (x.k≠8->(g.E6 c x).1={g with mp:=(doM c g.mp x).1}):=Z1 (λi=>by
  unfold Gs.E6;exact Oz λe=>i e.1)
 have HR:Hid ((g.E6 c x).2=(doM c g.mp x).2):=Z1 rfl;have l:=Z3 t u ad;generalize (g.E6 c x).1=g8 at*;generalize (g.E6 c x).2=r8 at*;obtain⟨r,O,P,Q,R,a,b,X,d,e0,f⟩:=x;unfold Cl.val at*;simp only[Cl.arr,Rp.zero,Rp.arr,St.zero,St.arr,az]at*;have c0:=(bh u).1.1;clear n ac t u ad hf h hx
 go_in
 by_cases i:r=8
 ·subst i;have hz:((8:Int)==8)=true:=rfl;have y:=Z1 (v.o rfl);clear v HX ag ah;go_wp2_with fail;refine(HM.o _ ?_).mono ?_
  ·exact Oy _ _
  rintro e w1 ⟨rfl,rfl⟩;go_wp2_with fail;refine(af.o _ ?_).mono ?_
  ·exact Oy _ _
  rintro e w1 ⟨rfl,hg⟩;have z:=Z2 hg (hg.B0 l.o.2.2 (OW _));clear hg;generalize gL g.mp=se at*
  go_wp2_with (refine zj aA z.o.2 ?_;intro w6 A B)
  refine OH (au aA rfl A rfl _ rfl) rfl ⟨?_,?_⟩
  ·rw[HR.o,y.o.1];rfl
  ·rw[y.o.2];exact z.o.1.D4 l.o.1 B (OW _) l.o.2.2.lt
 ·have hz:(r==8)=false:=by simpa using i
  have av:=Z1 (HX.o i);clear v HX HM af;go_upto_region 3 with fail
  generalize aw:(w.alloc (.cells #[I r,.string O,I P,I Q,I R,I a,I b,I X,I d,I e0,I f] 73)).alloc (.cells #[I 0,I 0,I 0,I 0,I 0,I 0,I 0,I 0,I 0,I 0,I 0,I 0,I 0] 77)=W0 at*;have D:(#[I r,.string O,I P,I Q,I R,I a,I b,I X,I d,I e0,I f]:Array Value).size=11:=rfl;generalize p:w.heap.size=v9 at*;have HV:=Z1 p;generalize ay:(#[I r,.string O,I P,I Q,I R,I a,I b,I X,I d,I e0,I f]:Array Value)=xa at*;have F:(#[I 0,I 0,I 0,I 0,I 0,I 0,I 0,I 0,I 0,I 0,I 0,I 0,I 0]:Array Value).size=13:=rfl;generalize a1:(#[I 0,I 0,I 0,I 0,I 0,I 0,I 0,I 0,I 0,I 0,I 0,I 0,I 0]:Array Value)=ya at*;have a2:=Z1 D;have a3:=Z1 F;clear aw p ay a1 c0 D F;have G:=(zi W0);have H:=And.intro l.o.2.1.drew l.o.2.2.drew;refine bW 4 (S:=λU=>Blk U v9 73 xa/\Blk U (v9+1) 77 ya) zR zR H ?_;simp only[OM,OO,ON,OQ];try simp only[zD,zE,Nat.reduceAdd,zG]
  refine zL ?_;refine zq 2 ?_ (λW hW=>?_) ?_;rotate_left
  ·refine bE gV (.tmp 3) ?_ (Y v9 0) ?_ xa a2.o ?_;exact rfl;exact rfl;exact bQ hW.1
  refine zo 1 λK hK=>?_;go_simp
  (refine(ag.o _ G).mono ?_)
  rintro e1 w1 ⟨rfl,rfl⟩;refine zJ hK H ?_;refine zo 3 λK hK=>?_;go_simp;refine zm (ah.o _ G) λw2 q=>?_;have L:=And.intro (q.B0 H.1 (OA _)) (q.B0 H.2 (OW _));refine zJ hK L ?_;rw[bI];have z:=Z2 q L.2;clear q L H G;generalize (doM c g.mp ⟨r,O,P,Q,R,a,b,X,d,e0,f⟩).2=s at*;have aq:=dy s;have aj:s.arr.size=13:=rfl;have N:s.val=.agg s.arr:=rfl;rw[N];have a4:=Z1 (show r8.val=.agg s.arr by rw[HR.o];rfl);clear N HR;generalize s.arr=ra at*
  go_wp2_with (refine ai aA rfl (.tmp 4) (.tmp 18) rfl (v9+1) zF _ zF z.o.2 aj a3.o aq ?_;intro w6 A B)
  refine OH (au aA rfl A aj _ rfl) rfl ⟨?_,?_⟩
  ·rw[a4.o]
  ·rw[av.o];have p:=HV.o;subst p;exact(bj.after ((zi W0)) z.o.1).D4 l.o.1 B (OW _) l.o.2.2.lt
def lkZ:Array Value:=#[.int .u32 0,.int .u32 0,.slice none 0 0]
def Dz(n:Nat)(hn:n<=1000)(w:World):(Instr.makeSlice 152 (I (n:Int)) (I (n:Int))).run prog w=.ok (V w.heap.size 0 n n) (w.alloc (.cells (madeCells lkZ (n*3)) 156)):=by
 obtain⟨i,c,d,a,b⟩:=info_parts (show(prog.info? 156).map (λi=>(i.zero,i.size,i.bytes))=some (some (.agg lkZ),3,32) by kernel_rfl);have h:=run_make (P:=prog) w 152 156 i (.agg lkZ) underlying152 c d .i64 .i64 n n zO zO (by rw[b];omega) zO;rw[a]at h;simp only[PH]at h;exact h
def made_at(n i j:Nat)(hi:i<n)(hj:j<3):(madeCells lkZ (n*3))[i*3+j]?=lkZ[j]?:=by
 have a:i*3+j<n*3:=zO;have b:(i*3+j)%3=j:=zO;simp only[madeCells,Array.getElem?_map];rw[Array.getElem?_range];simp only[a,if_true,PT];rw[show lkZ.size=3 from rfl,b]
 rcases j with _|_|_|j
 ·rfl
 ·rfl
 ·rfl
 ·omega
def yi(c:Cg)(sp lb:Nat):Array Value:=#[I c.st,I c.sa,I c.lo,I c.hi,Z sp 0,V lb 0 (c.st+1) (c.st+1),.int .u32 0,.int .u32 0,.slice none 0 0,.slice none 0 0,.slice none 0 0,.slice none 0 0,.map none,.map none,.bool false,.slice none 0 0]
def yj:dX ⟨0,0,[]⟩ .zero:=⟨om,om,rfl,λy e=>by cases e⟩
def MF{w:World}{c:Cg}{sp lb wp:Nat}(h:eH w c T sp .new)(hb:M w w')(h1:w.heap.size<=lb)(h2:w.heap.size<=wp)(hl:Blk w' lb 156 (madeCells lkZ ((c.st+1)*3)))(hw:Blk w' wp 165 (yi c sp lb)):
  GAt w' c (λb=>if b<w.heap.size then T b else if b=lb then .lk (c.st+1)else .wld) wp (.new c):=by
 have g:wp≠lb:=λe=>by subst e;exact fq hw hl zP rfl
 have a:∀b,(Value.slice none 0 0).ownBlock=some b->False:=λb e=>by cases e
 refine⟨yi c sp lb,sp,lb,hw,rfl,rfl,rfl,rfl,rfl,rfl,rfl,?_,?_,?_,?_,?_,?_,?_⟩
 ·show(if wp<w.heap.size then _ else _)=_;rw[Oz zO,Oz g]
 ·exact h.D1 (ag.B5 hb) (λ_ _ e=>e) λb i=>OB i
 ·refine⟨madeCells lkZ ((c.st+1)*3),λ_=>.slice none 0 0,λ_=>⟨0,0,[]⟩,hl,?_,λn f=>?_,λn f=>?_,λn _ b e=>(a b e).elim⟩
  ·show(if lb<w.heap.size then _ else _)=Tg.lk (List.replicate (c.st+1) Rf.zero).length;rw[Oz zO,OB rfl,RQ]
  ·have d:n<c.st+1:=by rw[show(Gs.new c).E4=List.replicate (c.st+1) Rf.zero from rfl,RQ]at f;exact f
   exact⟨hl,aQ.F8 _ _ _ _,made_at _ n 0 d zO,made_at _ n 1 d zO,made_at _ n 2 d zO⟩
  ·show dX (⟨0,0,[]⟩:Lk) ((List.replicate (c.st+1) Rf.zero).getD n .zero);rw[OP,List.getElem?_replicate];split<;>exact yj
 ·exact RQ
 ·exact⟨.slice none 0 0,.slice none 0 0,⟨0,0,[]⟩,⟨⟨⟨hw,aQ.F8 _ _ _ _,rfl,rfl,rfl⟩,aQ.F8 _ _ _ _,rfl⟩,yj,λb e=>(a b e).elim,λb e=>(a b e).elim⟩⟩
 ·exact⟨⟨.slice none 0 0,.slice none 0 0,[],[],⟨hw,Pn _ _ _ _,Pn _ _ _ _,λk e=>(a k e).elim,rfl,rfl,zP⟩,rfl,λb e=>(a b e).elim,λb e=>(a b e).elim⟩,rfl,.inl ⟨rfl,rfl,rfl,rfl⟩,λk e=>by cases e⟩
 ·exact⟨.slice none 0 0,rfl,Pn _ _ _ _,λb e=>(a b e).elim⟩
def Kh(hc:c.ok)(T:Nat->Tg):
  C 48 #[c.val] w λe w'=>∃T' wp,e=.returned (.tuple #[Z wp 0,I 0])/\GAt w' c T' wp (.new c)/\(∀b,b<w.heap.size->T' b=T b)/\w.heap.size<=wp/\M w w':=by
 have q:=zh w (.cells c.cells.toArray 23);have r:=Blk.A8 w 23 c.cells.toArray rfl;have y:=λW=>gH c.st c.sa c.lo c.hi W;have G:pu c.st c.sa c.lo c.hi=0:=by exact OB hc
 rw[G]at y;have n:=Z3 y q r;have HN:=Z1 (λW=>Ds W c hc T);have HC:=Z1 hc;have HL:=Z1 (λW=>show C 97 #[.agg #[I c.st,I c.sa,I c.lo,I c.hi]] W (λe w'=>e=.returned (I ((c.st+1:Nat):Int))/\M W w')from ju c hc W);have HG:=Z1 (λT (w w':World) sp lb wp=>MF (w:=w) (w':=w') (c:=c) (T:=T) (sp:=sp) (lb:=lb) (wp:=wp));have H:=(Cg.small hc).2.1;have HM:Hid (∀W,(Instr.makeSlice 152 (I ((c.st:Int)+1)) (I ((c.st:Int)+1))).run prog W=.ok (V W.heap.size 0 (c.st+1) (c.st+1)) (W.alloc (.cells (madeCells lkZ ((c.st+1)*3)) 156))):=Z1 (λW=>Dz (c.st+1) zO W);obtain⟨a,i,j,k⟩:=c;clear y q r G hc;unfold Cg.val at*;simp only[Cg.cells]at n;simp only at H
 go_in
 go_wp2_with fail;refine zm (n.o.1 _) λw1 f=>?_;have g:=Z2 (af n.o.2.1 f) (n.o.2.2.later f);clear f;have z:=g.o.2.cell 0;have A:=g.o.2.cell 1;have B:=g.o.2.cell 2;have D:=g.o.2.cell 3;go_wp2_with fail;refine(HN.o _).mono ?_;rintro e p ⟨T2,sp,rfl,l,s,t,f⟩;have m:=Z4 l s t f;clear l s t z A B D;go_upto_region 5 with fail
 generalize h:w.heap.size=F at*;have HV:=Z1 h;clear h;have L:=And.intro ((g.o.2.later f).drew) trivial;have al:=(zi p);refine zH (S:=λU=>Blk U F 23 #[I a,I i,I j,I k]/\True) L ?_;refine zq 0 ?_ (λW hW=>?_) ?_;rotate_left
 ·have z:=hW.1.cell 0;have A:=hW.1.cell 1;have B:=hW.1.cell 2;have D:=hW.1.cell 3;exact zf
 refine zL ?_;refine zq 2 ?_ (λW hW=>?_) ?_;rotate_left
 ·have z:=hW.1.cell 0;have A:=hW.1.cell 1;have B:=hW.1.cell 2;have D:=hW.1.cell 3;exact zf
 refine zL ?_;refine zo 3 λK hK=>?_;go_simp;refine zm (HL.o _) λd u=>?_;have v:=And.intro (L.1.later u) trivial;refine zJ hK v ?_;refine zo 4 λK hK=>?_;go_simp;rw[HM.o _];simp only[Result.andThen_ok];have N:=Blk.A8 d 156 (madeCells lkZ ((a+1)*3)) rfl;have x:Blk (d.alloc (.cells (madeCells lkZ ((a+1)*3)) 156)) F 23 #[I a,I i,I j,I k]/\True:=⟨v.1.alloc _,trivial⟩;refine zJ hK x ?_;refine zo 6 λK hK=>?_;go_simp;have O:Blk ((d.alloc (.cells (madeCells lkZ ((a+1)*3)) 156)).alloc (.cells (yi ⟨a,i,j,k⟩ sp d.heap.size) 165)) F 23 #[I a,I i,I j,I k]/\True:=⟨x.1.alloc _,trivial⟩;refine zJ hK O ?_;go_wp2
 go_ret2
 have h:=HV.o;subst h;have P:=g.o.1;have Q:=m.o.2.2.2;have b3:=(zi p);have R:=af b3 u;have X:=ae (ae R (.cells (madeCells lkZ ((a+1)*3)) 156)) (.cells (yi ⟨a,i,j,k⟩ sp d.heap.size) 165);have z1:=P.size;have z2:=Q.size;have z4:=R.size;have aa:d.heap.size+1=(d.alloc (.cells (madeCells lkZ ((a+1)*3)) 156)).heap.size:=zS;refine⟨_,d.heap.size+1,rfl,HG.o T2 p _ sp d.heap.size (d.heap.size+1) m.o.1 X z4 zO (N.alloc _) ?_,λb hb=>?_,zO,?_⟩
 ·rw[aa];exact Blk.A8 _ 165 (yi ⟨a,i,j,k⟩ sp d.heap.size) rfl
 ·show(if b<p.heap.size then _ else _)=_;rw[OB zO];exact m.o.2.1 b zO
 ·exact af (af P Q) X
def bc(A:World->(Nat->Tg)->Prop)(w w':World)(c:Cg)(T:Nat->Tg)(wp:Nat)(g':Gs)(p:Nat):Prop:=∃T',aW T T' w.heap.size/\GAt w' c T' wp g'/\A w' T'/\ag (λb=>eN (T b)\/b=p) w w'
section
variable {A:World→(Nat→Tg)→Prop} {w w' w'' W:World} {c:Cg} {T T':Nat→Tg} {wp p:Nat} {g g':Gs}
def bc.trans(h1:aW T T' w.heap.size)(hK:ag (λb=>eN (T b)\/b=p) w w')(h2:bc A w' w'' c T' wp g' p):bc A w w'' c T wp g' p:=by
 obtain⟨d,f,g,h,i⟩:=h2;refine⟨d,h1.trans f hK.size,g,h,bL hK i λb j e=>?_⟩
 rcases e with e|e
 ·rcases h1 b j with a|⟨k,a,l⟩
  ·rw[a]at e;exact .inl e
  ·rw[l]at e;exact e.elim
 ·exact .inr e
def bc.after(hb:M w w')(h2:bc A w' w'' c T' wp g' p):bc A w w'' c T' wp g' p:=bc.trans (aW.refl _ _) (ag.B5 hb) h2
def bc.box(hn:n=w.heap.size)(hb:M w W)(h:bc A W w' c (ext T n .free) wp g' p):bc A w w' c T wp g' p:=by
 subst hn;obtain⟨f,g,i,j,k⟩:=h;refine⟨f,λb a=>?_,i,j,bL (ag.B5 hb) k λb a e=>?_⟩
 ·have l:=g b (OV a hb.size)
  rwa [br T _ a]at l
 ·rcases e with e|e
  ·have d:=e;rw[br T _ a]at d;exact .inl d
  ·exact .inr e
def bj.O1{t:TypeId}(h:bj w w' c T wp g')(hb:Blk w p t xs)(ht:T p=.free):Blk w' p t xs:=by
 obtain⟨_,_,_,a⟩:=h;exact a.B0 hb λe=>by rw[ht]at e;exact e
end
structure Ci.ok(c:Cg)(x:Ci):Prop where
 prog:∀y∈x.prog,y.ok
 len:x.prog.length<=1000
 task:0<=x.task/\x.task<32
 nth:x.nth<=x.prog.length
 at_:x.at_<(aF c x.call).length
 B8:x.B8= -1\/∃n:Nat,x.B8=n/\n<c.st+2
 rep:x.rep.ok
def Ci.ok.call{c:Cg}{x:Ci}(h:x.ok c)(ho:x.over=false):x.nth<x.prog.length/\x.call∈x.prog/\x.call.ok:=by
 have a:x.nth<x.prog.length:=by
  unfold Ci.over at ho
  simpa using ho
 have b:x.call∈x.prog:=by
  unfold Ci.call;rw[OP,OL a];exact OR a
 exact⟨a,b,h.prog _ b⟩
def bv(wp:Nat)(vp vo:Value)(x:Ci):Array Value:=#[Z wp 0,vp,vo,I x.task,I (x.nth:Int),I (x.at_:Int),I x.B8,I x.rep.err,I x.rep.I9,I x.rep.handle,I x.rep.stat.count,I x.rep.stat.sum,I x.rep.stat.least,I x.rep.stat.F5,I x.rep.stat.F3,I x.rep.E0.tick,I x.rep.E0.load,I x.rep.E0.want,I x.rep.E0.V1,I x.rep.E0.I8]
def iM{w:World}{p wp:Nat}{t:TypeId}{vp vo:Value}{x:Ci}(h:Blk w p t (bv wp vp vo x)):w.cell? (Y p 0)=some (Z wp 0):=h.cell 0
def wj{w:World}{p wp:Nat}{t:TypeId}{vp vo:Value}{x:Ci}(h:Blk w p t (bv wp vp vo x)):w.cell? (Y p 1)=some vp:=h.cell 1
def s9{w:World}{p wp:Nat}{t:TypeId}{vp vo:Value}{x:Ci}(h:Blk w p t (bv wp vp vo x)):w.cell? (Y p 2)=some vo:=h.cell 2
def tc{w:World}{p wp:Nat}{t:TypeId}{vp vo:Value}{x:Ci}(h:Blk w p t (bv wp vp vo x)):w.cell? (Y p 3)=some (I x.task):=h.cell 3
def mZ{w:World}{p wp:Nat}{t:TypeId}{vp vo:Value}{x:Ci}(h:Blk w p t (bv wp vp vo x)):w.cell? (Y p 4)=some (I (x.nth:Int)):=h.cell 4
def wm{w:World}{p wp:Nat}{t:TypeId}{vp vo:Value}{x:Ci}(h:Blk w p t (bv wp vp vo x)):w.cell? (Y p 5)=some (I (x.at_:Int)):=h.cell 5
def td{w:World}{p wp:Nat}{t:TypeId}{vp vo:Value}{x:Ci}(h:Blk w p t (bv wp vp vo x)):w.cell? (Y p 6)=some (I x.B8):=h.cell 6
def Ln{w:World}{p wp:Nat}{t:TypeId}{vp vo:Value}{x:Ci}(h:Blk w p t (bv wp vp vo x)):w.cell? (Y p 7)=some (I x.rep.err):=h.cell 7
structure cI(w:World)(c:Cg)(T:Nat->Tg)(wp p:Nat)(x:Ci)(vp vo:Value):Prop where
 B0:Blk w p 201 (bv wp vp vo x)
 tp:T p=.free
 prog:w.ownsRow 0 73 11 vp x.prog.length (cls x.prog)
 I5:∀b,vp.ownBlock=some b->T b=.free
 ops:(vo=.slice none 0 0/\x.at_=0)\/w.ownsRow 0 250 2 vo (aF c x.call).length (d7 (aF c x.call))
 G4:∀b,vo.ownBlock=some b->T b=.free
def cY(w:World)(c:Cg)(T:Nat->Tg)(wp p:Nat)(x:Ci):Prop:=∃vp vo,cI w c T wp p x vp vo
def bp(w w':World)(c:Cg)(T:Nat->Tg)(wp:Nat)(g':Gs)(p:Nat)(x':Ci):Prop:=∃T',aW T T' w.heap.size/\GAt w' c T' wp g'/\cY w' c T' wp p x'/\ag (λb=>eN (T b)\/b=p) w w'
section
variable {w w' w'' W:World} {c:Cg} {T T':Nat→Tg} {wp p:Nat} {g g':Gs} {x x':Ci} {vp vo:Value}
def cI.B7(h:cI w c T wp p x vp vo)(hK:ag L w w')(hL:∀b,T b=.free->¬L b)(hT:∀b,b<w.heap.size->T b=.free->T' b=.free):cI w' c T' wp p x vp vo:=
 ⟨hK.B0 h.B0 (hL _ h.tp),hT _ h.B0.lt h.tp,hK.C8 h.prog λb e=>hL _ (h.I5 b e),λb e=>hT _ (h.prog.lt b e).2 (h.I5 b e),h.ops.imp id λa=>hK.C8 a λb e=>hL _ (h.G4 b e),λb e=>by
  rcases h.ops with a|a
  ·rw[a.1]at e;cases e
  ·exact hT _ (a.lt b e).2 (h.G4 b e)⟩
def cI.up(h:cI w c T wp p x vp vo)(hb:M w w'):cI w' c T wp p x vp vo:=h.B7 (ag.B5 hb) (λ_ _ e=>e) λ_ _ e=>e
def cI.more(h:cI w c T wp p x vp vo)(hT:∀b,b<w.heap.size->T' b=T b):cI w c T' wp p x vp vo:=h.B7 (ag.refl (λ_=>False) w) (λ_ _ e=>e) λb a e=>(hT b a).trans e
def cY.up(h:cY w c T wp p x)(hb:M w w'):cY w' c T wp p x:=by
 obtain⟨a,b,h⟩:=h;exact⟨a,b,h.up hb⟩
def bp.F4(h:cY w c T wp p x)(hg:bj w w' c T wp g'):bp w w' c T wp g' p x:=by
 obtain⟨g,a,i,d⟩:=hg;obtain⟨j,l,h⟩:=h;exact⟨g,a,i,⟨j,l,h.B7 d (λb e f=>by rw[e]at f;exact f) λb m e=>(a.keepT m (by rw[e];intro k f;cases f)).trans e⟩,d.C3 λb e=>.inl e⟩
def bp.trans(h1:aW T T' w.heap.size)(hK:ag (λb=>eN (T b)\/b=p) w w')(h2:bp w' w'' c T' wp g' p x'):bp w w'' c T wp g' p x':=by
 obtain⟨d,f,g,h,i⟩:=h2;refine⟨d,h1.trans f hK.size,g,h,bL hK i λb j e=>?_⟩
 rcases e with e|e
 ·rcases h1 b j with a|⟨k,a,l⟩
  ·rw[a]at e;exact .inl e
  ·rw[l]at e;exact e.elim
 ·exact .inr e
def bp.after(hb:M w w')(h2:bp w' w'' c T wp g' p x'):bp w w'' c T wp g' p x':=bp.trans (aW.refl _ _) (ag.B5 hb) h2
def bp.later(h1:bp w w' c T wp g p x)(hb:Below w'.heap.size w' w''):bp w w'' c T wp g p x:=by
 obtain⟨a,b,d,e,f⟩:=h1;exact⟨a,b,d.up hb,e.up hb,f.trans (ag.B5 hb)⟩
def bp.box(hn:n=w.heap.size)(hb:M w W)(h:bp W w' c (ext T n .free) wp g' p x'):bp w w' c T wp g' p x':=by
 subst hn;obtain⟨f,g,i,j,k⟩:=h;refine⟨f,λb a=>?_,i,j,bL (ag.B5 hb) k λb a e=>?_⟩
 ·have l:=g b (OV a hb.size)
  rwa [br T _ a]at l
 ·rcases e with e|e
  ·have d:=e;rw[br T _ a]at d;exact .inl d
  ·exact .inr e
def bp.own(hg:GAt w c T wp g)(h:cI w c T wp p x vp vo)(hO:aI p w w')(hb:Blk w' p 201 (bv wp vp vo' x'))(hp:x'.prog=x.prog)
  (ho:(vo'=.slice none 0 0/\x'.at_=0)\/w.ownsRow 0 250 2 vo' (aF c x'.call).length (d7 (aF c x'.call)))(ht:∀b,vo'.ownBlock=some b->T b=.free):bp w w' c T wp g p x':=by
 have hK:=hO.B7;refine⟨T,aW.refl _ _,hg.only h.tp hO,⟨vp,vo',hb,h.tp,?_,h.I5,ho.imp id λa=>hK.C8 a λb e f=>?_,ht⟩,hK.C3 λb e=>.inr e⟩
 ·rw[hp];exact hK.C8 h.prog λb e f=>aB h.prog h.B0 zP (f▸e)
 ·exact aB a h.B0 zP (f▸e)
end
def cI.own{w w':World}{c:Cg}{T:Nat->Tg}{wp p:Nat}{x x':Ci}{vp vo:Value}(h:cI w c T wp p x vp vo)(hO:aI p w w'){vo':Value}(hb:Blk w' p 201 (bv wp vp vo' x'))(hp:x'.prog=x.prog)
  (ho:(vo'=.slice none 0 0/\x'.at_=0)\/w.ownsRow 0 250 2 vo' (aF c x'.call).length (d7 (aF c x'.call)))(ht:∀b,vo'.ownBlock=some b->T b=.free):cI w' c T wp p x' vp vo':=by
 have hK:=hO.B7;refine⟨hb,h.tp,?_,h.I5,ho.imp id λa=>hK.C8 a λb e f=>?_,ht⟩
 ·rw[hp];exact hK.C8 h.prog λb e f=>aB h.prog h.B0 zP (f▸e)
 ·exact aB a h.B0 zP (f▸e)
def cI.F4{w w':World}{c:Cg}{T:Nat->Tg}{wp p:Nat}{g':Gs}{x:Ci}{vp vo:Value}(h:cI w c T wp p x vp vo)(hg:bj w w' c T wp g'):bc (λW T=>cI W c T wp p x vp vo) w w' c T wp g' p:=by
 obtain⟨g,a,i,d⟩:=hg;exact⟨g,a,i,h.B7 d (λb e f=>by rw[e]at f;exact f) λb j e=>(a.keepT j (by rw[e];intro k f;cases f)).trans e,d.C3 λb e=>.inl e⟩
def oT(w:World)(c:Cg)(T:Nat->Tg)(wp p:Nat)(x:Ci)(h:cY w c T wp p x)(hx:x.ok c):C 257 #[Z p 0] w (J (.bool x.over) w):=by
 obtain⟨b,j,h⟩:=h;have l:w.cell? (Y p 4)=some (I (x.nth:Int)):=h.B0.cell 4;have m:w.cell? (Y p 1)=some b:=h.B0.cell 1;obtain⟨A,k,rfl,f,g⟩:=ak h.prog;have a:decide (x.prog.length<=x.nth)=x.over:=rfl;have d:=Z1 a;have i:M w w.drew:=(zi w);generalize x.prog.length=n at*;clear h hx a
 go_in
 go_wp2;go_quiet (fail);go_wp2;go_ret;refine⟨?_,fd (Oy _ w) _⟩;show Ending.returned (.bool (decide (n<=x.nth)))=_;rw[d.o]
def ue(a:Int):(a !=0)=decide (a≠0):=by by_cases h:a=0<;>simp[h]
def qU(w:World)(c:Cg)(hc:c.ok)(T:Nat->Tg)(wp p:Nat)(g:Gs)(x:Ci)(hg:GAt w c T wp g)(h:cY w c T wp p x)(hx:x.ok c):C 258 #[Z p 0] w (J (.bool (x.ready g)) w):=by
 have j:=Z1 (λU k=>oT U c T wp p x (h.up k) hx);have s:=Z1 (λU (k:M w U)=>vC U c hc T wp g (hg.up k));obtain⟨l,m,h⟩:=h;have d:=And.intro ((zi w)) h.B0.drew;have q:x.ready g=(!x.over&&(decide (x.B8<0)||decide (g.held x.B8 x.task≠0))):=rfl;have t:aq x.task:=by have:=hx.task;constructor<;>omega
 have f:=hx.B8;generalize x.over=u at*;rw[q];clear h hg hx q
 cases u with
 |true=>
  go_in
  go_upto_region 1 with fail
  refine zH (S:=λU=>M w U/\Blk U p 201 (bv wp l m x)) d ?_;refine zo 1 λK hK=>?_;go_simp;refine zm (j.o _ d.1) λr b=>?_;have a:=And.intro (af d.1 b) (d.2.later b);refine zJ hK a ?_;go_wp2;go_ret;exact⟨rfl,a.1⟩
 |false=>
  rcases f with f|⟨n,f,v⟩
  ·rw[f]
   go_in
   go_upto_region 1 with fail
   refine zH (S:=λU=>M w U/\Blk U p 201 (bv wp l m x)) d ?_;refine zo 1 λK hK=>?_;go_simp;refine zm (j.o _ d.1) λr b=>?_;have a:=And.intro (af d.1 b) (d.2.later b);refine zJ hK a ?_;refine zq 7 ?_ (λW hW=>?_) ?_;rotate_left
   ·have i:=td hW.2;rw[f]at i;exact zf
   refine zL ?_;go_wp2;go_ret;exact⟨rfl,a.1⟩
  ·rw[f]
   go_in
   go_upto_region 1 with fail
   refine zH (S:=λU=>M w U/\Blk U p 201 (bv wp l m x)) d ?_;refine zo 1 λK hK=>?_;go_simp;refine zm (j.o _ d.1) λr b=>?_;have a:=And.intro (af d.1 b) (d.2.later b);refine zJ hK a ?_;refine zq 7 ?_ (λW hW=>?_) ?_;rotate_left
   ·have i:=td hW.2;rw[f]at i;exact zf
   refine zL ?_;refine zq 13 ?_ (λW hW=>?_) ?_;rotate_left
   ·have y:=iM hW.2;exact zf
   refine zL ?_;refine zq 17 ?_ (λW hW=>?_) ?_;rotate_left
   ·have i:=td hW.2;rw[f]at i;exact zf
   refine zL ?_;refine zq 21 ?_ (λW hW=>?_) ?_;rotate_left
   ·have z:=tc hW.2;exact zf
   refine zo 22 λK hK=>?_;go_simp
   (refine(s.o _ a.1 n v _ t).mono ?_)
   rintro A B ⟨rfl,rfl⟩;refine zJ hK a ?_;go_wp2;go_ret;refine⟨?_,a.1⟩;show Ending.returned (.bool (decide ((n:Int)<0)||(g.held n x.task !=0)))=_;rw[ue];rfl
def cI.K4{w:World}{c:Cg}{wp:Nat}{x:Ci}(h:cI w c T wp p x vp vo)(hlt:x.nth<x.prog.length):∃b o k,vp=V b o x.prog.length k/\∀U,M w U->∀j v,x.call.arr.toList[j]?=some v->U.cell? (((Y b (o+x.nth*11)):Addr).add j)=some v:=by
 obtain⟨A,k,rfl,r,s⟩:=ak h.prog;have d:=an.C4 h.prog;obtain⟨b,o,rfl,t,y⟩:=sf d hlt;refine⟨b,o,k,rfl,λU i j v f=>?_⟩;obtain⟨z,B,e,_,g⟩:=sf (d.up i) hlt;injection e with e;injection e with l m;subst l m;have a:x.call=x.prog[x.nth]:=by
  unfold Ci.call;rw[OP,OL hlt];rfl
 rw[a]at f;refine dw (b:=b) (o:=o+x.nth*11) (cs:=x.prog[x.nth].arr) (λj u n=>?_) j v f;have q:=g j u n;rw[PQ];exact q
def Gp{w:World}{wp:Nat}{t:TypeId}{x:Ci}(h:Blk w p t (bv wp vp vo x)):∀j v,x.rep.arr.toList[j]?=some v->w.cell? (((Y p 7):Addr).add j)=some v:=by
 refine dw (b:=p) (o:=7) (cs:=x.rep.arr) λj v a=>?_;have e:j<13:=by
  have c:=OZ.1 a;obtain⟨d,_⟩:=c;exact d
 rw[h.cell];rw[<-a]
 rcases j with _|_|_|_|_|_|_|_|_|_|_|_|_|j<;>first|rfl|omega
def iN{n:Int}(h:0<=n/\n<=1000000):aq n:=⟨zO,zO⟩
def DB:(⟨0,0⟩:K2).ok:=⟨⟨zP,zP⟩,zP,zP⟩
def nT:az.ok:=⟨aD,aD,aD,aD,aD⟩
def ym:Rp.zero.ok:=⟨aD,aD,aD,⟨aD,aD,aD,aD,aD⟩,nT⟩
def mE:v.arr.all (·.oneCell')=true:=by simp[Vt.arr,Vt.cells,Cl.cells,Cl.arr,Rp.cells,Rp.arr,St.cells,St.arr,Adv.cells,K2.cells,Value.oneCell']
def kF:v.arr.size=34:=rfl
def bj.E8{c:Cg}{wp:Nat}{g':Gs}{t:TypeId}(h:bj W w' c (ext T n .free) wp g')(hb:Blk W p t xs)(hp:p<n)(ht:T p=.free):Blk w' p t xs:=by
 obtain⟨b,d,f,a⟩:=h;refine a.B0 hb λe=>?_;rw[br T _ hp,ht]at e;exact e
def mF(x:Cl):x.arr.all (·.oneCell')=true:=by simp[Cl.arr,Value.oneCell']
def Gq(hc:c.ok)(T:Nat->Tg)(wp p:Nat)(g:Gs)(x:Ci)(hg:GAt w c T wp g)(h:cY w c T wp p x)(hx:x.ok c)(ho:x.over=false)(hn:g.ev.length<=70000):C 265 #[Z p 0,I 1] w λe w'=>e=.returned (.tuple #[])/\bj w w' c T wp (g.note (x.event 1)):=by
 obtain⟨F,_,f⟩:=hx.call ho;have i:(x.event 1).ok:=⟨iN (n:=1) zO,iN (n:=x.task) (by have:=hx.task;omega),iN (n:=(x.nth:Int)) (by have:=hx.nth;have:=hx.len;omega),f,ym,DB,nT⟩;have O:=Z1 (λU (P:M w U)=>lB U c (ext T w.heap.size .free) wp g (hg.free.up P) (x.event 1) i hn);obtain⟨vp,j,h⟩:=h;obtain⟨b,o,k,rfl,l⟩:=h.K4 F;have Q:=Z1 l;have a:=And.intro ((zi w)) h.B0.drew;have m:=h.B0.lt;have G:=Z1 h.tp;have R:Hid (x.event 1=⟨1,x.task,x.nth,x.call,.zero,⟨0,0⟩,az⟩):=Z1 rfl;generalize H:x.event 1=ev at*;clear h hg hx l i ho H f
 go_in
 go_upto_region 0 with fail
 refine zH (S:=λU=>M w U/\Blk U p 201 (bv wp (V b o x.prog.length k) j x)) a ?_;refine zq 4 ?_ (λW hW=>?_) ?_;rotate_left
 ·have q3:=tc hW.2;exact zf
 refine zL ?_;refine zq 8 ?_ (λW hW=>?_) ?_;rotate_left
 ·have X:=mZ hW.2;exact zf
 refine zL ?_;refine zo 10 λK hK=>?_;go_simp;have d:M w (w.drew.alloc (.cells (⟨0,0,0,.zero,.zero,⟨0,0⟩,az⟩:Vt).arr 79))/\Blk (w.drew.alloc (.cells (⟨0,0,0,.zero,.zero,⟨0,0⟩,az⟩:Vt).arr 79)) p 201 (bv wp (V b o x.prog.length k) j x):=⟨ae a.1 _,a.2.alloc _⟩;have B:=Blk.A8 w.drew 79 (⟨0,0,0,.zero,.zero,⟨0,0⟩,az⟩:Vt).arr rfl;refine zJ hK d ?_;refine zo 11 λK hK=>?_;refine bX ba (.tmp 4) (.tmp 14) rfl w.drew.heap.size 0 zF (⟨1,x.task,x.nth,.zero,.zero,⟨0,0⟩,az⟩:Vt).arr zF B rfl zP (mE _) ?_;intro w2 q r;have s:=And.intro (r.below d.1 (OA _)) (r.B0 d.2 (PP m));refine zJ hK s ?_;rw[show bH (⟨0,0,0,.zero,.zero,⟨0,0⟩,az⟩:Vt).arr 0 (⟨1,x.task,x.nth,.zero,.zero,⟨0,0⟩,az⟩:Vt).arr.toList=(⟨1,x.task,x.nth,.zero,.zero,⟨0,0⟩,az⟩:Vt).arr by kernel_rfl]at q;have A:=Z2 s q;clear a d s B r q;go_upto_region 2 with fail
 have a:=And.intro A.o.1.1.drew A.o.1.2.drew;refine zH (S:=λU=>M w U/\Blk U p 201 (bv wp (V b o x.prog.length k) j x)) a ?_;refine zq 3 ?_ (λW hW=>?_) ?_;rotate_left
 ·have q1:=wj hW.2;exact zf
 refine zL ?_;refine zq 7 ?_ (λW hW=>?_) ?_;rotate_left
 ·have X:=mZ hW.2;exact zf
 refine zL ?_;refine zq 9 ?_ (λW hW=>?_) ?_;rotate_left
 ·refine bE gV (.tmp 25) ?_ (Y b (o+x.nth*11)) ?_ x.call.arr rfl ?_;exact rfl;exact rfl;exact Q.o _ hW.1
 refine zL ?_;refine zo 11 λK hK=>?_;refine bX gV (.tmp 27) (.tmp 26) rfl w.drew.heap.size 3 zF x.call.arr zF A.o.2.drew rfl (by rw[kF];decide) (mF _) ?_;intro L t u;have v:=And.intro (u.below a.1 (OA _)) (u.B0 a.2 (PP m));refine zJ hK v ?_;rw[show bH (⟨1,x.task,x.nth,.zero,.zero,⟨0,0⟩,az⟩:Vt).arr 3 x.call.arr.toList=(⟨1,x.task,x.nth,x.call,.zero,⟨0,0⟩,az⟩:Vt).arr by kernel_rfl]at t;have y:=Z2 v t;clear a v u t A;go_upto_region 5 with fail
 have D:=y.o.1.1.drew;have a:Blk L.drew p 201 (bv wp (V b o x.prog.length k) j x)/\Blk L.drew w.drew.heap.size 79 ev.arr:=⟨y.o.1.2.drew,by rw[R.o];exact y.o.2.drew⟩;refine zH (S:=λU=>Blk U p 201 (bv wp (V b o x.prog.length k) j x)/\Blk U w.drew.heap.size 79 ev.arr) a ?_;refine(zp 3 ?_);refine zq 4 ?_ (λW hW=>?_) ?_;rotate_left
 ·refine bE ba (.tmp 4) ?_ (Y w.drew.heap.size 0) ?_ ev.arr rfl ?_;exact rfl;exact rfl;exact bQ hW.2
 refine zo 5 λK hK=>?_;go_simp;refine zm (O.o _ D) λw5 z=>?_;have N:=And.intro (z.E8 a.1 m G.o) (z.B0 a.2 (OA _));refine zJ hK N ?_;go_wp2;refine zt ?_;exact⟨rfl,bj.box rfl D z⟩
def Gr(hc:c.ok)(T:Nat->Tg)(wp p:Nat)(g:Gs)(x:Ci)(hg:GAt w c T wp g)(h:cY w c T wp p x)(hx:x.ok c)(ho:x.over=false)(hn:g.ev.length<=70000):C 265 #[Z p 0,I 2] w λe w'=>e=.returned (.tuple #[])/\bj w w' c T wp (g.note (x.event 2)):=by
 obtain⟨O,_,k⟩:=hx.call ho;have l:(x.event 2).ok:=⟨iN (n:=2) zO,iN (n:=x.task) (by have:=hx.task;omega),iN (n:=(x.nth:Int)) (by have:=hx.nth;have:=hx.len;omega),k,hx.rep,DB,nT⟩;have HN:=Z1 (λU (hU:M w U)=>lB U c (ext T w.heap.size .free) wp g (hg.free.up hU) (x.event 2) l hn);obtain⟨vp,m,h⟩:=h;obtain⟨b,o,q,rfl,r⟩:=h.K4 O;have HC:=Z1 r;have a:=And.intro ((zi w)) h.B0.drew;have i:=h.B0.lt;have P:=Z1 h.tp;have HE:Hid (x.event 2=⟨2,x.task,x.nth,x.call,x.rep,⟨0,0⟩,az⟩):=Z1 rfl;generalize Q:x.event 2=ev at*;clear h hg hx r l ho Q k
 go_in
 go_upto_region 0 with fail
 refine zH (S:=λU=>M w U/\Blk U p 201 (bv wp (V b o x.prog.length q) m x)) a ?_;refine zq 4 ?_ (λW hW=>?_) ?_;rotate_left
 ·have q3:=tc hW.2;exact zf
 refine zL ?_;refine zq 8 ?_ (λW hW=>?_) ?_;rotate_left
 ·have q4:=mZ hW.2;exact zf
 refine zL ?_;refine zo 10 λK hK=>?_;go_simp;have j:M w (w.drew.alloc (.cells (⟨0,0,0,.zero,.zero,⟨0,0⟩,az⟩:Vt).arr 79))/\Blk (w.drew.alloc (.cells (⟨0,0,0,.zero,.zero,⟨0,0⟩,az⟩:Vt).arr 79)) p 201 (bv wp (V b o x.prog.length q) m x):=⟨ae a.1 _,a.2.alloc _⟩;have d:=Blk.A8 w.drew 79 (⟨0,0,0,.zero,.zero,⟨0,0⟩,az⟩:Vt).arr rfl;refine zJ hK j ?_;refine zo 11 λK hK=>?_;refine bX ba (.tmp 4) (.tmp 14) rfl w.drew.heap.size 0 zF (⟨2,x.task,x.nth,.zero,.zero,⟨0,0⟩,az⟩:Vt).arr zF d rfl zP (mE _) ?_;intro w2 s t;have u:=And.intro (t.below j.1 (OA _)) (t.B0 j.2 (PP i));refine zJ hK u ?_;rw[show bH (⟨0,0,0,.zero,.zero,⟨0,0⟩,az⟩:Vt).arr 0 (⟨2,x.task,x.nth,.zero,.zero,⟨0,0⟩,az⟩:Vt).arr.toList=(⟨2,x.task,x.nth,.zero,.zero,⟨0,0⟩,az⟩:Vt).arr by kernel_rfl]at s;have F:=Z2 u s;clear a j u d t s;go_upto_region 2 with fail
 have a:=And.intro F.o.1.1.drew F.o.1.2.drew;refine zH (S:=λU=>M w U/\Blk U p 201 (bv wp (V b o x.prog.length q) m x)) a ?_;refine zq 3 ?_ (λW hW=>?_) ?_;rotate_left
 ·have q1:=wj hW.2;exact zf
 refine zL ?_;refine zq 7 ?_ (λW hW=>?_) ?_;rotate_left
 ·have q4:=mZ hW.2;exact zf
 refine zL ?_;refine zq 9 ?_ (λW hW=>?_) ?_;rotate_left
 ·refine bE gV (.tmp 25) ?_ (Y b (o+x.nth*11)) ?_ x.call.arr rfl ?_;exact rfl;exact rfl;exact HC.o _ hW.1
 refine zL ?_;refine zo 11 λK hK=>?_;refine bX gV (.tmp 27) (.tmp 26) rfl w.drew.heap.size 3 zF x.call.arr zF F.o.2.drew rfl (by rw[kF];decide) (mF _) ?_;intro w3 v y;have z:=And.intro (y.below a.1 (OA _)) (y.B0 a.2 (PP i));refine zJ hK z ?_;rw[show bH (⟨2,x.task,x.nth,.zero,.zero,⟨0,0⟩,az⟩:Vt).arr 3 x.call.arr.toList=(⟨2,x.task,x.nth,x.call,.zero,⟨0,0⟩,az⟩:Vt).arr by kernel_rfl]at v;have f:=Z2 z v;clear a z y v F;have G:=Gp f.o.1.2;have H:=f.o.2
 go_wp2_with (first|refine aG aA rfl (.tmp 32) rfl (Y p 7) zF x.rep.arr rfl G ?_|(refine dW aA rfl (.tmp 34) (.tmp 33) rfl w.drew.heap.size 14 zF x.rep.arr zF H rfl (by rw[kF];decide) (dy _) ?_;intro R d A))
 have L:=And.intro (A.below f.o.1.1 (OA _)) (A.B0 f.o.1.2 (PP i));rw[show bH (⟨2,x.task,x.nth,x.call,.zero,⟨0,0⟩,az⟩:Vt).arr 14 x.rep.arr.toList=(⟨2,x.task,x.nth,x.call,x.rep,⟨0,0⟩,az⟩:Vt).arr by kernel_rfl]at d;have B:=Z2 L d;clear L A d G H f;go_upto_region 5 with fail
 have N:=B.o.1.1.drew;have a:Blk R.drew p 201 (bv wp (V b o x.prog.length q) m x)/\Blk R.drew w.drew.heap.size 79 ev.arr:=⟨B.o.1.2.drew,by rw[HE.o];exact B.o.2.drew⟩;refine zH (S:=λU=>Blk U p 201 (bv wp (V b o x.prog.length q) m x)/\Blk U w.drew.heap.size 79 ev.arr) a ?_;refine(zp 3 ?_);refine zq 4 ?_ (λW hW=>?_) ?_;rotate_left
 ·refine bE ba (.tmp 4) ?_ (Y w.drew.heap.size 0) ?_ ev.arr rfl ?_;exact rfl;exact rfl;exact bQ hW.2
 refine zo 5 λK hK=>?_;go_simp;refine zm (HN.o _ N) λw5 D=>?_;have X:=And.intro (D.E8 a.1 i P.o) (D.B0 a.2 (OA _));refine zJ hK X ?_;go_wp2;refine zt ?_;exact⟨rfl,bj.box rfl N D⟩
def Gt(hc:c.ok)(T:Nat->Tg)(wp p:Nat)(g:Gs)(x:Ci)(hg:GAt w c T wp g)(h:cY w c T wp p x)(hx:x.ok c)(ho:x.over=false)(hn:g.ev.length<=70000):C 265 #[Z p 0,I 3] w λe w'=>e=.returned (.tuple #[])/\bj w w' c T wp (g.note (x.event 3)):=by
 obtain⟨G,_,F⟩:=hx.call ho;have i:(x.event 3).ok:=⟨iN (n:=3) zO,iN (n:=x.task) (by have:=hx.task;omega),iN (n:=(x.nth:Int)) (by have:=hx.nth;have:=hx.len;omega),Cl.I2,hx.rep,DB,nT⟩;have P:=Z1 (λU (Q:M w U)=>lB U c (ext T w.heap.size .free) wp g (hg.free.up Q) (x.event 3) i hn);obtain⟨X,v,h⟩:=h;obtain⟨b,o,y,rfl,j⟩:=h.K4 G;have HC:=Z1 j;have d:=And.intro ((zi w)) h.B0.drew;have k:=h.B0.lt;have H:=Z1 h.tp;have R:Hid (x.event 3=⟨3,x.task,x.nth,.zero,x.rep,⟨0,0⟩,az⟩):=Z1 rfl;generalize L:x.event 3=ev at*;clear h hg hx j i ho L F
 go_in
 go_upto_region 0 with fail
 refine zH (S:=λU=>M w U/\Blk U p 201 (bv wp (V b o x.prog.length y) v x)) d ?_;refine zq 4 ?_ (λW hW=>?_) ?_;rotate_left
 ·have q3:=tc hW.2;exact zf
 refine zL ?_;refine zq 8 ?_ (λW hW=>?_) ?_;rotate_left
 ·have q4:=mZ hW.2;exact zf
 refine zL ?_;refine zo 10 λK hK=>?_;go_simp;have f:M w (w.drew.alloc (.cells (⟨0,0,0,.zero,.zero,⟨0,0⟩,az⟩:Vt).arr 79))/\Blk (w.drew.alloc (.cells (⟨0,0,0,.zero,.zero,⟨0,0⟩,az⟩:Vt).arr 79)) p 201 (bv wp (V b o x.prog.length y) v x):=⟨ae d.1 _,d.2.alloc _⟩;have a:=Blk.A8 w.drew 79 (⟨0,0,0,.zero,.zero,⟨0,0⟩,az⟩:Vt).arr rfl;refine zJ hK f ?_;refine zo 11 λK hK=>?_;refine bX ba (.tmp 4) (.tmp 14) rfl w.drew.heap.size 0 zF (⟨3,x.task,x.nth,.zero,.zero,⟨0,0⟩,az⟩:Vt).arr zF a rfl zP (mE _) ?_;intro w2 l m;have q:=And.intro (m.below f.1 (OA _)) (m.B0 f.2 (PP k));refine zJ hK q ?_;rw[show bH (⟨0,0,0,.zero,.zero,⟨0,0⟩,az⟩:Vt).arr 0 (⟨3,x.task,x.nth,.zero,.zero,⟨0,0⟩,az⟩:Vt).arr.toList=(⟨3,x.task,x.nth,.zero,.zero,⟨0,0⟩,az⟩:Vt).arr by kernel_rfl]at l;have r:=Z2 q l;clear d f q a m l;have z:=Gp r.o.1.2;have A:=r.o.2
 go_wp2_with (first|refine aG aA rfl (.tmp 32) rfl (Y p 7) zF x.rep.arr rfl z ?_|(refine dW aA rfl (.tmp 34) (.tmp 33) rfl w.drew.heap.size 14 zF x.rep.arr zF A rfl (by rw[kF];decide) (dy _) ?_;intro N a s))
 have B:=And.intro (s.below r.o.1.1 (OA _)) (s.B0 r.o.1.2 (PP k));rw[show bH (⟨3,x.task,x.nth,.zero,.zero,⟨0,0⟩,az⟩:Vt).arr 14 x.rep.arr.toList=(⟨3,x.task,x.nth,.zero,x.rep,⟨0,0⟩,az⟩:Vt).arr by kernel_rfl]at a;have t:=Z2 B a;clear B s a z A r;go_upto_region 5 with fail
 have D:=t.o.1.1.drew;have d:Blk N.drew p 201 (bv wp (V b o x.prog.length y) v x)/\Blk N.drew w.drew.heap.size 79 ev.arr:=⟨t.o.1.2.drew,by rw[R.o];exact t.o.2.drew⟩;refine zH (S:=λU=>Blk U p 201 (bv wp (V b o x.prog.length y) v x)/\Blk U w.drew.heap.size 79 ev.arr) d ?_;refine(zp 3 ?_);refine zq 4 ?_ (λW hW=>?_) ?_;rotate_left
 ·refine bE ba (.tmp 4) ?_ (Y w.drew.heap.size 0) ?_ ev.arr rfl ?_;exact rfl;exact rfl;exact bQ hW.2
 refine zo 5 λK hK=>?_;go_simp;refine zm (P.o _ D) λw5 u=>?_;have O:=And.intro (u.E8 d.1 k H.o) (u.B0 d.2 (OA _));refine zJ hK O ?_;go_wp2;refine zt ?_;exact⟨rfl,bj.box rfl D u⟩
def MG(x:Cl):aq (aH x):=by
 unfold aH
 repeat' split
 all_goals first|exact⟨zP,zP⟩|skip
 all_goals first|unfold bG|unfold idE
 all_goals repeat' split
 all_goals exact⟨zP,zP⟩
def MH{n:Int}(h:aq n):(Rp.of n).ok:=⟨h,aD,aD,⟨aD,aD,aD,aD,aD⟩,⟨aD,aD,aD,aD,aD⟩⟩
def Ci.ok.U4{c:Cg}{x:Ci}(h:x.ok c){r:Rp}(hr:r.ok):Ci.ok c {x with rep:=r}:=⟨h.prog,h.len,h.task,h.nth,h.at_,h.B8,hr⟩
def BH(vp vo:Value)(x:Ci)(r:Rp):bH (bv wp vp vo x) 7 r.arr.toList=bv wp vp vo {x with rep:=r}:=zR
def kX(k:Int)(hk:k=1\/k=2\/k=3)(w:World)(c:Cg)(hc:c.ok)(T:Nat->Tg)(wp p:Nat)(g:Gs)(x:Ci)(hg:GAt w c T wp g)(h:cY w c T wp p x)(hx:x.ok c)(ho:x.over=false)(hn:g.ev.length<=70000):C 265 #[Z p 0,I k] w λe w'=>e=.returned (.tuple #[])/\bj w w' c T wp (g.note (x.event k)):=by
 rcases hk with rfl|rfl|rfl
 ·exact Gq w c hc T wp p g x hg h hx ho hn
 ·exact Gr w c hc T wp p g x hg h hx ho hn
 ·exact Gt w c hc T wp p g x hg h hx ho hn
def AK(hc:c.ok)(T:Nat->Tg)(wp p:Nat)(g:Gs)(x:Ci)(vp vo:Value)(hg:GAt w c T wp g)(h:cI w c T wp p x vp vo)(hx:x.ok c)(ho:x.over=false)(hn:g.ev.length<=69000)(y:Ci)(hy:y={x with rep:=.of (aH x.call)}):
  C 262 #[Z p 0] w λe w'=>e=.returned (.tuple #[])/\bc (λW T=>cI W c T wp p y vp vo) w w' c T wp (if aH x.call=0 then g.note (y.event 1)else(g.note (y.event 1)).note (y.event 2)) p:=by
 obtain⟨ah,_,m⟩:=hx.call ho;have d:y.ok c:=by rw[hy];exact hx.U4 (MH (MG _))
 have n:y.over=false:=by rw[hy];exact ho
 have L:=Z1 (λU f (R:GAt U c f wp g) (X:cY U c f wp p y)=>kX 1 (.inl rfl) U c hc f wp p g y R X d n zO);have ai:=Z1 (λU f (R:GAt U c f wp (g.note (y.event 1))) (X:cY U c f wp p y)=>kX 2 (.inr (.inl rfl)) U c hc f wp p _ y R X d n (by show(g.ev++[_]).length<=_;rw[OS];simp;omega));have aj:=Z1 (λW=>oy x.call m.L7 W);obtain⟨b,o,A,rfl,q⟩:=h.K4 ah;have HC:=Z1 q;have HG:=Z2 hg h;have B:=And.intro ((zi w)) h.B0.drew;have al:=h.B0.lt;have D:=Z1 hy;generalize az:aH x.call=F at*;clear h hg hx q ho m d n hn hy
 go_in
 go_upto_region 0 with fail
 refine zH (S:=λU=>M w U/\Blk U p 201 (bv wp (V b o x.prog.length A) vo x)) B ?_;refine zq 3 ?_ (λW hW=>?_) ?_;rotate_left
 ·have q1:=wj hW.2;exact zf
 refine zL ?_;refine zq 7 ?_ (λW hW=>?_) ?_;rotate_left
 ·have q4:=mZ hW.2;exact zf
 refine zL ?_;refine zq 9 ?_ (λW hW=>?_) ?_;rotate_left
 ·refine bE gV (.tmp 11) ?_ (Y b (o+x.nth*11)) ?_ x.call.arr rfl ?_;exact rfl;exact rfl;exact HC.o _ hW.1
 refine zo 10 λK hK=>?_;go_simp;have i:M w (w.drew.alloc (.cells Cl.zero.arr 73))/\Blk (w.drew.alloc (.cells Cl.zero.arr 73)) p 201 (bv wp (V b o x.prog.length A) vo x):=⟨ae B.1 _,B.2.alloc _⟩;have a:=Blk.A8 w.drew 73 Cl.zero.arr rfl;refine zJ hK i ?_;refine zo 11 λK hK=>?_;refine bX gV (.tmp 2) (.tmp 12) rfl w.drew.heap.size 0 zF x.call.arr zF a rfl zP (mF _) ?_;intro w2 j r;have s:=And.intro (r.below i.1 (OA _)) (r.B0 i.2 (PP al));refine zJ hK s ?_;rw[show bH Cl.zero.arr 0 x.call.arr.toList=x.call.arr by kernel_rfl]at j;have HB:=Z2 s j;have an:=bQ j;clear B i s a r j
 go_wp2_with (refine aG gV rfl (.tmp 2) rfl (Y w.drew.heap.size 0) zF x.call.arr rfl an ?_)
 refine zm (aj.o _) λw3 t=>?_;have k:=af HB.o.1.1 t;have N:=HB.o.1.2.later t
 go_wp2_with (refine dW aA rfl (.tmp 18) (.tmp 16) rfl p 7 zF (Rp.of F).arr zF N rfl (by show 7+13<=20;decide) (dy _) ?_;intro w4 a l)
 have a:Blk w4 p 201 (bv wp (V b o x.prog.length A) vo y):=by
  rw[D.o];rw[BH]at a;exact a
 have u:cI w3 c (ext T w.heap.size .free) wp p x (V b o x.prog.length A) vo:=(HG.o.2.more λb hb=>br T _ hb).up k;have h9:=u.own l a (by rw[D.o]) (by rw[D.o];exact u.ops) u.G4;have a1:=aW.refl (ext T w.heap.size .free) w.heap.size;have a2:=(HG.o.1.free.up k).only u.tp l;have a4:ag (λb=>eN (ext T w.heap.size .free b)\/b=p) w w4:=(ag.B5 k).trans (l.B7.C3 λb e=>.inr e);refine zm (L.o _ _ a2 ⟨_,_,h9⟩) λw5 O=>?_;have v:=Z1 (bc.trans a1 a4 (h9.F4 O));clear a1 a2 a4 O h9 u a l N k t L;obtain⟨T5,b1,b2,G,b4⟩:=v.o;have q7:=Ln G.B0;rw[show y.rep.err=F by rw[D.o];rfl]at q7;by_cases H:F=0
 ·subst H;clear b1 b2 b4 G;go_wp2_with fail;refine zt ?_;exact⟨rfl,by first|exact bc.box rfl (Oy _ w) v.o|(rw[OB rfl];exact bc.box rfl (Oy _ w) v.o)⟩
 ·have au:=Z1 H;have a0:(F !=0)=true:=by simpa using H
  have z:=Z4 b1 b2 G b4;clear b1 b2 b4 G H;go_wp2_with fail;refine zm (ai.o _ _ z.o.2.1 ⟨_,_,z.o.2.2.1⟩) λw6 P=>?_;have Q:=Z1 (bc.trans z.o.1 z.o.2.2.2 (z.o.2.2.1.F4 P));clear P;go_wp2;refine zt ?_;exact⟨rfl,by first|exact bc.box rfl (Oy _ w) Q.o|(rw[Oz au.o];exact bc.box rfl (Oy _ w) Q.o)⟩
def NA(wp:Nat)(vp vo:Value)(x:Ci)(a:Int):Array Value:=#[Z wp 0,vp,vo,I x.task,I (x.nth:Int),I a,I x.B8,I x.rep.err,I x.rep.I9,I x.rep.handle,I x.rep.stat.count,I x.rep.stat.sum,I x.rep.stat.least,I x.rep.stat.F5,I x.rep.stat.F3,I x.rep.E0.tick,I x.rep.E0.load,I x.rep.E0.want,I x.rep.E0.V1,I x.rep.E0.I8]
structure NB(w:World)(c:Cg)(T:Nat->Tg)(wp p:Nat)(x:Ci)(a:Int)(vp vo:Value):Prop where
 B0:Blk w p 201 (NA wp vp vo x a)
 tp:T p=.free
 prog:w.ownsRow 0 73 11 vp x.prog.length (cls x.prog)
 I5:∀b,vp.ownBlock=some b->T b=.free
 ops:(vo=.slice none 0 0/\a= -1)\/w.ownsRow 0 250 2 vo (aF c x.call).length (d7 (aF c x.call))
 G4:∀b,vo.ownBlock=some b->T b=.free
def nA(w w':World)(c:Cg)(T:Nat->Tg)(wp:Nat)(g':Gs)(p:Nat)(x':Ci)(a:Int):Prop:=∃T' vp vo,aW T T' w.heap.size/\GAt w' c T' wp g'/\NB w' c T' wp p x' a vp vo/\ag (λb=>eN (T b)\/b=p) w w'
section
variable {w w' w'' W:World} {c:Cg} {T T':Nat→Tg} {wp p:Nat} {g g':Gs} {x x':Ci} {vp vo:Value} {a:Int}
def nA.trans(h1:aW T T' w.heap.size)(hK:ag (λb=>eN (T b)\/b=p) w w')(h2:nA w' w'' c T' wp g' p x' a):nA w w'' c T wp g' p x' a:=by
 obtain⟨f,g,h,i,j,l,m⟩:=h2;refine⟨f,g,h,h1.trans i hK.size,j,l,bL hK m λb n e=>?_⟩
 rcases e with e|e
 ·rcases h1 b n with d|⟨k,d,o⟩
  ·rw[d]at e;exact .inl e
  ·rw[o]at e;exact e.elim
 ·exact .inr e
def nA.own(hg:GAt w c T wp g)(h:cI w c T wp p x vp vo)(hO:aI p w w')(hb:Blk w' p 201 (NA wp vp vo' x' a))(hp:x'.prog=x.prog)
  (ho:(vo'=.slice none 0 0/\a= -1)\/w.ownsRow 0 250 2 vo' (aF c x'.call).length (d7 (aF c x'.call)))(ht:∀b,vo'.ownBlock=some b->T b=.free):nA w w' c T wp g p x' a:=by
 have hK:=hO.B7;refine⟨T,vp,vo',aW.refl _ _,hg.only h.tp hO,⟨hb,h.tp,?_,h.I5,ho.imp id λd=>hK.C8 d λb e f=>?_,ht⟩,hK.C3 λb e=>.inr e⟩
 ·rw[hp];exact hK.C8 h.prog λb e f=>aB h.prog h.B0 zP (f▸e)
 ·exact aB d h.B0 zP (f▸e)
end
def Gu(w:World)(c:Cg)(hc:c.ok)(T:Nat->Tg)(wp p:Nat)(g:Gs)(x:Ci)(hg:GAt w c T wp g)(h:cY w c T wp p x)(hx:x.ok c)(ho:x.over=false)(hn:g.ev.length<=69000):
  C 270 #[Z p 0] w λe w'=>e=.returned (.tuple #[])/\nA w w' c T wp (g.note (x.event 3)) p {x with nth:=x.nth+1} (-1):=by
 have m:=Z1 (kX 3 (.inr (.inr rfl)) w c hc T wp p g x hg h hx ho zO);have n:=Z1 h;have t:=OJ hx.nth hx.len;have u:IntKind.i64.wrap ((x.nth:Int)+1)=(x.nth:Int)+1:=by rw[OX];omega
 clear h hg hx ho hn
 go_in
 go_wp2_with fail;refine zm m.o λi f=>?_;obtain⟨v,j,k,q,l⟩:=bp.F4 n.o f;obtain⟨y,z,a⟩:=q;have d:=Z4 j k a l;have A:=mZ a.B0;have B:=wm a.B0;have D:=s9 a.B0;have F:=a.B0.frozen 4;have G:=a.B0.frozen 5;have H:=a.B0.frozen 2;clear f j k a l;go_wp2;refine zt ?_;have r:aI p i (((i.setCell (Y p 4) (I ((x.nth:Int)+1))).setCell (Y p 5) (I (-1))).setCell (Y p 2) (.slice none 0 0)):=((aI.B4 _ _ _ _).trans (aI.B4 _ _ _ _)).trans (aI.B4 _ _ _ _);have s:=((d.o.2.2.1.B0.B4 4 (I ((x.nth:Int)+1))).B4 5 (I (-1))).B4 2 (.slice none 0 0);exact⟨rfl,nA.trans d.o.1 d.o.2.2.2 (nA.own d.o.2.1 d.o.2.2.1 r s rfl (.inl ⟨rfl,rfl⟩) (λb e=>by cases e))⟩
def vG(wp:Nat)(vp vo:Value)(x:Ci)(n:Int):(bv wp vp vo x).setIfInBounds 6 (I n)=bv wp vp vo {x with B8:=n}:=rfl
def vH(w:World)(c:Cg)(hc:c.ok)(T:Nat->Tg)(wp p:Nat)(g:Gs)(x:Ci)(hg:GAt w c T wp g)(h:cY w c T wp p x)(hx:x.ok c)(kd:Int)(n:Nat)(hn:n<c.st+2)(hf:(g.lock n).line.length<=900):
  C 263 #[Z p 0,.agg #[I kd,I n]] w λe w'=>e=.returned (.tuple #[])/\bp w w' c T wp (g.ask n x.task (decide (kd=3))).1 p {x with B8:=if(g.ask n x.task (decide (kd=3))).2=true then x.B8 else n}:=by
 have H:aq x.task:=by have:=hx.task;constructor<;>omega
 have i:=zh w (.cells #[I kd,I (n:Int)] 250);have q:=Blk.A8 w 250 #[I kd,I (n:Int)] rfl;have L:=Z1 (λU (N:M w U)=>yf U c hc (ext T w.heap.size .free) wp g (hg.free.up N) n hn x.task H (kd==3) hf);obtain⟨v,y,h⟩:=h;have O:=Z1 h;have z:=h.B0.lt;have A:=Z1 h.tp;have s:=h.B0.alloc (.cells #[I kd,I (n:Int)] 250);have t:decide (kd=3)=(kd==3):=by by_cases e:kd=3<;>simp[e]
 rw[t];generalize P:(g.ask n x.task (kd==3)).2=r at*;generalize (g.ask n x.task (kd==3)).1=g1 at*;clear h hg hx t P hf
 go_in
 go_upto_region 1 with fail
 generalize Q:w.alloc (.cells #[I kd,I (n:Int)] 250)=V at*;have HB:=Z1 i;have d:=i.drew;have k:=And.intro s.drew q.drew;clear Q i q s;refine za (S:=λU=>Blk U p 201 (bv wp v y x)/\Blk U w.heap.size 250 #[I kd,I (n:Int)]) k ?_;refine zo 13 λK hK=>?_;go_simp
 (refine(L.o _ d).mono ?_)
 rintro e5 w5 ⟨⟨er,rfl⟩,f⟩;have j:=And.intro (f.E8 k.1 z A.o) (f.B0 k.2 (OA _));refine zk hK j ?_;have B:cI V.drew c (ext T w.heap.size .free) wp p x v y:=(O.o.more λb l=>br T _ l).up d;have u:=Z1 (bp.F4 ⟨v,y,B⟩ f);obtain⟨T5,D,F,⟨R,X,m⟩,G⟩:=u.o;have a:=Z4 D F m G;have q6:=td m.B0;have f6:=m.B0.frozen 6;have o1:=j.2.cell 1;clear f D F m G B k j
 cases r with
 |true=>
  go_wp2_with fail;refine zt ?_;exact⟨rfl,bp.box rfl d u.o⟩
 |false=>
  go_wp2;refine zt ?_;have l:=a.o.2.2.1.B0.B4 6 (I (n:Int));rw[vG]at l;exact⟨rfl,bp.box rfl d (bp.trans a.o.1 a.o.2.2.2 (bp.own a.o.2.1 a.o.2.2.1 (aI.B4 _ _ _ _) l rfl a.o.2.2.1.ops a.o.2.2.1.G4))⟩
def be(c:Cg)(x:Ci)(a:Nat):Int×Int:=(aF c x.call).getD a (0,0)
def skF(c:Cg)(x:Ci):Nat:=if x.rep.err≠0/\(be c x (x.at_+1)).2=lineN c then x.at_+3 else x.at_
def wo{w:World}{B:Nat}{A:Option Addr}{l:List (Int×Int)}(h:an w B 2 A n (d7 l))(hn:n=l.length)(hk:k<l.length):
  ∃b o,A=some (Y b o)/\w.cell? (Y b (o+k*2))=some (I (l.getD k (0,0)).1)/\w.cell? (Y b (o+k*2+1))=some (I (l.getD k (0,0)).2):=by
 obtain⟨b,o,rfl,c,a⟩:=h.elem Dx zP hn hk;have e:l.getD k (0,0)=l[k]:=by rw[OP,OL hk];rfl
 rw[e];exact⟨b,o,rfl,a 0 _ rfl,a 1 _ rfl⟩
def NC(vp vo:Value)(x:Ci)(n:Nat):(bv wp vp vo x).setIfInBounds 5 (I (n:Int))=bv wp vp vo {x with at_:=n}:=rfl
def cI.R9{w:World}{c:Cg}{wp:Nat}{x:Ci}(h:cI w c T wp p x vp vo)(h0:x.at_≠0):∃A k,vo=.slice A (aF c x.call).length k/\(aF c x.call).length<=k/\an w w.heap.size 2 A (aF c x.call).length (d7 (aF c x.call)):=by
 rcases h.ops with a|a
 ·exact absurd a.2 h0
 ·obtain⟨A,k,rfl,b,d⟩:=ak a;exact⟨A,k,rfl,b,an.C4 a⟩
structure SkI(w wr:World)(c:Cg)(T:Nat->Tg)(wp p:Nat)(g:Gs)(x:Ci)(vp vo:Value)(a:Nat):Prop where
 a_:a=x.at_\/(a=x.at_+3/\x.rep.err≠0/\(be c x (x.at_+1)).2=lineN c)
 I1:cI wr c T wp p {x with at_:=a} vp vo
 g_:GAt wr c T wp g
 B7:ag (λb=>b=p) w wr
def DC(hc:c.ok)(T:Nat->Tg)(wp p:Nat)(g:Gs)(x:Ci)(hg:GAt w c T wp g)(h:cY w c T wp p x)(h0:x.at_≠0)(hL:(aF c x.call).length<=1000)(h1:x.at_+1<(aF c x.call).length)(h2:(be c x (x.at_+1)).2=lineN c->x.at_+4<(aF c x.call).length/\(be c x (x.at_+4)).2≠lineN c):
  Calls prog 267 #[.pointer (some ⟨p,0,none⟩)] w λe w'=>e=.returned (.tuple #[])/\bp w w' c T wp g p {x with at_:=skF c x}:=by
 obtain⟨l,vo,h⟩:=h;obtain⟨A,k,rfl,a0,hr⟩:=h.R9 h0;have ac:Hid (SkI w w c T wp p g x l (.slice A (aF c x.call).length k) x.at_):=Z1 ⟨.inl rfl,h,hg,ag.refl _ _⟩;have HO:Hid (∀wr a,SkI w wr c T wp p g x l (.slice A (aF c x.call).length k) a->a+1<(aF c x.call).length/\∃b o,A=some ⟨b,o,none⟩/\wr.cell? ⟨b,o+(a+1)*2+1,none⟩=some (.int .i64 (be c x (a+1)).2)):=Z1 λwr a f=>by
  have v:a+1<(aF c x.call).length:=by
   rcases f.a_ with e|⟨e,_,m⟩
   ·omega
   ·have:=h2 m;omega
  refine⟨v,?_⟩
  rcases f.I1.ops with n|n
  ·have:(aF c x.call).length=0:=by injection n.1
   omega
  ·obtain⟨b,o,P,_,m⟩:=wo (k:=a+1) (an.C4 n) rfl v;exact⟨b,o,P,m⟩
 have Q:Hid (∀wr a,SkI w wr c T wp p g x l (.slice A (aF c x.call).length k) a->(x.rep.err=0\/(be c x (a+1)).2≠lineN c)->bp w wr c T wp g p {x with at_:=skF c x}):=Z1 λwr a f t=>by
  have z:a=skF c x:=by
   unfold skF
   rcases f.a_ with e|⟨e,R,m⟩
   ·subst e;rw[Oz];rintro⟨f1,f2⟩
    rcases t with t|t
    ·exact f1 t
    ·exact t f2
   ·rw[OB ⟨R,m⟩,e]
  subst z;exact⟨T,aW.refl _ _,f.g_,⟨_,_,f.I1⟩,f.B7.C3 λb e=>.inr e⟩
 have HX:Hid (∀wr a,SkI w wr c T wp p g x l (.slice A (aF c x.call).length k) a->x.rep.err≠0->(be c x (a+1)).2=lineN c->a=x.at_):=Z1 λwr a f t i=>by
  rcases f.a_ with e|⟨e,_,m⟩
  ·exact e
  ·subst e;exact absurd i (h2 m).2
 have a1:x.at_<=1000:=by omega
 generalize ah:(aF c x.call).length=L at*;clear hg h h1 h2 hr ah
 go_in
 go_wp2;refine wp_scope_straight ?_;go_wp2;apply wp_label;go_wp2;go_loopw [] (λwr=>∃a:Nat,Hid (SkI w wr c T wp p g x l (.slice A L k) a)) (λwr=>x.at_+10-(intOf ((wr.cell? ⟨p,5,none⟩).getD undef)).toNat)
 case atStart=>exact⟨_,ac.o⟩
 case round=>
  obtain⟨a,d⟩:=hrel;have B:=d.o.I1.B0;have X:=Ln B;rw[show({x with at_:=a}:Ci).rep.err=x.rep.err from rfl]at X;by_cases u:x.rep.err=0
  ·have HE:=Z1 (Q.o wr a d.o (.inl u));rw[u]at X;clear u B HO Q HX;go_wp2;rw[Exit.noGoto_normal];refine Pf (Pb (by kernel_rfl) _ _ _) rfl ?_;exact⟨rfl,HE.o⟩
  ·have a2:(x.rep.err !=0)=true:=by simpa using u
   obtain⟨v,b,o,rfl,q⟩:=HO.o wr a d.o;have HZ:=Z1 u;clear u;have hw:IntKind.i64.wrap ((a:Int)+1)=((a+1:Nat):Int):=by rw[OX];have:=d.o.a_;omega
   have aj:(0:Int)<=(a:Int)+1:=by omega
   have ak:(a:Int)+1<(L:Int):=by omega
   go_upto_region 1 with fail
   have hS:=And.intro B.drew q;refine ay (S:=λU=>Blk U p 201 (bv wp l (.slice (some ⟨b,o,none⟩) L k) {x with at_:=a})/\U.cell? ⟨b,o+(a+1)*2+1,none⟩=some (.int .i64 (be c x (a+1)).2)) (by kernel_rfl) hS ?_;simp only[zD,zE,Nat.reduceAdd,zG];refine zp 0 ?_;refine zp 1 ?_;refine zp 2 ?_;refine zq 3 ?_ (λW hW=>?_) ?_;rotate_left
   ·have q2:=s9 hW.1;exact zf
   refine zp 4 ?_;refine zp 5 ?_;refine zp 6 ?_;refine zq 7 ?_ (λW hW=>?_) ?_;rotate_left
   ·have q5:=wm hW.1;exact zf
   refine zp 8 ?_;refine zp 9 ?_;refine zp 10 ?_;refine zq 11 ?_ (λW hW=>?_) ?_;rotate_left
   ·have q9:=hW.2;exact zf
   refine zd ?_;have D:=(Oy wr.heap.size wr).drew;have F:=Z1 (λU (hU:Below wr.heap.size wr U)=>kW U c T wp g (d.o.g_.up hU));have am:=Z1 (λU=>ju c hc U);have q0:=iM hS.1;clear q B aj ak;go_wp2_with fail;refine zm (F.o _ D) λw5 G=>?_;have H:=Z1 (af D G);clear G;unfold Cg.val;go_wp2_with fail;refine zm (am.o _) λw6 N=>?_;have hB:=af H.o N;have r:=Z1 hB;have y:=d.o.I1.up hB;have q5:=wm y.B0;have f5:=y.B0.frozen 5;clear hB y N H F q0 X;by_cases i:(be c x (a+1)).2=lineN c
   ·have ap:((be c x (a+1)).2==(c.st:Int)+1)=true:=by simpa[lineN]using i
    have s:=Z1 i;have a3:IntKind.i64.wrap ((a:Int)+3)=((a+3:Nat):Int):=by rw[OX];have:=d.o.a_;omega
    clear i;go_wp2_with fail;have j:=d.o.I1.up r.o;have O:=j.B0.B4 5 (.int .i64 ((a:Int)+3));have hO:=aI.B4 p w6 5 (.int .i64 ((a:Int)+3));have z:=HX.o wr a d.o HZ.o s.o;have P:(w6.setCell ⟨p,5,none⟩ (.int .i64 ((a:Int)+3))).cell? ⟨p,5,none⟩=some (.int .i64 ((a:Int)+3)):=O.cell 5;have R:wr.cell? ⟨p,5,none⟩=some (.int .i64 (a:Int)):=wm d.o.I1.B0;refine⟨⟨a+3,Z1 ⟨.inr ⟨by rw[z],HZ.o,by rw[<-z];exact s.o⟩,j.own hO (NC wp l (.slice (some ⟨b,o,none⟩) L k) {x with at_:=a} (a+3)▸O) rfl (.inr ?_) j.G4,(d.o.g_.up r.o).only j.tp hO,((d.o.B7.trans (ag.B5 r.o)).trans hO.B7)⟩⟩,?_⟩
    ·rcases j.ops with n|n
     ·have:(some ⟨b,o,none⟩:Option Addr)=none:=by injection n.1
      cases this
     ·exact n
    ·rw[P,R];simp[intOf];omega
   ·have ap:((be c x (a+1)).2==(c.st:Int)+1)=false:=by simpa[lineN]using i
    have s:=Z1 i;clear i;go_wp2_with fail;rw[Exit.noGoto_normal];refine Pf (Pb (by kernel_rfl) _ _ _) rfl ?_;exact⟨rfl,(Q.o wr a d.o (.inr s.o)).later r.o⟩
structure Wi.ok(c:Cg)(x:Wi):Prop where
 task:0<=x.task/\x.task<32
 B6:x.B6<=14
 B8:x.B8= -1\/∃n:Nat,x.B8=n/\n<c.st+2
 key:x.key.ok
 D9:x.D9.C6 c
 E0:x.E0.ok
 done:x.done<=1000000
def cr(wp:Nat)(vs:Value)(x:Wi):Array Value:=#[Z wp 0,I x.task,I (x.B6:Int),I x.B8,.bool x.B3,E x.key.hi,E x.key.lo,vs,I x.E0.tick,I x.E0.load,I x.E0.want,I x.E0.V1,I x.E0.I8,I (x.done:Int)]
section
variable {w:World} {p wp:Nat} {t:TypeId} {vs:Value} {x:Wi}
def iy(h:Blk w p t (cr wp vs x)):w.cell? (Y p 0)=some (Z wp 0):=h.cell 0
def rR(h:Blk w p t (cr wp vs x)):w.cell? (Y p 1)=some (I x.task):=h.cell 1
def dH(h:Blk w p t (cr wp vs x)):w.cell? (Y p 2)=some (I (x.B6:Int)):=h.cell 2
def gv(h:Blk w p t (cr wp vs x)):w.cell? (Y p 3)=some (I x.B8):=h.cell 3
def gw(h:Blk w p t (cr wp vs x)):w.cell? (Y p 4)=some (.bool x.B3):=h.cell 4
def rS(h:Blk w p t (cr wp vs x)):w.cell? (Y p 5)=some (E x.key.hi):=h.cell 5
def rT(h:Blk w p t (cr wp vs x)):w.cell? (Y p 6)=some (E x.key.lo):=h.cell 6
def DE(h:Blk w p t (cr wp vs x)):w.cell? (Y p 7)=some vs:=h.cell 7
def Og(h:Blk w p t (cr wp vs x)):w.cell? (Y p 13)=some (I (x.done:Int)):=h.cell 13
end
structure eM(w:World)(c:Cg)(T:Nat->Tg)(wp p:Nat)(x:Wi)(vs:Value):Prop where
 B0:Blk w p 203 (cr wp vs x)
 tp:T p=.free
 D9:(vs=.pointer none/\x.B6≠5/\x.B6≠6)\/∃np,vs=Z np 0/\bC w c np x.D9 true (λb=>T b=.fz)
def aO(w:World)(c:Cg)(T:Nat->Tg)(wp p:Nat)(x:Wi):Prop:=∃vs,eM w c T wp p x vs
def aV(w w':World)(c:Cg)(T:Nat->Tg)(wp:Nat)(g':Gs)(p:Nat)(x':Wi):Prop:=bc (λW T=>aO W c T wp p x') w w' c T wp g' p
section
variable {w w' w'' W:World} {c:Cg} {T T':Nat→Tg} {wp p:Nat} {g g':Gs} {x x':Wi} {vs:Value}
def eM.B7(h:eM w c T wp p x vs)(hK:ag L w w')(hL:∀b,T b=.free\/T b=.fz->¬L b)(hT:∀b,b<w.heap.size->T b=.free\/T b=.fz->T' b=T b):eM w' c T' wp p x vs:=
 ⟨hK.B0 h.B0 (hL _ (.inl h.tp)),(hT _ h.B0.lt (.inl h.tp)).trans h.tp,h.D9.imp id λ⟨a,e,d⟩=>⟨a,e,((d.more (G:=λb=>T b=.fz/\b<w.heap.size) λb f e=>⟨e,f⟩).B7 hK λb e=>hL b (.inr e.1)).more λb _ e=>(hT b e.2 (.inr e.1)).trans e.1⟩⟩
def eM.up(h:eM w c T wp p x vs)(hb:M w w'):eM w' c T wp p x vs:=h.B7 (ag.B5 hb) (λ_ _ e=>e) λ_ _ _=>rfl
def eM.more(h:eM w c T wp p x vs)(hT:∀b,b<w.heap.size->T' b=T b):eM w c T' wp p x vs:=h.B7 (ag.refl (λ_=>False) w) (λ_ _ e=>e) λb a _=>hT b a
def aO.up(h:aO w c T wp p x)(hb:M w w'):aO w' c T wp p x:=by
 obtain⟨a,h⟩:=h;exact⟨a,h.up hb⟩
def aV.F4(h:aO w c T wp p x)(hg:bj w w' c T wp g'):aV w w' c T wp g' p x:=by
 obtain⟨g,a,i,d⟩:=hg;obtain⟨j,h⟩:=h;exact⟨g,a,i,⟨j,h.B7 d (λb e f=>by rcases e with e|e<;>rw[e]at f<;>exact f) λb l e=>a.keepT l (by rcases e with e|e<;>rw[e]<;>intro k f<;>cases f)⟩,d.C3 λb e=>.inl e⟩
def aV.own(hg:GAt w c T wp g)(h:eM w c T wp p x vs)(hO:aI p w w')(hb:Blk w' p 203 (cr wp vs x'))(hs:x'.D9=x.D9)(hd:vs=.pointer none->x'.B6≠5/\x'.B6≠6):aV w w' c T wp g p x':=by
 have hK:=hO.B7;refine⟨T,aW.refl _ _,hg.only h.tp hO,⟨vs,hb,h.tp,?_⟩,hK.C3 λb e=>.inr e⟩
 rcases h.D9 with⟨e,_⟩|⟨d,e,f⟩
 ·exact .inl ⟨e,hd e⟩
 ·refine .inr ⟨d,e,?_⟩;rw[hs];refine f.B7 hK λb a i=>?_;rw[i,h.tp]at a
  cases a
def aV.same(hg:GAt w c T wp g)(h:aO w c T wp p x)(hb:M w w'):aV w w' c T wp g p x:=⟨T,aW.refl _ _,hg.up hb,h.up hb,ag.B5 hb⟩
end
def tf(w:World)(c:Cg)(T:Nat->Tg)(wp p:Nat)(x:Wi)(h:aO w c T wp p x):C 337 #[Z p 0] w (J (.bool x.over) w):=by
 obtain⟨d,h⟩:=h;have f:=dH h.B0;have a:((x.B6:Int)==13)=x.over:=by
  unfold Wi.over;by_cases e:x.B6=13
  ·simp[e]
  ·have:¬((x.B6:Int)=13):=zO;simp[e,this]
 have b:=Z1 a;clear h a
 go_in
 go_wp2;go_ret;refine⟨?_,Oy _ w⟩;rw[<-b.o];rfl
def iO(w:World)(c:Cg)(hc:c.ok)(T:Nat->Tg)(wp p:Nat)(g:Gs)(x:Wi)(hg:GAt w c T wp g)(h:aO w c T wp p x):C 340 #[Z p 0] w (J (I (lineN c)) w):=by
 obtain⟨l,h⟩:=h;have f:=iy h.B0;have i:=Z1 (kW w c T wp g hg);have j:=Z1 (λU=>ju c hc U);clear h hg
 go_in
 go_wp2_with fail;refine zm i.o λm a=>?_;unfold Cg.val;have k:=Z1 a;clear f a;go_wp2_with fail;refine zm (j.o _) λn b=>?_;have d:=Z1 (af k.o b);clear b;go_wp2;go_ret;exact⟨rfl,d.o⟩
def ch(w:World)(c:Cg)(hc:c.ok)(T:Nat->Tg)(wp p:Nat)(g:Gs)(x:Wi)(hg:GAt w c T wp g)(h:aO w c T wp p x)(hx:x.ok c):C 338 #[Z p 0] w (J (.bool (x.ready c g)) w):=by
 have s:=Z1 (tf w c T wp p x h);have A:=Z1 (λU (t:M w U)=>vC U c hc T wp g (hg.up t));have G:=Z1 (λU (t:M w U)=>iO U c hc T wp p g x (hg.up t) (h.up t));have k:=cW c;obtain⟨y,h⟩:=h;have f:=Z1 h.B0;have B:x.ready c g=(!x.over&&(if x.B3=true then decide (g.held (lineN c) x.task≠0)else decide (x.B8<0)||decide (g.held x.B8 x.task≠0))):=rfl;have D:aq x.task:=by have:=hx.task;constructor<;>omega
 have i:=hx.B8;have u:=Z1 k;generalize x.over=H at*;rw[B];clear h hg hx B k
 cases H with
 |true=>
  go_in
  go_wp2_with fail;refine zm s.o λz a=>?_;go_wp2
  all_goals (go_ret;exact⟨rfl,a⟩)
 |false=>
  by_cases m:x.B3=true
  ·rw[m]
   go_in
   go_wp2_with fail;refine zm s.o λz a=>?_;have q:=gw (f.o.later a);rw[m]at q;have b:=Z2 a (f.o.later a);clear a f m;go_upto_region 4 with fail
   have d:=And.intro b.o.1.drew b.o.2.drew;refine zH (S:=λU=>M w U/\Blk U p 203 (cr wp y x)) d ?_;refine(zp 3 ?_);refine zL ?_;refine(zp 9 ?_);refine zo 5 λK hK=>?_;go_simp;refine zm (G.o _ d.1) λP v=>?_;have l:=And.intro (af d.1 v) (d.2.later v);refine zJ hK l ?_;refine zo 10 λK hK=>?_;go_simp;rw[u.o]
   (refine(A.o _ l.1 (c.st+1) zO _ D).mono ?_)
   rintro L N ⟨rfl,rfl⟩;refine zJ hK l ?_;go_wp2;go_ret;refine⟨?_,l.1⟩;rw[u.o];show Ending.returned (.bool (g.held ((c.st+1:Nat):Int) x.task !=0))=_;rw[ue];simp
  ·have j:x.B3=false:=by simpa using m
   rw[j]
   rcases i with i|⟨n,i,O⟩
   ·rw[i]
    go_in
    go_wp2_with fail;refine zm s.o λz a=>?_;have q:=gw (f.o.later a);rw[j]at q;have b:=Z2 a (f.o.later a);clear a f m j;go_upto_region 5 with fail
    have d:=And.intro b.o.1.drew b.o.2.drew;refine zH (S:=λU=>M w U/\Blk U p 203 (cr wp y x)) d ?_;refine zq 3 ?_ (λW hW=>?_) ?_;rotate_left
    ·have r:=gv hW.2;rw[i]at r;exact zf
    refine zL ?_;go_wp2;go_ret;exact⟨rfl,d.1⟩
   ·rw[i]
    go_in
    go_wp2_with fail;refine zm s.o λz a=>?_;have q:=gw (f.o.later a);rw[j]at q;have b:=Z2 a (f.o.later a);clear a f m j;go_upto_region 5 with fail
    have d:=And.intro b.o.1.drew b.o.2.drew;refine zH (S:=λU=>M w U/\Blk U p 203 (cr wp y x)) d ?_;refine zq 3 ?_ (λW hW=>?_) ?_;rotate_left
    ·have r:=gv hW.2;rw[i]at r;exact zf
    refine zL ?_;refine zq 9 ?_ (λW hW=>?_) ?_;rotate_left
    ·have Q:=iy hW.2;exact zf
    refine zL ?_;refine zq 13 ?_ (λW hW=>?_) ?_;rotate_left
    ·have r:=gv hW.2;rw[i]at r;exact zf
    refine zL ?_;refine zq 17 ?_ (λW hW=>?_) ?_;rotate_left
    ·have R:=rR hW.2;exact zf
    refine zo 18 λK hK=>?_;go_simp
    (refine(A.o _ d.1 n O _ D).mono ?_)
    rintro L N ⟨rfl,rfl⟩;refine zJ hK d ?_;go_wp2;go_ret;refine⟨?_,d.1⟩;have F:decide ((n:Int)<0)=false:=zS;rw[F];show Ending.returned (.bool (g.held n x.task !=0))=_;rw[ue];simp
def GAt.storeAt{w:World}{c:Cg}{T:Nat->Tg}{wp:Nat}{g:Gs}(h:GAt w c T wp g):∃sp v tp lb S,(∀U,M w U->C 30 #[Z wp 0] U λe w'=>e=.returned (Z sp 0)/\U=w')/\bU w c T sp v tp lb S/\et c S g.mp/\(∀U w' m',M w U->dJ U w' c T sp m'->bj U w' c T wp {g with mp:=m'})/\∀U w' T',M w U->aW T T' U.heap.size->eH w' c T' sp g.mp->ag (λb=>eE (T b)) U w'->GAt w' c T' wp g/\ag (λb=>eN (T b)) U w':=by
 obtain⟨f,sp,d,h⟩:=h;obtain⟨v,tp,lb,S,i,j⟩:=h.G3;exact⟨sp,v,tp,lb,S,λU a=>oR U c T wp g f sp d (h.up a),i,j,λU w' m' a k=>(h.up a).Q5 k,λU w' T' a l m n=>(h.up a).P6 l m n⟩
def iP(w:World)(c:Cg)(hc:c.ok)(T:Nat->Tg)(wp p:Nat)(g:Gs)(x:Wi)(hg:GAt w c T wp g)(h:aO w c T wp p x)(hx:x.key.ok):C 344 #[Z p 0] w (J (I (homeN c x.key)) w):=by
 obtain⟨k,v,l,m,S,f,i,j,_,_⟩:=hg.storeAt;have q:=Z1 f;have r:=Z1 (λU (s:M w U)=>ns U c hc T k v l m S (i.up s) j.n x.key hx);obtain⟨t,h⟩:=h;have a:=And.intro ((zi w)) h.B0.drew;clear h hg hx f i j
 go_in
 go_upto_region 1 with fail
 refine zH (S:=λU=>M w U/\Blk U p 203 (cr wp t x)) a ?_;refine(zp 3 ?_);refine zL ?_;refine zq 8 ?_ (λW hW=>?_) ?_;rotate_left
 ·have u:=rS hW.2;have y:=rT hW.2;exact zf
 refine zo 4 λK hK=>?_;go_simp
 (refine(q.o _ a.1).mono ?_)
 rintro z A ⟨rfl,rfl⟩;refine zJ hK a ?_;refine zo 9 λK hK=>?_;go_simp;refine zm (r.o _ a.1) λB b=>?_;have d:=And.intro (af a.1 b) (a.2.later b);refine zJ hK d ?_;go_wp2;go_ret;exact⟨rfl,d.1⟩
def BI{w:World}{wp:Nat}{t:TypeId}{vs:Value}{x:Wi}(h:Blk w p t (cr wp vs x)):∀j v,x.E0.arr.toList[j]?=some v->w.cell? (((Y p 8):Addr).add j)=some v:=by
 refine dw (b:=p) (o:=8) (cs:=x.E0.arr) λj v a=>?_;have e:j<5:=by
  have c:=OZ.1 a;obtain⟨d,_⟩:=c;exact d
 rw[h.cell,<-a]
 rcases j with _|_|_|_|_|j<;>first|rfl|omega
def lY(x:Adv):x.arr.all (·.oneCell')=true:=by simp[Adv.arr,Adv.cells,Value.oneCell']
def nB(T:Nat->Tg)(wp p:Nat)(g:Gs)(x:Wi)(hg:GAt w c T wp g)(h:aO w c T wp p x)(hx:x.ok c)(hn:g.ev.length<=70000)(kd:Int)(hkd:0<=kd/\kd<=7/\kd≠6):C 345 #[Z p 0,I kd] w λe w'=>e=.returned (.tuple #[])/\bj w w' c T wp (g.note (x.event kd)):=by
 have d:(x.event kd).ok:=⟨iN (n:=kd) zO,iN (n:=x.task) (by have:=hx.task;omega),aD,Cl.I2,ym,hx.key,by unfold Wi.event;rw[Oz hkd.2.2];exact nT⟩;have z:=Z1 (λU (A:M w U)=>lB U c (ext T w.heap.size .free) wp g (hg.free.up A) (x.event kd) d hn);obtain⟨l,h⟩:=h;have a:=And.intro ((zi w)) h.B0.drew;have m:=h.B0.lt;have t:=Z1 h.tp;have B:Hid (x.event kd=⟨kd,x.task,0,.zero,.zero,x.key,az⟩):=Z1 (by unfold Wi.event;rw[Oz hkd.2.2]);generalize u:x.event kd=ev at*;have D:(kd==6)=false:=by simpa using hkd.2.2
 clear hkd;clear h hg hx d u
 go_in
 go_upto_region 0 with fail
 refine zH (S:=λU=>M w U/\Blk U p 203 (cr wp l x)) a ?_;refine zq 4 ?_ (λW hW=>?_) ?_;rotate_left
 ·have F:=rR hW.2;exact zf
 refine zL ?_;refine zq 8 ?_ (λW hW=>?_) ?_;rotate_left
 ·have G:=rS hW.2;have H:=rT hW.2;exact zf
 refine zL ?_;refine zo 10 λK hK=>?_;go_simp;have b:M w (w.drew.alloc (.cells (⟨0,0,0,.zero,.zero,⟨0,0⟩,az⟩:Vt).arr 79))/\Blk (w.drew.alloc (.cells (⟨0,0,0,.zero,.zero,⟨0,0⟩,az⟩:Vt).arr 79)) p 203 (cr wp l x):=⟨ae a.1 _,a.2.alloc _⟩;have q:=Blk.A8 w.drew 79 (⟨0,0,0,.zero,.zero,⟨0,0⟩,az⟩:Vt).arr rfl;refine zJ hK b ?_;refine zo 11 λK hK=>?_;refine bX ba (.tmp 4) (.tmp 14) rfl w.drew.heap.size 0 zF (⟨kd,x.task,0,.zero,.zero,x.key,az⟩:Vt).arr zF q rfl zP (mE _) ?_;intro v f i;have j:=And.intro (i.below b.1 (OA _)) (i.B0 b.2 (PP m));refine zJ hK j ?_;rw[show bH (⟨0,0,0,.zero,.zero,⟨0,0⟩,az⟩:Vt).arr 0 (⟨kd,x.task,0,.zero,.zero,x.key,az⟩:Vt).arr.toList=(⟨kd,x.task,0,.zero,.zero,x.key,az⟩:Vt).arr by kernel_rfl]at f;have s:=Z2 j f;clear a b j q i f;go_upto_region 3 with fail
 have r:=s.o.1.1.drew;have a:Blk v.drew p 203 (cr wp l x)/\Blk v.drew w.drew.heap.size 79 ev.arr:=⟨s.o.1.2.drew,by rw[B.o];exact s.o.2.drew⟩;refine zH (S:=λU=>Blk U p 203 (cr wp l x)/\Blk U w.drew.heap.size 79 ev.arr) a ?_;refine(zp 3 ?_);refine zq 4 ?_ (λW hW=>?_) ?_;rotate_left
 ·refine bE ba (.tmp 4) ?_ (Y w.drew.heap.size 0) ?_ ev.arr rfl ?_;exact rfl;exact rfl;exact bQ hW.2
 refine zo 5 λK hK=>?_;go_simp;refine zm (z.o _ r) λL k=>?_;have y:=And.intro (k.E8 a.1 m t.o) (k.B0 a.2 (OA _));refine zJ hK y ?_;go_wp2;refine zt ?_;exact⟨rfl,bj.box rfl r k⟩
def Gv(T:Nat->Tg)(wp p:Nat)(g:Gs)(x:Wi)(hg:GAt w c T wp g)(h:aO w c T wp p x)(hx:x.ok c)(hn:g.ev.length<=70000):C 345 #[Z p 0,I 6] w λe w'=>e=.returned (.tuple #[])/\bj w w' c T wp (g.note (x.event 6)):=by
 have f:(x.event 6).ok:=⟨iN (n:=6) zO,iN (n:=x.task) (by have:=hx.task;omega),aD,Cl.I2,ym,hx.key,hx.E0⟩;have G:=Z1 (λU (H:M w U)=>lB U c (ext T w.heap.size .free) wp g (hg.free.up H) (x.event 6) f hn);obtain⟨t,h⟩:=h;have b:=And.intro ((zi w)) h.B0.drew;have i:=h.B0.lt;have A:=Z1 h.tp;have L:Hid (x.event 6=⟨6,x.task,0,.zero,.zero,x.key,x.E0⟩):=Z1 (rfl);generalize B:x.event 6=ev at*;clear h hg hx f B
 go_in
 go_upto_region 0 with fail
 refine zH (S:=λU=>M w U/\Blk U p 203 (cr wp t x)) b ?_;refine zq 4 ?_ (λW hW=>?_) ?_;rotate_left
 ·have N:=rR hW.2;exact zf
 refine zL ?_;refine zq 8 ?_ (λW hW=>?_) ?_;rotate_left
 ·have O:=rS hW.2;have P:=rT hW.2;exact zf
 refine zL ?_;refine zo 10 λK hK=>?_;go_simp;have d:M w (w.drew.alloc (.cells (⟨0,0,0,.zero,.zero,⟨0,0⟩,az⟩:Vt).arr 79))/\Blk (w.drew.alloc (.cells (⟨0,0,0,.zero,.zero,⟨0,0⟩,az⟩:Vt).arr 79)) p 203 (cr wp t x):=⟨ae b.1 _,b.2.alloc _⟩;have a:=Blk.A8 w.drew 79 (⟨0,0,0,.zero,.zero,⟨0,0⟩,az⟩:Vt).arr rfl;refine zJ hK d ?_;refine zo 11 λK hK=>?_;refine bX ba (.tmp 4) (.tmp 14) rfl w.drew.heap.size 0 zF (⟨6,x.task,0,.zero,.zero,x.key,az⟩:Vt).arr zF a rfl zP (mE _) ?_;intro Q j k;have l:=And.intro (k.below d.1 (OA _)) (k.B0 d.2 (PP i));refine zJ hK l ?_;rw[show bH (⟨0,0,0,.zero,.zero,⟨0,0⟩,az⟩:Vt).arr 0 (⟨6,x.task,0,.zero,.zero,x.key,az⟩:Vt).arr.toList=(⟨6,x.task,0,.zero,.zero,x.key,az⟩:Vt).arr by kernel_rfl]at j;have m:=Z2 l j;clear b d l a k j;have u:=BI m.o.1.2;have v:=m.o.2
 go_wp2_with (first|refine aG gu rfl (.tmp 19) rfl (Y p 8) zF x.E0.arr rfl u ?_|(refine dW gu rfl (.tmp 21) (.tmp 20) rfl w.drew.heap.size 29 zF x.E0.arr zF v rfl (by rw[kF];decide) (lY _) ?_;intro D a q))
 have y:=And.intro (q.below m.o.1.1 (OA _)) (q.B0 m.o.1.2 (PP i));rw[show bH (⟨6,x.task,0,.zero,.zero,x.key,az⟩:Vt).arr 29 x.E0.arr.toList=(⟨6,x.task,0,.zero,.zero,x.key,x.E0⟩:Vt).arr by kernel_rfl]at a;have r:=Z2 y a;clear y q a u v m;go_upto_region 3 with fail
 have z:=r.o.1.1.drew;have b:Blk D.drew p 203 (cr wp t x)/\Blk D.drew w.drew.heap.size 79 ev.arr:=⟨r.o.1.2.drew,by rw[L.o];exact r.o.2.drew⟩;refine zH (S:=λU=>Blk U p 203 (cr wp t x)/\Blk U w.drew.heap.size 79 ev.arr) b ?_;refine(zp 3 ?_);refine zq 4 ?_ (λW hW=>?_) ?_;rotate_left
 ·refine bE ba (.tmp 4) ?_ (Y w.drew.heap.size 0) ?_ ev.arr rfl ?_;exact rfl;exact rfl;exact bQ hW.2
 refine zo 5 λK hK=>?_;go_simp;refine zm (G.o _ z) λR s=>?_;have F:=And.intro (s.E8 b.1 i A.o) (s.B0 b.2 (OA _));refine zJ hK F ?_;go_wp2;refine zt ?_;exact⟨rfl,bj.box rfl z s⟩
def Kr(x:Wi)(n:Int):(cr wp vs x).setIfInBounds 3 (I n)=cr wp vs {x with B8:=n}:=rfl
def m9(hc:c.ok)(T:Nat->Tg)(wp p:Nat)(g:Gs)(x:Wi)(hg:GAt w c T wp g)(h:aO w c T wp p x)(hx:x.ok c)(n:Nat)(hn:n<c.st+2)(b:Bool)(th:Int)(hf:(g.lock n).line.length<=900):
  C 341 #[Z p 0,I n,.bool b,I th] w λe w'=>e=.returned (I th)/\aV w w' c T wp (g.ask n x.task b).1 p {x with B8:=if(g.ask n x.task b).2=true then x.B8 else n}:=by
 have z:aq x.task:=by have:=hx.task;constructor<;>omega
 have A:=Z1 (λU (B:M w U)=>yf U c hc T wp g (hg.up B) n hn x.task z b hf);have D:=Z1 h;obtain⟨F,h⟩:=h;have d:=(zi w);have k:=h.B0.drew;have l:=Z1 h.tp;generalize G:(g.ask n x.task b).2=r at*;generalize (g.ask n x.task b).1=L at*;clear h hg hx G hf
 go_in
 go_upto_region 1 with fail
 refine zH (S:=λU=>Blk U p 203 (cr wp F x)) k ?_;refine zq 3 ?_ (λW hW=>?_) ?_;rotate_left
 ·have N:=iy hW;exact zf
 refine zL ?_;refine zq 8 ?_ (λW hW=>?_) ?_;rotate_left
 ·have O:=rR hW;exact zf
 refine zL ?_;refine zo 10 λK hK=>?_;go_simp
 (refine(A.o _ d).mono ?_)
 rintro P Q ⟨⟨R,rfl⟩,f⟩;have m:=aV.F4 (D.o.up d) f;have j:=f.O1 k l.o;refine zJ hK j ?_;obtain⟨H,s,t,⟨u,i⟩,v⟩:=m;have a:=Z4 s t i v;have X:=gv i.B0;have f3:=i.B0.frozen 3;clear k j f s t i v
 cases r with
 |true=>
  go_wp2_with fail;go_ret;exact⟨rfl,bc.after d ⟨H,a.o.1,a.o.2.1,⟨u,a.o.2.2.1⟩,a.o.2.2.2⟩⟩
 |false=>
  go_wp2;go_ret;have y:=a.o.2.2.1.B0.B4 3 (I (n:Int));rw[Kr]at y;refine⟨rfl,bc.after d (bc.trans a.o.1 a.o.2.2.2 (aV.own (x':={x with B8:=(n:Int)}) a.o.2.1 a.o.2.2.1 (aI.B4 _ _ _ _) y rfl λe=>?_))⟩
  rcases a.o.2.2.1.D9 with⟨_,q⟩|⟨np,q,_⟩
  ·exact q
  ·rw[e]at q;cases q
def j7(hc:c.ok)(T:Nat->Tg)(wp p:Nat)(g:Gs)(x:Wi)(hg:GAt w c T wp g)(h:aO w c T wp p x)(hx:x.ok c)(n:Nat)(hn:n<c.st+2)(th:Int)(hh:g.held n x.task≠0)(hf:(g.lock n).line.length<=900):
  C 343 #[Z p 0,I n,I th] w λe w'=>e=.returned (I th)/\aV w w' c T wp (g.drop n x.task) p x:=by
 have k:aq x.task:=by have:=hx.task;constructor<;>omega
 have l:=Z1 (λU (m:M w U)=>vD U c hc T wp g (hg.up m) n hn x.task k hh hf);have q:=Z1 h;obtain⟨r,h⟩:=h;have a:=(zi w);have d:=h.B0.drew;have f:=Z1 h.tp;clear h hg hx hf hh
 go_in
 go_upto_region 1 with fail
 refine zH (S:=λU=>Blk U p 203 (cr wp r x)) d ?_;refine zq 3 ?_ (λW hW=>?_) ?_;rotate_left
 ·have s:=iy hW;exact zf
 refine zL ?_;refine zq 8 ?_ (λW hW=>?_) ?_;rotate_left
 ·have t:=rR hW;exact zf
 refine zo 9 λK hK=>?_;go_simp
 (refine(l.o _ a).mono ?_)
 rintro u v ⟨⟨y,rfl⟩,b⟩;have i:=b.O1 d f.o;refine zJ hK i ?_;have j:=Z1 (aV.F4 (q.o.up a) b);clear b;go_wp2;go_ret;exact⟨rfl,bc.after a j.o⟩
def NE(x:Wi)(a b:Int):((cr wp vs x).setIfInBounds 5 (E a)).setIfInBounds 6 (E b)=cr wp vs {x with key:=⟨a,b⟩}:=rfl
def Ks(x:Wi)(b:Bool):(cr wp vs x).setIfInBounds 4 (.bool b)=cr wp vs {x with B3:=b}:=rfl
def eM.nil{w:World}{c:Cg}{wp:Nat}{x:Wi}{vs:Value}(h:eM w c T wp p x vs):vs=.pointer none->x.B6≠5/\x.B6≠6:=λe=>by
 rcases h.D9 with⟨_,q⟩|⟨a,q,_⟩
 ·exact q
 ·rw[e]at q;cases q
def AL(T:Nat->Tg)(wp p:Nat)(g:Gs)(x:Wi)(hg:GAt w c T wp g)(h:aO w c T wp p x)(hx:x.ok c)(hf:g.E5)(k:K2)(r:List K2)(hl:g.q.line=k::r)(hd:k∈g.q.C5)(hd5:x.B6≠5/\x.B6≠6)(hn:g.ev.length<=70000):
  C 342 #[Z p 0] w λe w'=>e=.returned (I 2)/\aV w w' c T wp ({g with q:=g.q.get.1}.note (({x with key:=k}:Wi).event 4)) p {x with key:=k}:=by
 have G:=Z1 (gP w c T wp g hg);have B:Hid (k.ok/\C 349 #[Z wp 10] w λe w'=>e=.returned (.tuple #[k.val,.bool true])/\bj w w' c T wp {g with q:=g.q.get.1}):=Z1 (by
  obtain⟨S,sp,lb,f⟩:=hg;refine⟨f.wq.ok k (by rw[hl];simp),(Dv wp 10 _ S _ g.q k r w f.wq ⟨hf.q.1,hf.q.2.1,hf.q.2.2⟩ hl hd).mono ?_⟩;rintro e w' ⟨X,h2⟩;exact⟨X,f.queue h2⟩)
 have HH:=Z1 h;have v:({g with q:=g.q.get.1}:Gs).ev.length<=70000:=hn;generalize ({g with q:=g.q.get.1}:Gs)=H at*;have HN:=Z1 (λU T' (n:GAt U c T' wp H) (s:aO U c T' wp p {x with key:=k})=>nB U c T' wp p H {x with key:=k} n s ⟨hx.task,hx.B6,hx.B8,B.o.1,hx.D9,hx.E0,hx.done⟩ v 4 zO);have HD:=Z1 hd5;obtain⟨t,u⟩:=k;unfold K2.val K2.arr at B;obtain⟨an,h⟩:=h;have q0:=iy h.B0;clear h hg hx hf hl hd hn v hd5
 go_in
 go_wp2_with fail;refine G.o.mono ?_;rintro e1 w1 ⟨rfl,rfl⟩;go_wp2_with fail;refine zm B.o.2 λD y=>?_;clear q0;obtain⟨L,n,s,⟨vs,F⟩,N⟩:=aV.F4 HH.o y;have i:=zh D (.cells #[E t,E u] 58);have z:=Blk.A8 D 58 #[E t,E u] rfl;have a:=(F.up i).B0;obtain⟨d0,d1⟩:=ao z;have q5:=rS a;have q6:=rT a;have f5:=a.frozen 5;have f6:=a.frozen 6;have d:=Z5 n s F N i;clear n s F N y a i z;go_wp2_with fail;have j:=(d.o.2.2.1.more (T':=ext L D.heap.size .free) λb hb=>br L _ hb).up d.o.2.2.2.2;have l:=(j.B0.B4 5 (E t)).B4 6 (E u);rw[NE]at l;obtain⟨T4,O,P,Q,R⟩:=aV.own (x':={x with key:=⟨t,u⟩}) (d.o.2.1.free.up d.o.2.2.2.2) j ((aI.B4 _ _ _ _).trans (aI.B4 _ _ _ _)) l rfl λ_=>HD.o;have m:=Z4 O P Q R;clear O P Q R l j d0 d1 f5 f6 q5 q6;refine zm (HN.o _ _ m.o.2.1 m.o.2.2.1) λw5 A=>?_;have HF:=Z1 (bc.trans d.o.1 d.o.2.2.2.1 (bc.box rfl d.o.2.2.2.2 (bc.trans m.o.1 m.o.2.2.2 (aV.F4 m.o.2.2.1 A))));clear A;go_wp2;go_ret;exact⟨rfl,HF.o⟩
def AM(T:Nat->Tg)(wp p:Nat)(g:Gs)(x:Wi)(hg:GAt w c T wp g)(h:aO w c T wp p x)(hx:x.ok c)(hf:g.E5)(hl:g.q.line=[])(hov:g.q.over=true):
  C 342 #[Z p 0] w λe w'=>e=.returned (I 12)/\aV w w' c T wp g p x:=by
 have f:=Z1 (λU (k:M w U)=>gP U c T wp g (hg.up k));have r:Hid (C 349 #[Z wp 10] w (J (.tuple #[.agg #[E 0,E 0],.bool false]) w)):=Z1 (by
  obtain⟨l,s,t,a⟩:=hg;exact sZ wp 10 _ l _ g.q w a.wq hl)
 have u:Hid (∀U,M w U->C 350 #[Z wp 10] U (J (.bool true) U)):=Z1 λU k=>by
  obtain⟨l,s,t,a⟩:=hg.up k;have:=uG wp 10 _ l _ g.q U a.wq ⟨hf.q.1,hf.q.2.1,hf.q.2.2⟩;rw[hov,hl]at this;exact this
 have m:=Z2 hg h;obtain⟨z,h⟩:=h;have v:=Z1 h.B0;have y:=iy h.B0;clear h hg hx hf hl hov
 go_in
 go_wp2_with fail;refine(f.o _ (Oy _ _)).mono ?_;rintro A B ⟨rfl,rfl⟩;go_wp2_with fail;refine zm r.o λD i=>?_;have b:=ae i (.cells #[E 0,E 0] 58);have y:=iy (v.o.later b);have d:=Z1 b;clear i b;go_wp2_with fail;refine(f.o _ d.o).mono ?_;rintro F G ⟨rfl,rfl⟩;go_wp2_with fail;refine zm (u.o _ d.o) λH j=>?_;have n:=Z1 (af d.o j);clear j;go_wp2;go_ret;exact⟨rfl,aV.same m.o.1 m.o.2 n.o⟩
def yn(hc:c.ok)(T:Nat->Tg)(wp p:Nat)(g:Gs)(x:Wi)(hg:GAt w c T wp g)(h:aO w c T wp p x)(hx:x.ok c)(hf:g.E5)(hl:g.q.line=[])(hov:g.q.over=false)(hh:bS g.ln x.task=2):
  C 342 #[Z p 0] w λe w'=>e=.returned (I 1)/\aV w w' c T wp (g.sleep x.task) p {x with B3:=true}:=by
 have m:=Z1 (λU (u:M w U)=>gP U c T wp g (hg.up u));have P:Hid (C 349 #[Z wp 10] w (J (.tuple #[.agg #[E 0,E 0],.bool false]) w)):=Z1 (by
  obtain⟨v,Q,R,d⟩:=hg;exact sZ wp 10 _ v _ g.q w d.wq hl)
 have X:Hid (∀U,M w U->C 350 #[Z wp 10] U (J (.bool false) U)):=Z1 λU u=>by
  obtain⟨v,Q,R,d⟩:=hg.up u;have:=uG wp 10 _ v _ g.q U d.wq ⟨hf.q.1,hf.q.2.1,hf.q.2.2⟩;rw[hov,hl]at this;exact this
 have B:aq x.task:=by have:=hx.task;constructor<;>omega
 have HS:=Z1 (λU D (a:GAt U c D wp g)=>Dy U c hc D wp g a x.task B hh (OJ hf.line zP) (OJ hf.B3 zP));have F:=Z2 hg h;obtain⟨vs,h⟩:=h;have y:=Z1 h;have z:=iy h.B0;clear h hg hx hf hl hov B hh
 go_in
 go_wp2_with fail;refine(m.o _ (Oy _ _)).mono ?_;rintro e1 w1 ⟨rfl,rfl⟩;go_wp2_with fail;refine zm P.o λw2 n=>?_;have f:=ae n (.cells #[E 0,E 0] 58);have z:=iy (y.o.B0.later f);have i:=Z1 f;clear n f;go_wp2_with fail;refine(m.o _ i.o).mono ?_;rintro e4 w4 ⟨rfl,rfl⟩;go_wp2_with fail;refine zm (X.o _ i.o) λw5 r=>?_;have s:=Z1 (af i.o r);clear r z;go_upto_region 8 with fail
 have j:=s.o.drew;have A:=(y.o.B0.later s.o).drew;refine zH (S:=λU=>Blk U p 203 (cr wp vs x)) A ?_;refine zq 3 ?_ (λW hW=>?_) ?_;rotate_left
 ·have z:=iy hW;exact zf
 refine zL ?_;refine zq 7 ?_ (λW hW=>?_) ?_;rotate_left
 ·have q1:=rR hW;exact zf
 refine zo 8 λK hK=>?_;go_simp
 (refine(HS.o _ _ (F.o.1.up j)).mono ?_)
 rintro e6 w6 ⟨⟨er,rfl⟩,k⟩;have t:=k.O1 A y.o.tp;refine zJ hK t ?_;obtain⟨T6,G,H,⟨ac,l⟩,L⟩:=aV.F4 (F.o.2.up j) k;have q4:=gw l.B0;have f4:=l.B0.frozen 4;have b:=Z4 G H l L;have N:=Z1 j;clear G H l L k A t;go_wp2;go_ret;have O:=b.o.2.2.1.B0.B4 4 (.bool true);rw[Ks]at O;exact⟨rfl,bc.after N.o (bc.trans b.o.1 b.o.2.2.2 (aV.own (x':={x with B3:=true}) b.o.2.1 b.o.2.2.1 (aI.B4 _ _ _ _) O rfl b.o.2.2.1.nil))⟩
end Go.Fw
