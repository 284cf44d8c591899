/- Lemmas of this claim. Conditions: as each says. -/
import Derived.Test.YtpfmpaolgmoajaaGreatL10
set_option linter.unusedVariables false
set_option linter.unusedSimpArgs false
set_option maxHeartbeats 4000000
set_option maxRecDepth 20000
set_option linter.defProp false
open Go.Proofs.Tryz
namespace Go.Fw
open Go.RowKit open Go.Proofs hiding intOf
variable {n k:Nat}{sl':Value}{l' l:Lk}{r' r:Rf}{xs:Array Value}{T:Nat->Tg}{m':Mp}(w:World)(c:Cg)
section
variable {w w':World} {c:Cg} {T T':Nat→Tg} {wp sp lb:Nat} {g g':Gs} {cs cs':Array Value} {L:Nat→Prop}
def GIn.P5(h:GIn w c T wp g cs sp lb)(hb:Blk w' wp 165 cs')(hs:bF 6 10 cs cs')(hT:T' wp=.wld)(h1:eH w' c T' sp g'.mp)(h2:s6 w' T' lb g'.E4)(h3:g'.E4.length=c.st+1)(h4:xZ w' T' wp cs' g'.ln g'.B3)(h5:WqT w' T' wp cs' g'.q)(h6:EvT w' T' cs' g'.ev):GIn w' c T' wp g' cs' sp lb:=
 ⟨hb,hs.1.trans h.size,(hs.2 0 zO).trans h.c0,(hs.2 1 zO).trans h.c1,(hs.2 2 zO).trans h.c2,(hs.2 3 zO).trans h.c3,(hs.2 4 zO).trans h.c4,(hs.2 5 zO).trans h.c5,hT,h1,h2,h3,h4,h5,h6⟩
def fQ(T:Nat->Tg)(n:Nat)(t:Tg):aW T (ext T n t) n:=λb a=>.inl (br T t a)
def GIn.lk(h:GIn w c T wp g cs sp lb){lcs:Array Value}{sls:Nat->Value}{E4:Nat->Lk}(hl:Lm w T lb lcs sls E4 g.E4)(hn:n<g.E4.length){lcs':Array Value}
  (h1:bt w' lb (n*3) 0 156 lcs' sl' l')(ho:bF (n*3) 3 lcs lcs')(hK:ag (λj=>j=lb\/(sls n).ownBlock=some j) w w')(hs:sl'.ownBlock=(sls n).ownBlock\/∀k,sl'.ownBlock=some k->w.heap.size<=k)(hr:dX l' r'):
  GIn w' c (ext T w.heap.size (.lk n)) wp {g with E4:=g.E4.set n r'} cs sp lb/\ag (λb=>eN (T b)) w w':=by
 have z:∀b,(b=lb\/(sls n).ownBlock=some b)->∃m,T b=.lk m:=λb e=>by
  rcases e with rfl|e
  ·exact⟨_,hl.tl⟩
  ·exact⟨_,hl.tags n hn b e⟩
 have l:∀(P:Tg->Prop),(∀m,¬P (.lk m))->∀b,P (T b)->¬(b=lb\/(sls n).ownBlock=some b):=λP B b a e=>by
  obtain⟨m,f⟩:=z b e;rw[f]at a;exact B m a
 have o:∀b,b<w.heap.size->ext T w.heap.size (.lk n) b=T b:=λb a=>br T _ a;have u:=hK.B0 h.B0 (l (λt=>t=.wld) (λm e=>by cases e) wp h.tw);refine⟨h.P5 u (bF.refl _ _ _) ((o _ h.B0.lt).trans h.tw) ?_ ?_ (by show(g.E4.set n r').length=_;rw[PI];exact h.nl) ?_ ?_ ?_,hK.C3 λb e=>?_⟩
 ·exact h.G3.D1 hK (l (λt=>eE t\/t=.fz) (λm e=>by rcases e with e|e;exact e;cases e)) o
 ·have v:∀m,(g.E4.set n r').getD m .zero=if n=m/\m<g.E4.length then r' else g.E4.getD m .zero:=λm=>by
   rw[OP,Qo,OP];by_cases e:n=m
   ·subst e;simp[hn]
   ·simp[e]
  refine⟨lcs',λm=>if m=n then sl' else sls m,λm=>if m=n then l' else E4 m,h1.B0,?_,λm f=>?_,λm f=>?_,λm f b a=>?_⟩
  ·show ext T _ _ lb=.lk (g.E4.set n r').length;rw[PI,o _ hl.B0.lt];exact hl.tl
  ·have d:m<g.E4.length:=by
    have:m<(g.E4.set n r').length:=f
    rwa [PI]at this
   by_cases e:m=n
   ·subst e;simp only[if_true];exact h1
   ·simp only[e,if_false];have i:=hl.at_ m d;have A:∀k,(sls m).ownBlock=some k->¬(k=lb\/(sls n).ownBlock=some k):=λk y x=>by
     have p:=hl.tags m d k y
     rcases x with rfl|x
     ·rw[hl.tl]at p;injection p with p;omega
     ·rw[hl.tags n hn k x]at p;injection p with p;exact e p.symm
    exact⟨h1.B0,i.line.D3 λk y=>hK.block k (i.line.lt k y).2 (A k y),(ho.2 _ zO).trans i.r,(ho.2 _ zO).trans i.m,(ho.2 _ zO).trans i.s⟩
  ·have d:m<g.E4.length:=by
    have:m<(g.E4.set n r').length:=f
    rwa [PI]at this
   by_cases e:m=n
   ·subst e;show dX (if m=m then l' else E4 m) ((g.E4.set m r').getD m .zero);rw[OB rfl,v,OB ⟨rfl,d⟩];exact hr
   ·show dX (if m=n then l' else E4 m) ((g.E4.set n r').getD m .zero);rw[Oz e,v,Oz λx=>e x.1.symm];exact hl.rel m d
  ·have d:m<g.E4.length:=by
    have:m<(g.E4.set n r').length:=f
    rwa [PI]at this
   by_cases e:m=n
   ·subst e;simp only[if_true]at a
    rcases hs with hs|hs
    ·rw[hs]at a;have i:=hl.at_ m d;rw[o _ (i.line.lt b a).2];exact hl.tags m d b a
    ·exact cC T _ (hs b a)
   ·simp only[e,if_false]at a;have i:=hl.at_ m d;rw[o _ (i.line.lt b a).2];exact hl.tags m d b a
 ·exact h.ln.D1 u (λ_ _ _=>rfl) hK (l (λt=>t=.ln\/t=.al) (λm e=>by rcases e with e|e<;>cases e)) (λb a _=>o b a)
 ·exact h.wq.D1 u (λ_ _ _=>rfl) hK (l (λt=>t=.q) (λm e=>by cases e)) (λb a _=>o b a)
 ·exact h.ev.D1 rfl hK (l (λt=>t=.ev) (λm e=>by cases e)) (λb a _=>o b a)
 ·obtain⟨m,f⟩:=z b e;show eN (T b);rw[f];trivial
def GIn.line(h:GIn w c T wp g cs sp lb){sl al:Value}{zs:List Int}(hl:Nz w T wp cs sl al l r zs){al':Value}{zs':List Int}(t:Tg)(ht:t=.ln\/t=.al)
  (h1:cF w' wp 6 0 165 cs' sl' al' l' zs')(ho:bF 6 4 cs cs')(hK:ag (λj=>j=wp\/sl.ownBlock=some j\/al.ownBlock=some j) w w')(hs:sl'.ownBlock=sl.ownBlock\/t=.ln/\∀k,sl'.ownBlock=some k->w.heap.size<=k)(ha:al'.ownBlock=al.ownBlock\/t=.al/\∀k,al'.ownBlock=some k->w.heap.size<=k)(hr:dX l' r'):
  GIn w' c (ext T w.heap.size t) wp {g with ln:=r',B3:=zs'} cs' sp lb/\ag (λb=>eN (T b)) w w':=by
 have m:∀b,(b=wp\/sl.ownBlock=some b\/al.ownBlock=some b)->T b=.wld\/T b=.ln\/T b=.al:=λb e=>by
  rcases e with rfl|e|e
  ·exact .inl h.tw
  ·exact .inr (.inl (hl.L4 b e))
  ·exact .inr (.inr (hl.R8 b e))
 have i:∀(P:Tg->Prop),¬P .wld->¬P .ln->¬P .al->∀b,P (T b)->¬(b=wp\/sl.ownBlock=some b\/al.ownBlock=some b):=λP p s u b a e=>by
  rcases m b e with d|d|d<;>rw[d]at a
  ·exact p a
  ·exact s a
  ·exact u a
 have f:∀b,b<w.heap.size->ext T w.heap.size t b=T b:=λb a=>br T _ a;have o:=h1.lock.B0;refine⟨h.P5 o (ho.more zO zO) ((f _ h.B0.lt).trans h.tw) ?_ ?_ h.nl ⟨sl',al',l',h1,hr,λb e=>?_,λb e=>?_⟩ ?_ ?_,hK.C3 λb e=>?_⟩
 ·exact h.G3.D1 hK (i (λt=>eE t\/t=.fz) (by rintro(e|e);exact e;cases e) (by rintro(e|e);exact e;cases e) (by rintro(e|e);exact e;cases e)) f
 ·exact h.E4.D1 hK (λb n e=>i (λt=>t=.lk n) (by intro e;cases e) (by intro e;cases e) (by intro e;cases e) b e) (λb a _=>f b a)
 ·rcases hs with hs|⟨rfl,hs⟩
  ·rw[hs]at e;rw[f _ (hl.L6.lock.line.lt b e).2];exact hl.L4 b e
  ·exact cC T _ (hs b e)
 ·rcases ha with ha|⟨rfl,ha⟩
  ·rw[ha]at e;rw[f _ (hl.L6.B3.lt b e).2];exact hl.R8 b e
  ·exact cC T _ (ha b e)
 ·exact h.wq.D1 o (λj h1 v=>ho.2 j zO) hK (i (λt=>t=.q) (by intro e;cases e) (by intro e;cases e) (by intro e;cases e)) (λb a _=>f b a)
 ·exact h.ev.D1 (ho.2 15 zO) hK (i (λt=>t=.ev) (by intro e;cases e) (by intro e;cases e) (by intro e;cases e)) (λb a _=>f b a)
 ·show eN (T b)
  rcases m b e with d|d|d<;>rw[d]<;>trivial
end
def pR:393≠156:=zP
def kE:oQ 165:=⟨zP,zP⟩
def mC{g:Gs}{n:Nat}(h:n<g.E4.length):g.lock (n:Int)=g.E4.getD n .zero:=by unfold Gs.lock;simp[h]
def mD{g:Gs}{n:Nat}(h:¬n<g.E4.length):g.lock (n:Int)=g.ln:=by unfold Gs.lock;simp[h]
def qT{g:Gs}{n:Nat}(h:n<g.E4.length)(r:Rf):g.E1 (n:Int) r={g with E4:=g.E4.set n r}:=by unfold Gs.E1;simp[h]
def s8{g:Gs}{n:Nat}(h:¬n<g.E4.length)(r:Rf):g.E1 (n:Int) r={g with ln:=r}:=by unfold Gs.E1;simp[h]
def vC(w:World)(c:Cg)(hc:c.ok)(T:Nat->Tg)(wp:Nat)(g:Gs)(h:GAt w c T wp g)(n:Nat)(hn:n<c.st+2)(t:Int)(ht:aq t):C 260 #[Z wp 0,I n,I t] w λe w'=>e=.returned (I (g.held n t))/\w=w':=by
 obtain⟨f,m,d,h⟩:=h;have p:=Z1 (pQ w c hc T wp g f m d h n hn);have q:Hid (C 272 #[.pointer (some (jZ c wp d n)),I t] w λe w'=>e=.returned (I (g.held n t))/\w=w'):=Z1 (by
  unfold jZ Gs.held;by_cases a:n<g.E4.length
  ·rw[OB (by rw[<-h.nl];exact a),mC a];obtain⟨i,j,k,b⟩:=h.E4;rw[<-(b.rel n a).held t];exact ml d (n*3) 0 _ i (j n) (k n) t w (b.at_ n a) (b.rel n a).ok ht
  ·rw[Oz (by rw[<-h.nl];exact a),mD a];obtain⟨r,s,l,b⟩:=h.ln;rw[<-b.rel.held t];exact ml wp 6 0 _ f r l t w b.L6.lock b.rel.ok ht)
 clear h;generalize jZ c wp d n=u at*
 go_in
 go_wp2_with fail;refine zY p.o ?_;go_wp2_with fail;refine zY q.o ?_;go_wp2;go_ret;exact⟨rfl,rfl⟩
def yf(w:World)(c:Cg)(hc:c.ok)(T:Nat->Tg)(wp:Nat)(g:Gs)(h:GAt w c T wp g)(n:Nat)(hn:n<c.st+2)(t:Int)(ht:aq t)(b:Bool)(hf:(g.lock n).line.length<=900):
  C 273 #[Z wp 0,I n,I t,.bool b] w λe w'=>(∃er:Int,e=.returned (.tuple #[.bool (g.ask n t b).2,I er]))/\bj w w' c T wp (g.ask n t b).1:=by
 obtain⟨x,G,k,h⟩:=h;have H:=Z1 (pQ w c hc T wp g x G k h n hn);have L:Hid (C 281 #[.pointer (some (jZ c wp k n)),I t,.bool b] w λe w'=>(∃er:Int,e=.returned (.tuple #[.bool (g.ask n t b).2,I er]))/\bj w w' c T wp (g.ask n t b).1):=Z1 (by
  unfold jZ Gs.ask;by_cases a:n<g.E4.length
  ·rw[OB (by rw[<-h.nl];exact a),mC a,qT a];rw[mC a]at hf;obtain⟨y,z,A,d⟩:=h.E4;have f:=d.rel n a;refine(ud k (n*3) 0 _ y (z n) (A n) t b w (d.at_ n a) f.ok pR (by rw[f.line];exact hf) (OK _) ht).mono ?_;rintro e B ⟨rfl,N,D,r,m,p,s⟩;have i:=f.ask t b;rw[<-i.2];obtain⟨u,v⟩:=h.lk d a r m p s i.1;exact⟨⟨_,rfl⟩,_,fQ T _ _,⟨_,_,_,u⟩,v⟩
  ·rw[Oz (by rw[<-h.nl];exact a),mD a,s8 a];rw[mD a]at hf;obtain⟨O,S,l,d⟩:=h.ln;have f:=d.rel;refine(ud wp 6 0 _ x O l t b w d.L6.lock f.ok kE.want (by rw[f.line];exact hf) (OK _) ht).mono ?_;rintro e B ⟨rfl,R,D,r,m,p,s⟩;have i:=f.ask t b;rw[<-i.2];have P:=d.L6.asked kE r p m;obtain⟨u,v⟩:=h.line d .ln (.inl rfl) P (m.more (OA _) zO) (p.C3 λj e=>by rcases e with e|e;exact .inl e;exact .inr (.inl e)) (s.imp id λq=>⟨rfl,q⟩) (.inl rfl) i.1;exact⟨⟨_,rfl⟩,_,fQ T _ _,⟨_,_,_,u⟩,v⟩)
 clear h;generalize jZ c wp k n=U at*;generalize (g.ask n t b).2=X at*;generalize (g.ask n t b).1=g2 at*
 go_in
 go_wp2_with fail;refine zY H.o ?_;go_wp2_with fail;refine L.o.mono ?_;rintro e B ⟨⟨er,rfl⟩,F⟩;have Q:=Z1 F;clear F;go_wp2
 go_ret2
 exact⟨⟨er,rfl⟩,Q.o⟩
def vD(w:World)(c:Cg)(hc:c.ok)(T:Nat->Tg)(wp:Nat)(g:Gs)(h:GAt w c T wp g)(n:Nat)(hn:n<c.st+2)(t:Int)(ht:aq t)(hh:g.held n t≠0)(hf:(g.lock n).line.length<=900):
  C 266 #[Z wp 0,I n,I t] w λe w'=>(∃er:Int,e=.returned (I er))/\bj w w' c T wp (g.drop n t):=by
 obtain⟨s,D,f,h⟩:=h;have F:=Z1 (pQ w c hc T wp g s D f h n hn);have G:Hid (C 277 #[.pointer (some (jZ c wp f n)),I t] w λe w'=>(∃v,e=.returned (.tuple #[v,I 0]))/\bj w w' c T wp (g.drop n t)):=Z1 (by
  unfold Gs.held at hh;unfold jZ Gs.drop;by_cases a:n<g.E4.length
  ·rw[OB (by rw[<-h.nl];exact a),mC a,qT a];rw[mC a]at hf hh;obtain⟨u,x,y,d⟩:=h.E4;have b:=d.rel n a;rw[<-b.held]at hh;refine(rP f (n*3) 0 _ u (x n) (y n) t w (d.at_ n a) b.ok pR (by rw[b.line];exact hf) ht hh).mono ?_;rintro e z ⟨v,rfl,_,H,A,m,i,k,p⟩;obtain⟨q,r⟩:=h.lk d a m i (k.C3 λj e=>.inl e) (.inl p) (b.drop t).1;exact⟨⟨_,rfl⟩,_,fQ T _ _,⟨_,_,_,q⟩,r⟩
  ·rw[Oz (by rw[<-h.nl];exact a),mD a,s8 a];rw[mD a]at hf hh;obtain⟨L,Q,l,d⟩:=h.ln;have b:=d.rel;rw[<-b.held]at hh;refine(rP wp 6 0 _ s L l t w d.L6.lock b.ok kE.want (by rw[b.line];exact hf) ht hh).mono ?_;rintro e z ⟨v,rfl,_,P,A,m,i,k,p⟩;have N:=d.L6.dropped kE m k i;obtain⟨q,r⟩:=h.line d .ln (.inl rfl) N (i.more (OA _) zO) (k.C3 λj e=>.inl e) (.inl p) (.inl rfl) (b.drop t).1;exact⟨⟨_,rfl⟩,_,fQ T _ _,⟨_,_,_,q⟩,r⟩)
 clear h hh;generalize jZ c wp f n=R at*;generalize g.drop n t=S at*
 go_in
 go_wp2_with fail;refine zY F.o ?_;go_wp2_with fail;refine G.o.mono ?_;rintro e z ⟨⟨v,rfl⟩,B⟩;have O:=Z1 B;clear B;go_wp2;go_ret;exact⟨⟨_,rfl⟩,O.o⟩
structure Gs.E5(g:Gs):Prop where
 line:g.ln.line.length<=90
 B3:g.B3.length<=90
 tasks:∀t∈g.B3,aq t
 q:g.q.line.length<=1000/\g.q.C5.length<=1000/\g.q.busy.length<=1000
 B9:g.mp.B9.length<=80000
section
variable {w w' W:World} {c:Cg} {T T':Nat→Tg} {wp sp lb:Nat} {g g':Gs} {cs cs':Array Value} {L:Nat→Prop}
def GAt.free(h:GAt w c T wp g):GAt w c (ext T w.heap.size .free) wp g:=by
 obtain⟨f,i,j,h⟩:=h;have hK:ag (λ_=>False) w w:=ag.refl _ w;have d:∀b,b<w.heap.size->ext T w.heap.size .free b=T b:=λb a=>br T _ a;exact⟨f,i,j,h.P5 h.B0 (bF.refl _ _ _) ((d _ h.B0.lt).trans h.tw) (h.G3.D1 hK (λ_ _ e=>e) d) (h.E4.D1 hK (λ_ _ _ e=>e) λb a _=>d b a) h.nl (h.ln.D1 h.B0 (λ_ _ _=>rfl) hK (λ_ _ e=>e) λb a _=>d b a) (h.wq.D1 h.B0 (λ_ _ _=>rfl) hK (λ_ _ e=>e) λb a _=>d b a) (h.ev.D1 rfl hK (λ_ _ e=>e) λb a _=>d b a)⟩
def bj.box(hn:n=w.heap.size)(hb:M w W)(h:bj W w' c (ext T n .free) wp g'):bj w w' c T wp g':=by
 subst hn;obtain⟨d,f,g,i⟩:=h;refine⟨d,λb a=>?_,g,bL (ag.B5 hb) i λb a e=>?_⟩
 ·have j:=f b (OV a hb.size)
  rwa [br T _ a]at j
 ·have k:=e
  rwa [br T _ a]at k
def bj.B0{t:TypeId}(h:bj W w' c (ext T n .free) wp g')(hb:Blk W k t xs)(hk:n<=k):Blk w' k t xs:=by
 obtain⟨b,d,f,a⟩:=h;refine a.B0 hb λe=>?_;rw[cC T _ hk]at e;exact e
def GIn.queue(h:GIn w c T wp g cs sp lb){q':Qm}(hq:lP w w' wp 10 165 cs (λb=>T b=.q) q'):bj w w' c T wp {g with q:=q'}:=by
 obtain⟨l,p,r,hK⟩:=hq;have m:∀b,(b=wp\/T b=.q)->T b=.wld\/T b=.q:=λb e=>by
  rcases e with rfl|e
  ·exact .inl h.tw
  ·exact .inr e
 have d:∀(P:Tg->Prop),¬P .wld->¬P .q->∀b,P (T b)->¬(b=wp\/T b=.q):=λP s u b a e=>by
  rcases m b e with i|i<;>rw[i]at a
  ·exact s a
  ·exact u a
 have f:∀b,b<w.heap.size->ext T w.heap.size .q b=T b:=λb a=>br T _ a;have o:Blk w' wp 165 l:=by
  obtain⟨_,_,_,_,hq,_⟩:=p.line.ex;exact hq.B0
 refine⟨ext T w.heap.size .q,fQ T _ _,⟨l,sp,lb,h.P5 o (r.more zO zO) ((f _ h.B0.lt).trans h.tw) ?_ ?_ h.nl ?_ (p.more λk e=>?_) ?_⟩,hK.C3 λb e=>?_⟩
 ·exact h.G3.D1 hK (d (λt=>eE t\/t=.fz) (by rintro(e|e);exact e;cases e) (by rintro(e|e);exact e;cases e)) f
 ·exact h.E4.D1 hK (λb n e=>d (λt=>t=.lk n) (by intro e;cases e) (by intro e;cases e) b e) (λb a _=>f b a)
 ·exact h.ln.D1 o (λj p x=>r.2 j zO) hK (d (λt=>t=.ln\/t=.al) (by rintro(e|e)<;>cases e) (by rintro(e|e)<;>cases e)) (λb a _=>f b a)
 ·by_cases v:k<w.heap.size
  ·rcases e with e|e
   ·exact(f k v).trans e
   ·omega
  ·exact cC T _ zO
 ·exact h.ev.D1 (r.2 15 zO) hK (d (λt=>t=.ev) (by intro e;cases e) (by intro e;cases e)) (λb a _=>f b a)
 ·show eN (T b)
  rcases m b e with i|i<;>rw[i]<;>trivial
end
def Dy(w:World)(c:Cg)(hc:c.ok)(T:Nat->Tg)(wp:Nat)(g:Gs)(h:GAt w c T wp g)(t:Int)(ht:aq t)(hh:bS g.ln t=2)(hf:g.ln.line.length<=900)(hz:g.B3.length<=900):
  C 351 #[Z wp 0,I t] w λe w'=>(∃er:Int,e=.returned (I er))/\bj w w' c T wp (g.sleep t):=by
 have f:=Z1 (gB w c T wp g h);obtain⟨i,H,L,h⟩:=h;have k:Hid (C 357 #[Z wp 6,I t] w λe w'=>(∃v,e=.returned (.tuple #[v,I 0]))/\bj w w' c T wp (g.sleep t)):=Z1 (by
  unfold Gs.sleep;rw[OB hh];obtain⟨m,n,l,b⟩:=h.ln;have a:=b.rel;refine(Gj wp 6 0 _ i m n l g.B3 t w b.L6 kE a.ok (by rw[a.line];exact hf) hz (OK _) ht (by rw[a.held];exact hh)).mono ?_;rintro e p ⟨⟨v,rfl⟩,D,F,G,r,s,u,x,y⟩;obtain⟨z,A⟩:=h.line b .al (.inr rfl) r s (u.C3 λj e=>by rcases e with e|e;exact .inl e;exact .inr (.inr e)) (.inl x) (y.imp id λq=>⟨rfl,q⟩) (a.drop t).1;exact⟨⟨_,rfl⟩,_,fQ T _ _,⟨_,_,_,z⟩,A⟩)
 clear h hh;generalize g.sleep t=N at*
 go_in
 go_wp2_with fail;refine zY f.o ?_;go_wp2_with fail;refine k.o.mono ?_;rintro e p ⟨⟨v,rfl⟩,d⟩;have B:=Z1 d;clear d;go_wp2;go_ret;exact⟨⟨_,rfl⟩,B.o⟩
def vE(w:World)(c:Cg)(hc:c.ok)(T:Nat->Tg)(wp:Nat)(g:Gs)(h:GAt w c T wp g)(hs:∀t∈g.B3,aq t)(hf:g.ln.line.length<=900)(hz:g.B3.length<=900):
  C 279 #[Z wp 6] w λe w'=>(∃(a:Int) (b:Bool),e=.returned (.tuple #[I a,.bool b]))/\bj w w' c T wp g.F0:=by
 obtain⟨i,o,p,h⟩:=h;obtain⟨m,n,l,f⟩:=h.ln;have k:=f.rel;unfold Gs.F0
 cases hz2:g.B3 with
 |nil=>
  have d:=f.L6;rw[hz2]at d;refine zY (Gk wp 6 0 _ i m n l w d) ?_;exact⟨⟨_,_,rfl⟩,T,aW.refl _ _,⟨i,o,p,h⟩,ag.refl _ _⟩
 |cons t r=>
  have d:=f.L6;rw[hz2]at d;refine(xV wp 6 0 _ i m n l t r w d kE k.ok (by rw[k.line];exact hf) (by rw[hz2]at hz;simp at hz;omega) (OK _) (hs t (by rw[hz2];simp))).mono ?_;rintro e G ⟨rfl,B,D,F,s,u,v,x,y⟩;obtain⟨z,A⟩:=h.line f .ln (.inl rfl) s u (v.C3 λj e=>by rcases e with e|e;exact .inl e;exact .inr (.inl e)) (y.imp id λq=>⟨rfl,q⟩) (.inl x) (k.ask t true).1;exact⟨⟨_,_,rfl⟩,_,fQ T _ _,⟨_,_,_,z⟩,A⟩
def Kf(w:World)(c:Cg)(hc:c.ok)(T:Nat->Tg)(wp:Nat)(g:Gs)(h:GAt w c T wp g)(hf:g.E5)(k:K2)(hk:k.ok):
  C 268 #[Z wp 0,k.val] w λe w'=>(∃b:Bool,e=.returned (.bool b))/\bj w w' c T wp (g.add k):=by
 have f:=zh w (.cells #[E k.hi,E k.lo] 58);have l:=Blk.A8 w 58 #[E k.hi,E k.lo] rfl;have A:=h.free.up f;have HQ:=Z1 (λU a=>gP U c (ext T w.heap.size .free) wp g (h.free.up a));have P:Hid (∀U,GAt U c (ext T w.heap.size .free) wp g->C 278 #[Z wp 10,k.val] U λe w'=>e=.returned (.bool (g.q.add k).2)/\bj U w' c (ext T w.heap.size .free) wp {g with q:=(g.q.add k).1}):=Z1 (λU a=>by
  obtain⟨Q,sp,lb,a⟩:=a;refine zm (Kd wp 10 _ Q _ g.q k U a.wq ⟨hf.q.1,hf.q.2.1,hf.q.2.2⟩ hk) λw1 R=>?_;exact⟨rfl,a.queue R⟩)
 have X:=Z1 (λU T' (a:GAt U c T' wp {g with q:=(g.q.add k).1})=>vE U c hc T' wp _ a hf.tasks (OJ hf.line zP) (OJ hf.B3 zP));have m:Hid (g.add k=if(g.q.add k).2=true then{g with q:=(g.q.add k).1}.F0 else{g with q:=(g.q.add k).1}):=Z1 rfl;have H:=Z3 A f l;generalize hr:(g.q.add k).2=r at*;obtain⟨B,y⟩:=k;simp only[K2.val,K2.arr]at*;have af:=l.lt;obtain⟨d0,d1⟩:=ao l;clear h A f l hr
 go_in
 go_upto_region 1 with fail
 generalize hV:w.alloc (.cells #[E B,E y] 58)=V at*;generalize s:w.heap.size=D at*;have z:=Z1 s;clear hV s;have n:=And.intro H.o.2.2.drew trivial;have i:=(zi V);refine zH (S:=λU=>Blk U D 58 #[E B,E y]/\True) n ?_;refine zq 2 _ ?_ (hy:=λW hW=>by have q0:=hW.1.cell 0;have q1:W.cell? (Y D 1)=some (E y):=hW.1.cell 1;exact zf);refine zo 1 λK hK=>?_;go_simp;refine zY (gP _ c _ wp g (H.o.1.up i)) ?_;refine zJ hK n ?_;refine zo 3 λK hK=>?_;go_simp;refine zm (P.o _ (H.o.1.up i)) λw2 j=>?_;have t:=And.intro (j.B0 n.1 (OA _)) trivial;refine zJ hK t ?_;have u:M w V.drew:=by
  have F:=H.o.2.1;try rw[<-z.o]at F
  exact F.drew
 have p:=Z2 j u;clear j n t d0 d1 i u
 cases r with
 |false=>
  have d:=Z1 m.o;rw[Oz zS]at d;clear m;go_wp2;go_ret;rw[d.o];exact⟨⟨_,rfl⟩,bj.box z.o.symm p.o.2 p.o.1⟩
 |true=>
  have d:=Z1 m.o;rw[OB rfl]at d;clear m;go_wp2_with fail;obtain⟨T2,G,L,N⟩:=p.o.1;refine(X.o _ T2 L).mono ?_;rintro e3 w3 ⟨⟨x,b,rfl⟩,v⟩;have O:=Z1 (bj.trans G N v);clear G L N v;go_wp2;go_ret;rw[d.o];exact⟨⟨_,rfl⟩,bj.box z.o.symm p.o.2 O.o⟩
def Gm(hc:c.ok)(T:Nat->Tg)(wp:Nat)(g:Gs)(h:GAt w c T wp g)(hf:g.E5)(k:K2)(hk:k.ok)(hbz:k∈g.q.busy):
  C 354 #[Z wp 0,k.val] w λe w'=>(∃b:Bool,e=.returned (.bool b))/\bj w w' c T wp (g.F6 k):=by
 have f:=zh w (.cells #[E k.hi,E k.lo] 58);have v:=Blk.A8 w 58 #[E k.hi,E k.lo] rfl;have A:=h.free.up f;have P:Hid (∀U,GAt U c (ext T w.heap.size .free) wp g->C 359 #[Z wp 10,k.val] U λe w'=>e=.returned (.tuple #[.bool (g.q.done k).2,I 0])/\bj U w' c (ext T w.heap.size .free) wp {g with q:=(g.q.done k).1}):=Z1 (λU d=>by
  obtain⟨Q,sp,lb,d⟩:=d;refine zm (Dw wp 10 _ Q _ g.q k U d.wq ⟨hf.q.1,hf.q.2.1,hf.q.2.2⟩ hk hbz) λw1 R=>?_;exact⟨rfl,d.queue R⟩)
 have X:=Z1 (λU T' (d:GAt U c T' wp {g with q:=(g.q.done k).1})=>vE U c hc T' wp _ d hf.tasks (OJ hf.line zP) (OJ hf.B3 zP));have l:Hid (g.F6 k=if(g.q.done k).2=true then{g with q:=(g.q.done k).1}.F0 else{g with q:=(g.q.done k).1}):=Z1 rfl;have H:=Z3 A f v;generalize hr:(g.q.done k).2=r at*;obtain⟨B,y⟩:=k;simp only[K2.val,K2.arr]at*;have ad:=v.lt;clear h A f v hr hbz
 go_in
 go_upto_region 1 with fail
 generalize hV:w.alloc (.cells #[E B,E y] 58)=V at*;generalize p:w.heap.size=D at*;have z:=Z1 p;clear hV p;have m:=And.intro H.o.2.2.drew trivial;have i:=(zi V);refine zH (S:=λU=>Blk U D 58 #[E B,E y]/\True) m ?_;refine zq 2 _ ?_ (hy:=λW hW=>by have q0:=hW.1.cell 0;have q1:W.cell? (Y D 1)=some (E y):=hW.1.cell 1;exact zf);refine zo 1 λK hK=>?_;go_simp;refine zY (gP _ c _ wp g (H.o.1.up i)) ?_;refine zJ hK m ?_;refine zo 3 λK hK=>?_;go_simp;refine zm (P.o _ (H.o.1.up i)) λw2 j=>?_;have s:=And.intro (j.B0 m.1 (OA _)) trivial;refine zJ hK s ?_;have t:M w V.drew:=by
  have F:=H.o.2.1;try rw[<-z.o]at F
  exact F.drew
 have n:=Z2 j t;clear j m s i t
 cases r with
 |false=>
  have a:=Z1 l.o;rw[Oz zS]at a;clear l;go_wp2;go_ret;rw[a.o];exact⟨⟨_,rfl⟩,bj.box z.o.symm n.o.2 n.o.1⟩
 |true=>
  have a:=Z1 l.o;rw[OB rfl]at a;clear l;go_wp2_with fail;obtain⟨T2,G,L,N⟩:=n.o.1;refine(X.o _ T2 L).mono ?_;rintro e3 w3 ⟨⟨x,b,rfl⟩,u⟩;have O:=Z1 (bj.trans G N u);clear G L N u;go_wp2;go_ret;rw[a.o];exact⟨⟨_,rfl⟩,bj.box z.o.symm n.o.2 O.o⟩
def GIn.note{w w1:World}{c:Cg}{wp sp lb:Nat}{g:Gs}{cs:Array Value}(h:GIn w c T wp g cs sp lb)(x:Vt){v v':Value}(hv:cs[15]?=some v)(hrow:w.ownsRow 0 79 34 v g.ev.length (vts g.ev))(htg:∀b,v.ownBlock=some b->T b=.ev)
  (hg:w.grownBy w1 v.ownBlock)(hr1:w1.ownsRow 0 79 34 v' (g.ev.length+1) (vts (g.ev++[x])))(hs:v'.ownBlock=v.ownBlock\/∀k,v'.ownBlock=some k->w.heap.size<=k):bj w (w1.setCell (Y wp 15) v') c T wp (g.note x):=by
 have y:=dl (ag.refl (λj=>j=wp\/v.ownBlock=some j) w) hg (λ_ h=>h) λ_ e=>.inr e;have hK:ag (λj=>j=wp\/v.ownBlock=some j) w (w1.setCell (Y wp 15) v'):=y.setCell (p:=Y wp 15) (.inl (.inl rfl)) _;have z:=aB hrow h.B0 zP;have r:=h.B0.grown hg λe=>z e.symm;have l:=r.B4 15 v';have s:∀b,(b=wp\/v.ownBlock=some b)->T b=.wld\/T b=.ev:=λb e=>by
  rcases e with rfl|e
  ·exact .inl h.tw
  ·exact .inr (htg b e)
 have d:∀(P:Tg->Prop),¬P .wld->¬P .ev->∀b,P (T b)->¬(b=wp\/v.ownBlock=some b):=λP A B b a e=>by
  rcases s b e with m|m<;>rw[m]at a
  ·exact A a
  ·exact B a
 have f:∀b,b<w.heap.size->ext T w.heap.size .ev b=T b:=λb a=>br T _ a;have u:=(bF.refl 6 10 cs).B4 (i:=15) zO zO v';have o:∀j,j≠15->(cs.setIfInBounds 15 v')[j]?=cs[j]?:=λj D=>bf (Pc D) v';refine⟨ext T w.heap.size .ev,fQ T _ _,⟨_,sp,lb,h.P5 l u ((f _ h.B0.lt).trans h.tw) ?_ ?_ h.nl ?_ ?_ ⟨v',cP hv v',?_,λb e=>?_⟩⟩,hK.C3 λb e=>?_⟩
 ·exact h.G3.D1 hK (d (λt=>eE t\/t=.fz) (by rintro(e|e);exact e;cases e) (by rintro(e|e);exact e;cases e)) f
 ·exact h.E4.D1 hK (λb n e=>d (λt=>t=.lk n) (by intro e;cases e) (by intro e;cases e) b e) (λb a _=>f b a)
 ·exact h.ln.D1 l (λj F G=>o j zO) hK (d (λt=>t=.ln\/t=.al) (by rintro(e|e)<;>cases e) (by rintro(e|e)<;>cases e)) (λb a _=>f b a)
 ·exact h.wq.D1 l (λj F G=>o j zO) hK (d (λt=>t=.q) (by intro e;cases e) (by intro e;cases e)) (λb a _=>f b a)
 ·show World.ownsRow _ 0 _ 34 v' (g.ev++[x]).length (vts (g.ev++[x]));rw[OS];exact bA hr1 (p:=Y wp 15) (aB hr1 r zP) v'
 ·rcases hs with hs|hs
  ·rw[hs]at e;rw[f _ (hrow.lt b e).2];exact htg b e
  ·exact cC T _ (hs b e)
 ·show eN (T b)
  rcases s b e with m|m<;>rw[m]<;>trivial
def lB(T:Nat->Tg)(wp:Nat)(g:Gs)(h:GAt w c T wp g)(x:Vt)(hx:x.ok)(hn:g.ev.length<=70000):
  C 276 #[Z wp 0,.agg x.arr] w λe w'=>e=.returned (.tuple #[])/\bj w w' c T wp (g.note x):=by
 have t:=zh w (.cells x.arr 79);have y:=Blk.A8 w 79 x.arr rfl;have h0:=h.free.up t;have HM:=Z1 (gB _ c _ wp g h0);have B:=(oG hx).all;have i:=(oG hx).one;have X:x.arr.size=34:=rfl;have D:=JF g.ev x;have F:x.arr.toList=x.cells:=rfl;rw[<-F]at D;have l:=B;have m:∀u∈x.arr.toList,u.oneCell'=true:=i;have G:=bQ y;generalize ap:x.arr=b at*;have H:=Z7 h0 t y X D l m;clear h h0 t y X D B i l m ap F G hx
 go_in
 go_wp2_with fail;refine zY HM.o ?_;clear HM;go_upto_region 2 with fail
 generalize hV:w.alloc (.cells b 79)=V at*;generalize aa:w.heap.size=r at*;have HV:=Z1 aa;clear hV aa;have ab:M V V.drew:=(zi V);obtain⟨cs,sp,lb,p⟩:=H.o.1.up ab;obtain⟨v,hv,a,q⟩:=p.ev;obtain⟨A,k,rfl,ac,au⟩:=ak a;have L:=p.B0;have ad:Blk V.drew r 79 b:=H.o.2.2.1.drew;obtain⟨n,N⟩:∃n,n=g.ev.length:=⟨_,rfl⟩;rw[<-N]at hv a q ac hn;have f:=Z5 p a q hv N;have av:=aB a L zP;have aw:(Value.slice A n k).ownBlock≠some r:=λe=>by
  have h1:=q r e;rw[cC T _ (OA _)]at h1
  cases h1
 obtain⟨z,hE⟩:=Lj;obtain⟨i0,af,ag,ah,ai⟩:=info_parts hE.info;have s:=Z5 hE af ag ah ai;have O:Blk V.drew wp 165 cs/\Blk V.drew r 79 b:=⟨L,ad⟩;clear p a q ac au L ad af ag ah ai hE N ab;refine bW 10 (S:=λU=>Blk U wp 165 cs/\Blk U r 79 b) zR zR O ?_;simp only[OM,OO,ON,OQ];try simp only[zD,zE,Nat.reduceAdd,zG]
 refine zL ?_;refine zq 4 _ ?_ (hy:=λW hW=>by have q0:=(hW.1.cell 15).trans hv;exact zf);refine zq 5 _ ?_ (hy:=λW hW=>by refine bE ba (.tmp 3) ?_ (Y r 0) ?_ b H.o.2.2.2.1 ?_;exact rfl;exact rfl;exact bQ hW.2);refine zo 6 λK hK=>?_;refine ul ba zP zP 35 (.tmp 11) rfl underlying35 b zF H.o.2.2.2.1 ?_;refine hK _ _ ⟨O.1.alloc _,O.2.alloc _⟩ ?_;clear hK;refine zn ?_;refine zo 7 λK hK=>?_;refine dC _ (.tmp 10) (.tmp 12) 35 rfl 0 79 i0 z 34 280 s.o.1.under s.o.2.1 s.o.2.2.1 s.o.2.2.2.1 s.o.2.2.2.2 s.o.1.cells zP (.slice A n k) n (vts g.ev) zF (f.o.2.1.alloc _) _ _ 1 1 _ zF (dD V.drew 79 b 34 1 V.drew.heap.size (V.drew.heap.size+1) (by rw[H.o.2.2.2.1]) rfl rfl) H.o.2.2.2.2.2.2 zU zO (OK _) ?_;intro v7 w7 P Q d;obtain⟨A7,k7,rfl,_,_⟩:=ak P;have R:=And.intro ((O.1.alloc _).grown Q λe=>av e.symm) ((O.2.alloc _).grown Q λe=>aw e.symm);refine zJ hK R ?_;rw[bI];have a0:=(R.1.cell 15).trans f.o.2.2.2.1;have a1:=R.1.frozen 15;go_wp2;clear a0 a1;have aj:=f.o.2.2.2.2;have a2:=(World.grownBy_alloc V.drew (.cells b 79) _).trans Q;rw[H.o.2.2.2.2.1]at P;have a3:(Value.slice A7 (n+1) k7).ownBlock=(Value.slice A n k).ownBlock\/∀j,(Value.slice A7 (n+1) k7).ownBlock=some j->V.drew.heap.size<=j:=by
  rcases d with d|d
  ·exact .inl d
  ·refine .inr λj e=>?_;rw[d]at e;injection e with e;rw[<-e];exact(ae (Oy _ V.drew) (.cells b 79)).size
 have a4:=GIn.note f.o.1 x f.o.2.2.2.1 (by rw[<-aj];exact f.o.2.1) f.o.2.2.1 a2 (by rw[<-aj];exact P) a3;refine zt ?_;exact⟨rfl,bj.box HV.o.symm (by show Below _ _ _;rw[HV.o];exact H.o.2.1) (bj.after ((Oy _ V).drew) a4)⟩
def Gs.shut(g:Gs):Gs:=if gL g.mp=0 then{g with mp:=gM g.mp,q:={g.q with over:=true}}.E2 else{g with mp:=gM g.mp}
def Oe{x:Cl}(hk:x.k=8):aH x=0:=by
 unfold aH;simp[hk]
section
variable {w w' w'':World} {c:Cg} {T T':Nat→Tg} {wp sp lb:Nat} {g g':Gs} {cs cs':Array Value}
def GIn.P6(h:GIn w c T wp g cs sp lb)(a1:aW T T' w.heap.size)(a2:eH w' c T' sp m')(a3:ag (λb=>eE (T b)) w w'):GAt w' c T' wp {g with mp:=m'}/\ag (λb=>eN (T b)) w w':=by
 have keepT:∀b,b<w.heap.size->(∀k,T b≠.nd k)->T' b=T b:=λb a i=>a1.keepT a i;have d:=a3.B0 h.B0 (λe=>by rw[h.tw]at e;exact e);refine⟨⟨cs,sp,lb,h.P5 d (bF.refl 6 10 cs) ((keepT _ h.B0.lt (by rw[h.tw];intro k e;cases e)).trans h.tw) a2 ?_ h.nl ?_ ?_ ?_⟩,a3.C3 λb e=>?_⟩
 ·exact h.E4.D1 a3 (λb n e f=>by rw[e]at f;exact f) λb a ⟨n,e⟩=>keepT b a (by rw[e];intro k f;cases f)
 ·exact h.ln.D1 d (λ_ _ _=>rfl) a3 (λb e f=>by rcases e with e|e<;>rw[e]at f<;>exact f) λb a e=>keepT b a (by rcases e with e|e<;>rw[e]<;>intro k f<;>cases f)
 ·exact h.wq.D1 d (λ_ _ _=>rfl) a3 (λb e f=>by rw[e]at f;exact f) λb a e=>keepT b a (by rw[e];intro k f;cases f)
 ·exact h.ev.D1 rfl a3 (λb e f=>by rw[e]at f;exact f) λb a e=>keepT b a (by rw[e];intro k f;cases f)
 ·show eN (T b)
  cases a:T b<;>rw[a]at e<;>first|trivial|exact e.elim
def GIn.Q5(h:GIn w c T wp g cs sp lb)(hs:dJ w w' c T sp m'):bj w w' c T wp {g with mp:=m'}:=by
 obtain⟨b,a,d,e⟩:=hs;obtain⟨f,i⟩:=h.P6 a d e;exact⟨b,a,f,i⟩
def GAt.only(h:GAt w c T wp g)(ht:T k=.free)(hO:aI k w w'):GAt w' c T wp g:=by
 obtain⟨d,i,j,h⟩:=h;have hK:=hO.B7;have a:=hK.B0 h.B0 (λe=>by have:=h.tw;rw[e,ht]at this;cases this);exact⟨d,i,j,h.P5 a (bF.refl _ _ _) h.tw (h.G3.D1 hK (λb e f=>by rw[f,ht]at e;rcases e with e|e;exact e;cases e) λ_ _=>rfl) (h.E4.D1 hK (λb n e f=>by rw[f,ht]at e;cases e) λ_ _ _=>rfl) h.nl (h.ln.D1 a (λ_ _ _=>rfl) hK (λb e f=>by rw[f,ht]at e;rcases e with e|e<;>cases e) λ_ _ _=>rfl) (h.wq.D1 a (λ_ _ _=>rfl) hK (λb e f=>by rw[f,ht]at e;cases e) λ_ _ _=>rfl) (h.ev.D1 rfl hK (λb e f=>by rw[f,ht]at e;cases e) λ_ _ _=>rfl)⟩
def bj.D4{W w2:World}(h:bj W w2 c (ext T w.heap.size .free) wp g')(hb:M w W)(hO:aI k w2 w')(hg:w.heap.size<=k)(hgW:k<W.heap.size):bj w w' c T wp g':=by
 obtain⟨d,f,g,i⟩:=h;have j:d k=.free:=by
  rcases f k hgW with e|⟨k,e,_⟩
  ·rw[e,cC T _ hg]
  ·rw[cC T _ hg]at e;cases e
 have m:=hb.size;refine⟨d,λb a=>?_,g.only j hO,?_⟩
 ·have:=f b zO
  rwa [br T _ a]at this
 ·refine bL (bL (ag.B5 hb) i λb a e=>by
   have l:=e
   rwa [br T _ a]at l) hO.B7 λb a e=>?_
  omega
def AI(zs:List Int)(h:dX l r):dX (kM l zs) (zs.foldl (λl t=>(ip l t true).1) r):=by
 induction zs generalizing l r with
 |nil=>exact h
 |cons t zs ih=>exact ih (h.ask t true).1
end
def yg(w:World)(c:Cg)(hc:c.ok)(T:Nat->Tg)(wp:Nat)(g:Gs)(h:GAt w c T wp g)(hs:∀t∈g.B3,aq t)(hf:g.ln.line.length<=100)(hz:g.B3.length<=100):
  C 284 #[Z wp 6] w λe w'=>(∃v,e=.returned v)/\bj w w' c T wp g.E2:=by
 obtain⟨d,z,A,h⟩:=h;obtain⟨f,i,l,a⟩:=h.ln;have b:=a.rel;refine(AH wp 6 0 _ d f i l g.B3 w a.L6 kE b.ok (by rw[b.line];exact hf) hz (OK _) (wu hs)).mono ?_;rintro e B ⟨⟨v,rfl⟩,u,x,y,k,m,n,o,p⟩;obtain⟨r,s⟩:=h.line a .ln (.inl rfl) k m (n.C3 λj e=>by rcases e with e|e;exact .inl e;exact .inr (.inl e)) (p.imp id λq=>⟨rfl,q⟩) (.inl o) (AI g.B3 b);exact⟨⟨_,rfl⟩,_,fQ T _ _,⟨_,_,_,r⟩,s⟩
def Gn(w:World)(c:Cg)(hc:c.ok)(T:Nat->Tg)(wp:Nat)(g:Gs)(h:GAt w c T wp g)(hf:g.E5)(hln:g.ln.line.length<=100):
  C 274 #[Z wp 0] w λe w'=>e=.returned (I (gL g.mp))/\bj w w' c T wp g.shut:=by
 obtain⟨u,j,x,h⟩:=h;have m:=Z1 (oR w c T wp g u j x h);have n:=Z1 (qO w c hc T j g.mp h.G3);have y:Hid (∀W,dJ w W c T j (gM g.mp)->bj w W c T wp {g with mp:=gM g.mp}):=Z1 λW hW=>h.Q5 hW;have k:Hid (g.shut=if gL g.mp=0 then{g with mp:=gM g.mp,q:={g.q with over:=true}}.E2 else{g with mp:=gM g.mp}):=Z1 rfl;have F:Hid (∀U a,GAt U c a wp {g with mp:=gM g.mp}->C 283 #[Z wp 10] U λe w'=>(∃v,e=.returned v)/\bj U w' c a wp {g with mp:=gM g.mp,q:={g.q with over:=true}}):=Z1 (λU a b=>by
  obtain⟨u,j,x,b⟩:=b;refine(EL wp 10 _ u _ g.q U b.wq).mono ?_;rintro e G ⟨H,L⟩;exact⟨H,b.queue L⟩)
 have N:=Z1 (λU a (b:GAt U c a wp {g with mp:=gM g.mp,q:={g.q with over:=true}})=>yg U c hc a wp _ b hf.tasks hln (OJ hf.B3 zP));generalize z:gL g.mp=A at*;clear h hf hln z
 go_in
 go_wp2_with fail;refine zY m.o ?_;go_wp2_with fail;refine zm n.o λG p=>?_;have r:=Z1 (y.o _ p);clear p y n m;by_cases l:A=0
 ·subst l;rw[OB rfl]at k;go_wp2_with fail;obtain⟨O,d,f,i⟩:=r.o;refine(F.o _ _ f).mono ?_;rintro e Q ⟨⟨R,rfl⟩,s⟩;have B:=Z1 (bj.trans d i s);clear d f i s;go_wp2_with fail;obtain⟨O,d,f,i⟩:=B.o;refine(N.o _ _ f).mono ?_;rintro e S ⟨⟨X,rfl⟩,t⟩;have D:=Z1 (bj.trans d i t);clear d f i t;go_wp2;go_ret;rw[k.o];exact⟨rfl,D.o⟩
 ·rw[Oz l]at k;have P:(A==0)=false:=by simpa using l
  clear l;go_wp2;go_ret;rw[k.o];exact⟨rfl,r.o⟩
def AJ(w:World)(c:Cg)(T:Nat->Tg)(wp:Nat)(g:Gs)(h:GAt w c T wp g)(hn:g.ev.length<=90000)(hok:∀x∈g.ev,x.ok):
  C 29 #[Z wp 0] w λe w'=>∃v,e=.returned v/\aL 34 w w' 79 v g.ev.length (vts g.ev):=by
 have l:=Z1 (gB w c T wp g h);obtain⟨t,y,z,h⟩:=h;obtain⟨v,d,a,f⟩:=h.ev;have q:=(h.B0.cell 15).trans d;obtain⟨A,k,rfl,r,s⟩:=ak a;have m:=Z1 (yY (vts g.ev) A k g.ev.length w (an.C4 a) (λu b=>by
  obtain⟨x,p,b⟩:=QU.1 b;exact(oG (hok x p)).one u b) zO)
 generalize g.ev.length=n at*;clear hok h d a f
 go_in
 go_wp2_with fail;refine zY l.o ?_;go_wp2_with fail;refine zX m.o λv B i=>?_;have j:=Z1 i;clear i;go_wp2;go_ret;exact⟨_,rfl,j.o⟩
def Kg(x:ByteArray)(hs:x.size<=maxLen):∃kk:K2,kk.ok/\(bd x=true->kk=av x)/\∀w,C 269 #[.string x] w (J kk.val w):=by
 obtain⟨kk,m,c,d,f⟩:=rJ x hs;refine⟨kk,c,d,λw=>?_⟩;have l:=Z1 (λW=>f W);obtain⟨g,h⟩:=kk;clear c d f
 go_in
 go_wp2_with fail;refine zm (l.o _) λn i=>?_;have j:=Blk.A8 w 58 #[E 0,E 0] rfl;have b:=zh w (.cells #[E 0,E 0] 58);have a:=(j.later i).alloc (.cells #[E g,E h] 58);obtain⟨p,q⟩:=ao a;have r:=a.frozen 0;have s:=a.frozen 1;go_wp2;have k:=(a.B4 0 (E g)).B4 1 (E h);refine OH (au lj rfl k rfl _ rfl) rfl ⟨rfl,?_⟩;exact((aI.B4 _ _ _ _).trans (aI.B4 _ _ _ _)).below (ae (af b i) _) (OA _)
def gV:cU prog 73 11:=⟨zR,zR,zR⟩
def ME(w:World)(c:Cg)(hc:c.ok)(T:Nat->Tg)(wp:Nat)(g:Gs)(h:GAt w c T wp g)(hf:g.E5)(x:Cl)(hx:x.ok):
  C 264 #[Z wp 0,x.val] w λe w'=>e=.returned (g.E6 c x).2.val/\bj w w' c T wp (g.E6 c x).1:=by
 have ac:=zh w (.cells x.arr 73);have t:=ae ac (.cells Rp.zero.arr 77);have u:=(Blk.A8 w 73 x.arr rfl).alloc (.cells Rp.zero.arr 77);have ad:=Blk.A8 (w.alloc (.cells x.arr 73)) 77 Rp.zero.arr (g:=w.heap.size+1) zS;have h0:=h.free.up t;have HM:=Z1 (λV (j:Below (w.alloc (.cells x.arr 73) |>.alloc (.cells Rp.zero.arr 77)).heap.size ((w.alloc (.cells x.arr 73)).alloc (.cells Rp.zero.arr 77)) V)=>gB V c _ wp g (h0.up j));have af:=Z1 (λV (j:Below (w.alloc (.cells x.arr 73) |>.alloc (.cells Rp.zero.arr 77)).heap.size ((w.alloc (.cells x.arr 73)).alloc (.cells Rp.zero.arr 77)) V)=>Gn V c hc _ wp g (h0.up j) hf (OJ hf.line zP));obtain⟨cs,sp,lb,n⟩:=h0;have ag:=Z1 (λV (j:Below (w.alloc (.cells x.arr 73) |>.alloc (.cells Rp.zero.arr 77)).heap.size ((w.alloc (.cells x.arr 73)).alloc (.cells Rp.zero.arr 77)) V)=>oR V c _ wp g cs sp lb (n.up j));have ah:=Z1 (λV (j:Below (w.alloc (.cells x.arr 73) |>.alloc (.cells Rp.zero.arr 77)).heap.size ((w.alloc (.cells x.arr 73)).alloc (.cells Rp.zero.arr 77)) V)=>show C 275 #[Z sp 0,x.val] V (λe w'=>e=.returned (doM c g.mp x).2.val/\bj V w' c (ext T w.heap.size .free) wp {g with mp:=(doM c g.mp x).1})from by
  refine zm (Gg V c hc _ sp g.mp (n.up j).G3 (OJ hf.B9 zP) x hx) λw1 hs=>?_;exact⟨rfl,(n.up j).Q5 hs⟩)
 have v:Hid (x.k=8->(doM c g.mp x).2=.of (gL g.mp)/\(g.E6 c x).1=g.shut):=Z1 (λi=>by
  have h8:=CV (c:=c) (m:=g.mp) (Oe i) i;unfold Gs.E6 Gs.shut;rw[h8];refine⟨rfl,?_⟩;simp only[Rp.of,i,true_and])
 have HX:Hid (x.k≠8->(g.E6 c x).1={g with mp:=(doM c g.mp x).1}):=Z1 (λi=>by
  unfold Gs.E6;exact Oz λe=>i e.1)
 have HR:Hid ((g.E6 c x).2=(doM c g.mp x).2):=Z1 rfl;have l:=Z3 t u ad;generalize (g.E6 c x).1=g8 at*;generalize (g.E6 c x).2=r8 at*;obtain⟨r,O,P,Q,R,a,b,X,d,e0,f⟩:=x;unfold Cl.val at*;simp only[Cl.arr,Rp.zero,Rp.arr,St.zero,St.arr,az]at*;have c0:=(bh u).1.1;clear n ac t u ad hf h hx
 go_in
 by_cases i:r=8
 ·subst i;have hz:((8:Int)==8)=true:=rfl;have y:=Z1 (v.o rfl);clear v HX ag ah;go_wp2_with fail;refine(HM.o _ ?_).mono ?_
  ·exact Oy _ _
  rintro e w1 ⟨rfl,rfl⟩;go_wp2_with fail;refine(af.o _ ?_).mono ?_
  ·exact Oy _ _
  rintro e w1 ⟨rfl,hg⟩;have z:=Z2 hg (hg.B0 l.o.2.2 (OW _));clear hg;generalize gL g.mp=se at*
  go_wp2_with (refine zj aA z.o.2 ?_;intro w6 A B)
  refine OH (au aA rfl A rfl _ rfl) rfl ⟨?_,?_⟩
  ·rw[HR.o,y.o.1];rfl
  ·rw[y.o.2];exact z.o.1.D4 l.o.1 B (OW _) l.o.2.2.lt
 ·have hz:(r==8)=false:=by simpa using i
  have av:=Z1 (HX.o i);clear v HX HM af;go_upto_region 3 with fail
  generalize aw:(w.alloc (.cells #[I r,.string O,I P,I Q,I R,I a,I b,I X,I d,I e0,I f] 73)).alloc (.cells #[I 0,I 0,I 0,I 0,I 0,I 0,I 0,I 0,I 0,I 0,I 0,I 0,I 0] 77)=W0 at*;have D:(#[I r,.string O,I P,I Q,I R,I a,I b,I X,I d,I e0,I f]:Array Value).size=11:=rfl;generalize p:w.heap.size=v9 at*;have HV:=Z1 p;generalize ay:(#[I r,.string O,I P,I Q,I R,I a,I b,I X,I d,I e0,I f]:Array Value)=xa at*;have F:(#[I 0,I 0,I 0,I 0,I 0,I 0,I 0,I 0,I 0,I 0,I 0,I 0,I 0]:Array Value).size=13:=rfl;generalize a1:(#[I 0,I 0,I 0,I 0,I 0,I 0,I 0,I 0,I 0,I 0,I 0,I 0,I 0]:Array Value)=ya at*;have a2:=Z1 D;have a3:=Z1 F;clear aw p ay a1 c0 D F;have G:=(zi W0);have H:=And.intro l.o.2.1.drew l.o.2.2.drew;refine bW 4 (S:=λU=>Blk U v9 73 xa/\Blk U (v9+1) 77 ya) zR zR H ?_;simp only[OM,OO,ON,OQ];try simp only[zD,zE,Nat.reduceAdd,zG]
  refine zL ?_;refine zq 2 _ ?_ (hy:=λW hW=>by refine bE gV (.tmp 3) ?_ (Y v9 0) ?_ xa a2.o ?_;exact rfl;exact rfl;exact bQ hW.1);refine zo 1 λK hK=>?_;go_simp;refine zY (ag.o _ G) ?_;refine zJ hK H ?_;refine zo 3 λK hK=>?_;go_simp;refine zm (ah.o _ G) λw2 q=>?_;have L:=And.intro (q.B0 H.1 (OA _)) (q.B0 H.2 (OW _));refine zJ hK L ?_;rw[bI];have z:=Z2 q L.2;clear q L H G;generalize (doM c g.mp ⟨r,O,P,Q,R,a,b,X,d,e0,f⟩).2=s at*;have ap:=dy s;have aj:s.arr.size=13:=rfl;have N:s.val=.agg s.arr:=rfl;rw[N];have a4:=Z1 (show r8.val=.agg s.arr by rw[HR.o];rfl);clear N HR;generalize s.arr=ra at*
  go_wp2_with (refine ai aA rfl (.tmp 4) (.tmp 18) rfl (v9+1) zF _ zF z.o.2 aj a3.o ap ?_;intro w6 A B)
  refine OH (au aA rfl A aj _ rfl) rfl ⟨?_,?_⟩
  ·rw[a4.o]
  ·rw[av.o];have p:=HV.o;subst p;exact(bj.after ((zi W0)) z.o.1).D4 l.o.1 B (OW _) l.o.2.2.lt
def lkZ:Array Value:=#[.int .u32 0,.int .u32 0,.slice none 0 0]
def Dz(n:Nat)(hn:n<=1000)(w:World):(Instr.makeSlice 152 (I (n:Int)) (I (n:Int))).run prog w=.ok (V w.heap.size 0 n n) (w.alloc (.cells (madeCells lkZ (n*3)) 156)):=by
 obtain⟨i,c,d,a,b⟩:=info_parts (show(prog.info? 156).map (λi=>(i.zero,i.size,i.bytes))=some (some (.agg lkZ),3,32) by kernel_rfl);have h:=run_make (P:=prog) w 152 156 i (.agg lkZ) underlying152 c d .i64 .i64 n n zO zO (by rw[b];omega) zO;rw[a]at h;simp only[PH]at h;exact h
def made_at(n i j:Nat)(hi:i<n)(hj:j<3):(madeCells lkZ (n*3))[i*3+j]?=lkZ[j]?:=by
 have a:i*3+j<n*3:=zO;have b:(i*3+j)%3=j:=zO;simp only[madeCells,Array.getElem?_map];rw[Array.getElem?_range];simp only[a,if_true,PT];rw[show lkZ.size=3 from rfl,b]
 rcases j with _|_|_|j
 ·rfl
 ·rfl
 ·rfl
 ·omega
def yi(c:Cg)(sp lb:Nat):Array Value:=#[I c.st,I c.sa,I c.lo,I c.hi,Z sp 0,V lb 0 (c.st+1) (c.st+1),.int .u32 0,.int .u32 0,.slice none 0 0,.slice none 0 0,.slice none 0 0,.slice none 0 0,.map none,.map none,.bool false,.slice none 0 0]
def yj:dX ⟨0,0,[]⟩ .zero:=⟨om,om,rfl,λy e=>by cases e⟩
def MF{w w':World}{c:Cg}{sp lb wp:Nat}(h:eH w c T sp .new)(hb:M w w')(h1:w.heap.size<=lb)(h2:w.heap.size<=wp)(hl:Blk w' lb 156 (madeCells lkZ ((c.st+1)*3)))(hw:Blk w' wp 165 (yi c sp lb)):
  GAt w' c (λb=>if b<w.heap.size then T b else if b=lb then .lk (c.st+1)else .wld) wp (.new c):=by
 have g:wp≠lb:=λe=>by subst e;exact fq hw hl zP rfl
 have a:∀b,(Value.slice none 0 0).ownBlock=some b->False:=λb e=>by cases e
 refine⟨yi c sp lb,sp,lb,hw,rfl,rfl,rfl,rfl,rfl,rfl,rfl,?_,?_,?_,?_,?_,?_,?_⟩
 ·show(if wp<w.heap.size then _ else _)=_;rw[Oz zO,Oz g]
 ·exact h.D1 (ag.B5 hb) (λ_ _ e=>e) λb i=>OB i
 ·refine⟨madeCells lkZ ((c.st+1)*3),λ_=>.slice none 0 0,λ_=>⟨0,0,[]⟩,hl,?_,λn f=>?_,λn f=>?_,λn _ b e=>(a b e).elim⟩
  ·show(if lb<w.heap.size then _ else _)=Tg.lk (List.replicate (c.st+1) Rf.zero).length;rw[Oz zO,OB rfl,RQ]
  ·have d:n<c.st+1:=by rw[show(Gs.new c).E4=List.replicate (c.st+1) Rf.zero from rfl,RQ]at f;exact f
   exact⟨hl,aQ.F8 _ _ _ _,made_at _ n 0 d zO,made_at _ n 1 d zO,made_at _ n 2 d zO⟩
  ·show dX (⟨0,0,[]⟩:Lk) ((List.replicate (c.st+1) Rf.zero).getD n .zero);rw[OP,List.getElem?_replicate];split<;>exact yj
 ·exact RQ
 ·exact⟨.slice none 0 0,.slice none 0 0,⟨0,0,[]⟩,⟨⟨⟨hw,aQ.F8 _ _ _ _,rfl,rfl,rfl⟩,aQ.F8 _ _ _ _,rfl⟩,yj,λb e=>(a b e).elim,λb e=>(a b e).elim⟩⟩
 ·exact⟨⟨.slice none 0 0,.slice none 0 0,[],[],⟨hw,Pn _ _ _ _,Pn _ _ _ _,λk e=>(a k e).elim,rfl,rfl,zP⟩,rfl,λb e=>(a b e).elim,λb e=>(a b e).elim⟩,rfl,.inl ⟨rfl,rfl,rfl,rfl⟩,λk e=>by cases e⟩
 ·exact⟨.slice none 0 0,rfl,Pn _ _ _ _,λb e=>(a b e).elim⟩
def Kh(hc:c.ok)(T:Nat->Tg):
  C 48 #[c.val] w λe w'=>∃T' wp,e=.returned (.tuple #[Z wp 0,I 0])/\GAt w' c T' wp (.new c)/\(∀b,b<w.heap.size->T' b=T b)/\w.heap.size<=wp/\M w w':=by
 have q:=zh w (.cells c.cells.toArray 23);have r:=Blk.A8 w 23 c.cells.toArray rfl;have y:=λW=>gH c.st c.sa c.lo c.hi W;have G:pu c.st c.sa c.lo c.hi=0:=by exact OB hc
 rw[G]at y;have n:=Z3 y q r;have HN:=Z1 (λW=>Ds W c hc T);have HC:=Z1 hc;have HL:=Z1 (λW=>show C 97 #[.agg #[I c.st,I c.sa,I c.lo,I c.hi]] W (λe w'=>e=.returned (I ((c.st+1:Nat):Int))/\M W w')from ju c hc W);have HG:=Z1 (λT (w w':World) sp lb wp=>MF (w:=w) (w':=w') (c:=c) (T:=T) (sp:=sp) (lb:=lb) (wp:=wp));have H:=(Cg.small hc).2.1;have HM:Hid (∀W,(Instr.makeSlice 152 (I ((c.st:Int)+1)) (I ((c.st:Int)+1))).run prog W=.ok (V W.heap.size 0 (c.st+1) (c.st+1)) (W.alloc (.cells (madeCells lkZ ((c.st+1)*3)) 156))):=Z1 (λW=>Dz (c.st+1) zO W);obtain⟨a,i,j,k⟩:=c;clear y q r G hc;unfold Cg.val at*;simp only[Cg.cells]at n;simp only at H
 go_in
 go_wp2_with fail;refine zm (n.o.1 _) λw1 f=>?_;have g:=Z2 (af n.o.2.1 f) (n.o.2.2.later f);clear f;have z:=g.o.2.cell 0;have A:=g.o.2.cell 1;have B:=g.o.2.cell 2;have D:=g.o.2.cell 3;go_wp2_with fail;refine(HN.o _).mono ?_;rintro e p ⟨T2,sp,rfl,l,s,t,f⟩;have m:=Z4 l s t f;clear l s t z A B D;go_upto_region 5 with fail
 generalize h:w.heap.size=F at*;have HV:=Z1 h;clear h;have L:=And.intro ((g.o.2.later f).drew) trivial;have al:=(zi p);refine zH (S:=λU=>Blk U F 23 #[I a,I i,I j,I k]/\True) L ?_;refine zQ 0 _ ?_ (hy:=λW hW=>by have z:=hW.1.cell 0;have A:=hW.1.cell 1;have B:=hW.1.cell 2;have D:=hW.1.cell 3;exact zf);refine zQ 2 _ ?_ (hy:=λW hW=>by have z:=hW.1.cell 0;have A:=hW.1.cell 1;have B:=hW.1.cell 2;have D:=hW.1.cell 3;exact zf);refine zo 3 λK hK=>?_;go_simp;refine zm (HL.o _) λd u=>?_;have v:=And.intro (L.1.later u) trivial;refine zJ hK v ?_;refine zo 4 λK hK=>?_;go_simp;rw[HM.o _];simp only[Result.andThen_ok];have N:=Blk.A8 d 156 (madeCells lkZ ((a+1)*3)) rfl;have x:Blk (d.alloc (.cells (madeCells lkZ ((a+1)*3)) 156)) F 23 #[I a,I i,I j,I k]/\True:=⟨v.1.alloc _,trivial⟩;refine zJ hK x ?_;refine zo 6 λK hK=>?_;go_simp;have O:Blk ((d.alloc (.cells (madeCells lkZ ((a+1)*3)) 156)).alloc (.cells (yi ⟨a,i,j,k⟩ sp d.heap.size) 165)) F 23 #[I a,I i,I j,I k]/\True:=⟨x.1.alloc _,trivial⟩;refine zJ hK O ?_;go_wp2
 go_ret2
 have h:=HV.o;subst h;have P:=g.o.1;have Q:=m.o.2.2.2;have b3:=(zi p);have R:=af b3 u;have X:=ae (ae R (.cells (madeCells lkZ ((a+1)*3)) 156)) (.cells (yi ⟨a,i,j,k⟩ sp d.heap.size) 165);have z1:=P.size;have z2:=Q.size;have z4:=R.size;have aa:d.heap.size+1=(d.alloc (.cells (madeCells lkZ ((a+1)*3)) 156)).heap.size:=zS;refine⟨_,d.heap.size+1,rfl,HG.o T2 p _ sp d.heap.size (d.heap.size+1) m.o.1 X z4 zO (N.alloc _) ?_,λb hb=>?_,zO,?_⟩
 ·rw[aa];exact Blk.A8 _ 165 (yi ⟨a,i,j,k⟩ sp d.heap.size) rfl
 ·show(if b<p.heap.size then _ else _)=_;rw[OB zO];exact m.o.2.1 b zO
 ·exact af (af P Q) X
def bc(A:World->(Nat->Tg)->Prop)(w w':World)(c:Cg)(T:Nat->Tg)(wp:Nat)(g':Gs)(p:Nat):Prop:=∃T',aW T T' w.heap.size/\GAt w' c T' wp g'/\A w' T'/\ag (λb=>eN (T b)\/b=p) w w'
section
variable {A:World→(Nat→Tg)→Prop} {w w' w'' W:World} {c:Cg} {T T':Nat→Tg} {wp p:Nat} {g g':Gs}
def bc.trans(h1:aW T T' w.heap.size)(hK:ag (λb=>eN (T b)\/b=p) w w')(h2:bc A w' w'' c T' wp g' p):bc A w w'' c T wp g' p:=by
 obtain⟨d,f,g,h,i⟩:=h2;refine⟨d,h1.trans f hK.size,g,h,bL hK i λb j e=>?_⟩
 rcases e with e|e
 ·rcases h1 b j with a|⟨k,a,l⟩
  ·rw[a]at e;exact .inl e
  ·rw[l]at e;exact e.elim
 ·exact .inr e
def bc.after(hb:M w w')(h2:bc A w' w'' c T' wp g' p):bc A w w'' c T' wp g' p:=bc.trans (aW.refl _ _) (ag.B5 hb) h2
def bc.box(hn:n=w.heap.size)(hb:M w W)(h:bc A W w' c (ext T n .free) wp g' p):bc A w w' c T wp g' p:=by
 subst hn;obtain⟨f,g,i,j,k⟩:=h;refine⟨f,λb a=>?_,i,j,bL (ag.B5 hb) k λb a e=>?_⟩
 ·have l:=g b (OV a hb.size)
  rwa [br T _ a]at l
 ·rcases e with e|e
  ·have d:=e;rw[br T _ a]at d;exact .inl d
  ·exact .inr e
def bj.O1{t:TypeId}(h:bj w w' c T wp g')(hb:Blk w p t xs)(ht:T p=.free):Blk w' p t xs:=by
 obtain⟨_,_,_,a⟩:=h;exact a.B0 hb λe=>by rw[ht]at e;exact e
end
end Go.Fw
