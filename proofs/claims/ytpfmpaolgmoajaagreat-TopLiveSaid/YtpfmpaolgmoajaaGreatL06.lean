/- Lemmas of this claim. Conditions: as each says. -/
import Derived.Shelf.GgSortFunc.InsertionK
import Derived.Shelf.SlicesQ.Reverse
import Derived.Test.YtpfmpaolgmoajaaGreatL04
import Derived.Test.YtpfmpaolgmoajaaGreatL02
set_option linter.unusedVariables false
set_option linter.unusedSimpArgs false
set_option maxHeartbeats 4000000
set_option maxRecDepth 20000
set_option linter.defProp false
open Go.Proofs.Tryz
namespace Go.Fw
open Go.RowKit open Go.Proofs hiding intOf
section
open Go.Sort
section
variable {α:Type} [Inhabited α] {enc:α→List Value} {k:Nat} {w:World} {B g n c:Nat} {e:TypeId} {l:List α}
def sC(hk:∀x,(enc x).length=k)(l:List α):(flatK enc k l.toArray).toList=l.flatMap enc:=by
 refine QI λt=>?_;by_cases a:t<l.length*k
 ·have b:0<k:=Nat.pos_of_ne_zero λh=>by subst h;simp at a
  have d:=(Nat.div_lt_iff_lt_mul b).2 a;have c:t%k<k:=Rj _ b;have e:=get_flatK enc k l.toArray t (by simpa using a);have f:t<(flatK enc k l.toArray).size:=by simp[flatK];exact a
  have i:l.toArray[t/k]! =l[t/k]:=by simp[d]
  rw[PA,PE f];rw[getElem!_pos _ t f]at e;rw[e,i];have g:=kc enc k hk l (t/k) (t%k) d c;rw[show t/k*k+t%k=t by rw[Qk];exact Nat.div_add_mod t k]at g;rw[g,OL (by rw[hk];exact c),getElem!_pos _ _ (by rw[hk];exact c)]
 ·rw[Ps (by simp[flatK];omega),Ps (by rw[db enc k hk];omega)]
def pz(hk:∀x,(enc x).length=k)(h:w.ownsRow B e k (V g 0 n c) n (l.flatMap enc))(hn:n=l.length)(hpos:0<n):HoldsK enc k w g 0 l.toArray/\g<w.heap.size:=by
 obtain⟨u,t,a,o,v,d,y,z,A,p⟩:=fj h hpos;injection o with b _ q;injection b with b;injection b with b;subst b q;refine⟨λj f=>⟨?_,d.frozen _⟩,d.lt⟩;have r:=sC hk l;rw[PS,d.cell];have i:j<n*k:=by subst hn;simpa[flatK]using f
 have s:(a.toList.take (n*k))[j]?=a.toList[j]?:=by rw[Pw i]
 have m:(a.toList.take (n*k))[j]?=(flatK enc k l.toArray).toList[j]?:=by rw[p,r]
 rw[s,PA,PA,PE f]at m;rw[m,getElem!_pos _ j f];rfl
def oq{m:Nat}{os:Array Obj}{d:List α}(hk:∀x,(enc x).length=k)(h:w.ownsRow B e k (V g 0 n c) n (l.flatMap enc))(hn:n=l.length)(hd:d.length=l.length)(hpos:0<n):
  (sortWorldK enc k w g 0 m d.toArray os).ownsRow B e k (V g 0 n c) n (d.flatMap enc)/\ag (λj=>j=g) w (sortWorldK enc k w g 0 m d.toArray os):=by
 obtain⟨O,H,a,v,y,p,q,z,r,P⟩:=fj h hpos;injection v with b _ A;injection b with b;injection b with b;subst b A;have L:=p.lt;have D:=sC hk d;have N:(flatK enc k d.toArray).size=n*k:=by simp[flatK,hd,hn]
 have F:n*k<=a.size:=by rw[r];exact Pr _ q
 have i:Blk (sortWorldK enc k w g 0 m d.toArray os) g e (putCells id 0 (flatK enc k d.toArray) a):=by
  have s:(putRowK enc k (Sort.ahead w m) g 0 d.toArray).heap[g]?=some (.cells (putCells id 0 (flatK enc k d.toArray) a) e (0,0)):=by
   show((w.heap.modify g (onCells _)))[g]?=_;rw[RO,OB rfl,p];rfl
  have G:=(PX.1 s).1;show((putRowK enc k (Sort.ahead w m) g 0 d.toArray).heap++os)[g]?=_;rw[Array.getElem?_append_left G,s]
 refine⟨lf y i q z (by simpa[putCells]using r) ?_ (by rw[db enc k hk,hd,hn]),rfl,rfl,rfl,?_,λj o t=>?_⟩
 ·refine QI λj=>?_;by_cases o:j<n*k
  ·rw[Pw o,<-D,PA,PA];have u:j<a.size:=zO;have f:j<(flatK enc k d.toArray).size:=zO;simp only[putCells,Array.getElem?_mapIdx,PE u,PT,PE f];rw[OB ⟨OK _,zO⟩,Nat.sub_zero,getElem!_pos _ j f];rfl
  ·rw[Ps zT,Ps (by rw[db enc k hk,hd,<-hn];omega)]
 ·show w.heap.size<=(((w.heap.modify g _))++os).size;simp
 ·show(((w.heap.modify g (onCells _)))++os)[j]?=_;rw[Array.getElem?_append_left (by simpa using o),RO,Oz λe=>t e.symm]
end
end
def iZ(w:World)(o:Obj):(w.alloc o).drew=w.drew.alloc o:=rfl
def iI{P:Program}{s:Nat}{w:World}{o:Oper}{a:Act}{K:Act->World->Prop}{Q:Exit->Act->World->Prop}{t e e':TypeId}{z:Value}{bytes:Nat}(hT:cE P t e z s bytes)(hs0:0<s)
  (sl x:Operand)(ho:o.op=.call {callee:=.builtin .append,args:=#[sl,x],argTypes:=#[t,t]})
  {v:Value}{n B g:Nat}{xs:List Value}(hs:a.eval sl=v)(hm:w.ownsRow B e s v n xs)(hB:B<=w.heap.size)(hg:g=w.heap.size){cs:Array Value}(hx:a.eval x=V g 0 1 1)(hcs:cs.size=s)(h1:∀u∈cs.toList,u.oneCell'=true)
  (hlen:(n+1)*bytes<=140737488355328)(hle:n+1<=maxLen)
  (h:∀v' w',w'.ownsRow B e s v' (n+1) (xs++cs.toList)->w.grownBy w' v.ownBlock->(v'.ownBlock=v.ownBlock\/∀k,v'.ownBlock=some k->w.heap.size<=k)->K (a.put o.dst v') w'):
  o.wp P a (w.alloc (.cells cs e')) K Q:=by
 subst hg;obtain⟨i,m,p,f,j⟩:=info_parts hT.info;refine dC (w.alloc (.cells cs e')) sl x t ho B e i z s bytes hT.under m p f j hT.cells hs0 v n xs hs (hm.alloc _) _ _ 1 1 cs.toList hx (dD w e' cs s 1 w.heap.size _ zO rfl rfl) h1 hle hlen zT λv' w' q c d=>?_;have hg:w.grownBy w' v.ownBlock:=⟨c.os,c.tape,c.output,OJ zS c.size,λk b l=>(c.block k zT l).trans (Qh w _ k b)⟩;refine h v' w' q hg ?_
 rcases d with d|d
 ·exact .inl d
 ·refine .inr λk b=>?_;rw[d]at b;injection b with b;simp at b;omega
end Go.Fw
namespace Go.Proofs
open Go.Shelf Go.Fw
def M9:Go.Shelf.Ren:=⟨λ|35=>362|n=>n,λ|22=>36|23=>58|3=>3|4=>4|0=>0|n=>n,λ|n=>n⟩
def P3:Go.Proofs.SlLaysE0.n35 prog M9:={
 mixed:=by kernel_rfl
 f35:=⟨f362.name,by decide,func362.trans (congrArg some (by kernel_rfl))⟩
 t0:=underlying0
 a0:=isAgg0
 z0:=sizeOf0
 v0:=zeroValue0
 t3:=underlying3
 a3:=isAgg3
 z3:=sizeOf3
 v3:=zeroValue3
 t4:=underlying4
 a4:=isAgg4
 z4:=sizeOf4
 v4:=zeroValue4
 t22:=underlying36
 a22:=isAgg36
 z22:=sizeOf36
 v22:=zeroValue36}
end Go.Proofs
namespace Go.Fw
open Go.RowKit open Go.Proofs hiding intOf
section
open Go.Shelf
instance:Inhabited K2:=⟨⟨0,0⟩⟩
def tM:cE prog 36 58 (.agg #[E 0,E 0]) 2 16:=⟨underlying36,zR,rfl⟩
def IG(l:List K2):∀u∈cG l,u.oneCell'=true:=by
 intro u b;obtain⟨k,_,a⟩:=QU.1 b;simp[K2.cells]at a
 rcases a with rfl|rfl<;>rfl
structure QAt(w:World)(p q B:Nat)(t:TypeId)(cs:Array Value)(vf vb:Value)(f b:List K2):Prop where
 B0:Blk w p t cs
 front:w.ownsRow B 58 2 vf f.length (cG f)
 back:w.ownsRow B 58 2 vb b.length (cG b)
 apart:∀k,vf.ownBlock=some k->vb.ownBlock≠some k
 v0:cs[q]?=some vf
 v1:cs[q+1]?=some vb
 ne:58≠t
section
variable {w w':World} {p q B:Nat} {t:TypeId} {cs:Array Value} {vf vb:Value} {f b:List K2}
def QAt.c0(h:QAt w p q B t cs vf vb f b):w.cell? (Y p q)=some vf:=(h.B0.cell q).trans h.v0
def QAt.c1(h:QAt w p q B t cs vf vb f b):w.cell? (Y p (q+1))=some vb:=(h.B0.cell (q+1)).trans h.v1
def rz{n s:Nat}{e:TypeId}{v:Value}{xs:List Value}(h:w.ownsRow B e s v n xs)(hk:∀k,v.ownBlock=some k->w'.heap[k]?=w.heap[k]?):w'.ownsRow B e s v n xs:=by
 refine⟨h.1,?_⟩
 rcases h.2 with c|⟨g,a,b,rfl,d,f,i⟩
 ·exact .inl c
 ·exact .inr ⟨g,a,b,rfl,d,(hk g rfl).trans f,i⟩
def QBl(p:Nat)(vf vb:Value)(k:Nat):Prop:=k=p\/vf.ownBlock=some k\/vb.ownBlock=some k
def QAt.D3(h:QAt w p q B t cs vf vb f b)(hk:∀k,QBl p vf vb k->w'.heap[k]?=w.heap[k]?):QAt w' p q B t cs vf vb f b:=
 ⟨(hk p (.inl rfl)).trans h.B0,rz h.front λk e=>hk k (.inr (.inl e)),rz h.back λk e=>hk k (.inr (.inr e)),h.apart,h.v0,h.v1,h.ne⟩
def QAt.lt(h:QAt w p q B t cs vf vb f b):∀k,QBl p vf vb k->k<w.heap.size:=by
 rintro k (rfl|a|a)
 ·exact h.B0.lt
 ·exact(h.front.lt k a).2
 ·exact(h.back.lt k a).2
def QAt.up(h:QAt w p q B t cs vf vb f b)(hb:M w w'):QAt w' p q B t cs vf vb f b:=h.D3 λk a=>hb.block k (h.lt k a)
def QAt.drew(h:QAt w p q B t cs vf vb f b):QAt w.drew p q B t cs vf vb f b:=h.D3 λ_ _=>rfl
end
structure dE(w:World)(p q B:Nat)(t:TypeId)(cs:Array Value)(S:Nat->Prop)(L:List K2):Prop where
 ex:∃vf vb f b,QAt w p q B t cs vf vb f b/\L=f.reverse++b/\(∀k,vf.ownBlock=some k->S k)/\∀k,vb.ownBlock=some k->S k
def Nh(w w':World)(p q B:Nat)(t:TypeId)(cs:Array Value)(S:Nat->Prop)(L:List K2):Prop:=
 ∃cs',dE w' p q B t cs' (λk=>S k\/w.heap.size<=k) L/\bF q 2 cs cs'/\ag (λk=>k=p\/S k) w w'
def rA(p q B:Nat)(t:TypeId)(cs:Array Value)(S:Nat->Prop)(L:List K2)(w:World)(h:dE w p q B t cs S L)(hl:L.length<=100000):C 356 #[Z p q] w λe w'=>e=.returned (I (L.length:Int))/\w.drew=w':=by
 obtain⟨g,i,f,b,a,rfl,_⟩:=h.ex;have j:=a.c0;have k:=a.c1;obtain⟨l,m,rfl,_,_⟩:=ak a.front;obtain⟨n,r,rfl,_,_⟩:=ak a.back;have s:=Z1 a;have c:IntKind.i64.wrap ((f.length:Int)+(b.length:Int))=(((f.reverse++b).length:Nat):Int):=by
  simp at hl ⊢;rw[IntWalk.i64_in _ ⟨zO,zO⟩]
 have d:=Z1 c;clear a hl c h
 go_in
 go_wp2;refine cM zR zR ?_;repeat still_step
 refine wpStill_nil ?_;go_wp2;go_ret;exact⟨by rw[d.o];rfl,rfl⟩
def IH(B:Nat)(v:Value)(xs:List K2)(w:World)(h:w.ownsRow B 58 2 v xs.length (cG xs))(hn:xs.length<=100000):
  C 362 #[v] w λe w'=>e=.returned (.tuple #[])/\w'.ownsRow B 58 2 v xs.length (cG xs.reverse)/\ag (λk=>v.ownBlock=some k) w w':=by
 rcases PR xs.length with b|b
 ·obtain⟨A,c,rfl,_,_⟩:=ak h;have f:=OU b;subst f;have a:=AnyQ.slices_Reverse_empty (P:=prog) P3 A c w;change C 362 _ _ _ at a;refine zl a ?_;exact⟨rfl,h,ag.refl _ _⟩
 ·obtain⟨A,c,rfl,p,q⟩:=ak h;obtain⟨g,r,s,i,_⟩:=fj h b;injection i with j _ _;subst j;have l:=(pz (k:=2) K2.C2 h rfl b).1;have a:=AnyQ.slices_Reverse (P:=prog) P3 2 (λw=>zR) (λw=>zR) K2.cells K2.C2 (λx u n=>IG [x] u (by simpa[cG]using n)) g 0 c xs.toArray w l zT;change C 362 _ _ _ at a;refine a.mono ?_;rintro e w' ⟨rfl,m,rfl⟩;have:=oq (m:=m) (os:=#[]) (d:=xs.reverse) (k:=2) K2.C2 h rfl zS b;unfold sortWorldK at this;rw[Sort.grow_empty]at this;rw[show xs.reverse.toArray=xs.toArray.reverse by simp]at this;exact⟨rfl,this.1,this.2.C3 λk o=>by rw[o];rfl⟩
def rB(p q B:Nat)(t:TypeId)(cs:Array Value)(S:Nat->Prop)(L:List K2)(x:K2)(w:World)(h:dE w p q B t cs S L)(hB:B<=w.heap.size)(hl:L.length<=100000):
  C 296 #[Z p q,x.val] w λe w'=>e=.returned (.bool true)/\Nh w w' p q B t cs S (L++[x]):=by
 obtain⟨vf,r,f,b,l,rfl,af,ah⟩:=h.ex;obtain⟨i,g⟩:∃f:Nat->Prop,∀j,f j↔r.ownBlock=some j:=⟨_,λ_=>Iff.rfl⟩;have s:=Z1 g;have a6:b.length<=100000:=by simp at hl;omega
 have H:¬i p:=λe=>aB l.back l.B0 l.ne ((g p).1 e);have ai:∀j,i j->j<w.heap.size:=λj u=>(l.back.lt j ((g j).1 u)).2;obtain⟨Ab,cb,rfl,_,_⟩:=ak l.back;obtain⟨D,F⟩:=x;have N:=zh w (.cells #[E D,E F] 58);have aj:=l.up N;have al:=Blk.A8 w 58 #[E D,E F] rfl;have c:=Z6 aj al af ah N l;have O:¬i w.heap.size:=λe=>by have:=ai _ e;omega
 unfold K2.val K2.arr;simp only
 go_in
 go_wp2;generalize a7:w.alloc (.cells #[E D,E F] 58)=W at*;have am:=c.o.1.B0.lt;have y:=c.o.2.1.lt;have c1:=c.o.1.c1;obtain⟨d0,d1⟩:=ao c.o.2.1;generalize ab:w.heap.size=r at*;have an:=Z1 ab;have hS:=(ag.refl i W).drew;refine bW 8 (S:=λV=>ag i W V) zR zR hS ?_;simp only[OM,OO,ON,OQ];try simp only[zD,zE,Nat.reduceAdd,zG]
 refine zL ?_;refine zq 4 _ ?_ (hy:=λW hW=>by have q0:=(OI (a:=Y p (q+1)) (hW.block p am H)).trans c1;exact zf);refine zq 5 _ ?_ (hy:=λW hW=>by have q0:=(OI (a:=Y r 0) (hW.block r y O)).trans d0;have q1:=(OI (a:=Y r 1) (hW.block r y O)).trans d1;exact zf);refine zo 6 λK hK=>?_;go_simp;refine zJ hK (hS.alloc _) ?_;refine zo 7 λK hK=>?_;try simp only[iZ]
 refine iI (w:=W.drew) (n:=b.length) (xs:=cG b) (B:=B) (v:=.slice Ab b.length cb) tM zP (.tmp 11) (.tmp 13) rfl zF c.o.1.drew.back (OJ hB (RD y)) rfl zF rfl zV zO zU ?_;intro v' w' P Q ap;obtain⟨A3,k3,rfl,_,_⟩:=ak P;have z:=dl hS Q (λ_ h=>h) λj u=>(s.o j).2 u;have d:=z.B0 c.o.1.B0 H;have H4:=Z5 d P ap Q z;have g1:=(d.cell (q+1)).trans c.o.1.v1;have gf:=d.frozen (q+1);refine zJ hK z ?_;rw[bI];go_wp2;go_ret;obtain⟨d,R,A,_,T⟩:=H4.o;have U:=c.o.1.apart;have X:=rz c.o.1.front λk G=>T.block k (c.o.1.lt k (.inr (.inl G))) λe=>U k G ((s.o k).1 e);have aq:=aB R d c.o.1.ne;have ar:=aB X d c.o.1.ne;have aa:=an.o;refine⟨rfl,cs.setIfInBounds (q+1) (.slice A3 (b.length+1) k3),⟨vf,.slice A3 (b.length+1) k3,f,b++[⟨D,F⟩],⟨d.B4 (q+1) _,bA (p:=Y p (q+1)) X ar _,?_,?_,(bf zO _).trans c.o.1.v0,cP c.o.1.v1 _,c.o.1.ne⟩,zS,λk G=>.inl (c.o.2.2.1 k G),?_⟩,(bF.refl q 2 cs).B4 zO zO _,?_⟩
 ·have:=bA (p:=Y p (q+1)) R aq (.slice A3 (b.length+1) k3);simpa[cG,K2.cells]using this
 ·intro k e e2
  rcases A with m|m
  ·exact U k e (m.symm.trans e2)
  ·have h5:=m k e2;have h6:=c.o.1.lt k (.inr (.inl e));exact absurd h6 (by show ¬k<W.heap.size;have:W.heap.size<=k:=h5;omega)
 ·intro k e
  rcases A with m|m
  ·exact .inl (c.o.2.2.2.1 k (m.symm.trans e))
  ·refine .inr ?_;have h5:W.heap.size<=k:=m k e;rw[aa];omega
 ·have aw:ag (λk=>k=p\/S k) w W:=by
   have:=c.o.2.2.2.2.1;rw[<-aa]at this;exact ag.B5 this
  exact(aw.trans (T.C3 λj u=>.inr (c.o.2.2.2.1 j ((s.o j).1 u)))).setCell (p:=Y p (q+1)) (.inl (.inl rfl)) _
def EG(p q B:Nat)(t:TypeId)(cs:Array Value)(vf vb:Value)(f b:List K2)(w:World)(h:QAt w p q B t cs vf vb f b)(hl:f.length+b.length<=100000):
  C 360 #[Z p q] w λe w'=>(∃v,e=.returned v)/\∃cs' vf' vb' f' b',QAt w' p q B t cs' vf' vb' f' b'/\f'.reverse++b'=f.reverse++b/\(f'=[]->f=[]/\b=[])/\bF q 2 cs cs'/\ag (QBl p vf vb) w w'/\∀k,QBl p vf' vb' k->QBl p vf vb k:=by
 have N:=h.c0;have O:=h.c1;have P:=h.B0.frozen q;have Q:=h.B0.frozen (q+1);obtain⟨D,F,rfl,_,_⟩:=ak h.front;obtain⟨a,c,n,_,_⟩:=ak h.back;subst n;have g:=Z1 h;by_cases r:f.length=0
 ·have s:=OU r;subst s;have d:=aB h.back h.B0 h.ne;have u:=(h.B0.B4 q (.slice a b.length c)).B4 (q+1) (.slice none 0 0);have x:=bA (p:=Y p (q+1)) (bA (p:=Y p q) h.back d (.slice a b.length c)) d (.slice none 0 0);have y:ag (QBl p (.slice D 0 F) (.slice a b.length c)) w ((w.setCell (Y p q) (.slice a b.length c)).setCell (Y p (q+1)) (.slice none 0 0)):=((ag.refl _ w).setCell (p:=Y p q) (.inl (.inl rfl)) _).setCell (p:=Y p (q+1)) (.inl (.inl rfl)) _;have j:=IH B (.slice a b.length c) b _ x (by simp at hl;omega);have l:=Z3 u y j;have z:=Z1 d
  go_in
  go_wp2_with fail;refine l.o.2.2.mono ?_;rintro e w' ⟨rfl,G,H⟩;have m:=Z2 G H;go_wp2
  go_end0
  refine⟨⟨_,rfl⟩,_,.slice a b.length c,.slice none 0 0,b.reverse,[],⟨m.o.2.B0 l.o.1 (λe=>z.o e),by simpa using m.o.1,Pn _ _ _ _,λk _ e=>by simp[Value.ownBlock]at e,(bf zO _).trans (cP g.o.v0 _),cP ((bf zO _).trans g.o.v1) _,g.o.ne⟩,zS,λe=>by simp at e;simp[e],((bF.refl q 2 cs).B4 (i:=q) zO zO _).B4 (i:=q+1) zO zO _,l.o.2.1.trans (m.o.2.C3 λk e=>.inr (.inr e)),?_⟩;rintro k (rfl|e|e)
  ·exact .inl rfl
  ·exact .inr (.inr e)
  ·simp[Value.ownBlock]at e
 ·have L:((f.length:Int)==0)=false:=by rw[beq_eq_false_iff_ne];omega
  have A:=r
  go_in
  go_wp2
  go_end0
  exact⟨⟨_,rfl⟩,cs,_,_,f,b,g.o,rfl,λe=>(A (by rw[e];rfl)).elim,bF.refl _ _ _,ag.refl _ _,λk e=>e⟩
def Cu(w:World)(g:Nat)(hg:g=w.heap.size):Blk (w.alloc (.cells #[E 0,E 0] 58)) g 58 #[E 0,E 0]:=Blk.A8 w _ _ hg
def Cv(p q B:Nat)(t:TypeId)(cs:Array Value)(S:Nat->Prop)(w:World)(h:dE w p q B t cs S []):C 355 #[Z p q] w (J (.tuple #[K2.val ⟨0,0⟩,.bool false]) w):=by
 obtain⟨m,n,f,b,d,g,i,j⟩:=h.ex;have a:=ae (zh w (.cells #[E 0,E 0] 58)) (.cells #[E 0,E 0] 58);have k:=(Cu w _ rfl).alloc (.cells #[E 0,E 0] 58);have l:=rA p q B t cs S [] _ ⟨⟨m,n,f,b,d.up a,g,i,j⟩⟩ zS;have c:=Z3 l a k.drew;clear l a d g i j h k
 go_in
 go_wp2_with fail;refine c.o.1.mono ?_;rintro e w' ⟨rfl,rfl⟩;go_wp2;exact OH (cx lj rfl c.o.2.2 rfl _ rfl) rfl ⟨rfl,c.o.2.1.drew⟩
def Cw{w:World}{B g n m c:Nat}{l:List K2}(h:w.ownsRow B 58 2 (V g 0 n c) n (cG l))(hn:n=l.length)(hm:m<=n):w.ownsRow B 58 2 (V g 0 m c) m (cG (l.take m)):=by
 rcases PR n with b|b
 ·obtain rfl:m=n:=zO
  rwa [OT zO]
 obtain⟨s,q,r,d,e,f,t,i,j,k⟩:=fj h b;injection d with a _ o;injection a with a;injection a with a;subst a o;refine lf e f zO i j ?_ (by rw[qH];simp;omega);have p:cG (l.take m)=(cG l).take (m*2):=by
  have:cG l=cG (l.take m)++cG (l.drop m):=by
   unfold cG;rw[<-List.flatMap_append,Qr]
  rw[this,QG (by rw[qH];simp;omega)]
 rw[p,<-k,Sf];congr 1;omega
def II(p q B:Nat)(t:TypeId)(cs:Array Value)(S:Nat->Prop)(x:K2)(L:List K2)(w:World)(h:dE w p q B t cs S (x::L))(hl:(x::L).length<=100000):
  Calls prog 355 #[.pointer (some ⟨p,q,none⟩)] w λe w'=>e=.returned (.tuple #[x.val,.bool true])/\Nh w w' p q B t cs S L:=by
 have hz:((((x::L).length:Nat):Int)==0)=false:=by rw[beq_eq_false_iff_ne];simp;omega
 generalize ai:(x::L).length=n at hz;have bn:=Z1 ai;have bv:=Z1 hl;obtain⟨vf,vb,f,b,hq,he,h1,h2⟩:=h.ex;have aj:=ae (ae (Oy w.heap.size w) (.cells #[.int .u64 0,.int .u64 0] 58)) (.cells #[.int .u64 0,.int .u64 0] 58);have al:=(Cu w _ rfl).alloc (.cells #[.int .u64 0,.int .u64 0] 58);have O:=hq.up aj;have hh:=rA p q B t cs S (x::L) _ ⟨⟨vf,vb,f,b,O,he,h1,h2⟩⟩ hl;have a4:f.length+b.length<=100000:=by have:=congrArg List.length he;simp at*;omega
 have a5:=EG p q B t cs vf vb f b _ O.drew a4;have G:=Z9 hh aj al a5 O he h1 h2 hq;clear hh aj hq he h1 h2 h al ai hl O a5 a4
 go_in
 go_wp2_with fail;refine G.o.1.mono ?_;rintro e w' ⟨rfl,rfl⟩;rw[bn.o];go_wp2_with fail;refine G.o.2.2.2.1.mono ?_;rintro e d ⟨⟨v1,rfl⟩,cp,cq,am,c,b',a,ap,a6,P,z,A⟩;have Q:=G.o.2.2.2.2.2.1;have a7:c≠[]:=λe=>by
  obtain⟨rfl,rfl⟩:=a6 e;simp at Q
 have aq:=Sa.2 a7;obtain⟨m,hm⟩:∃m,c.length=m+1:=⟨c.length-1,by omega⟩;have ar:m<c.length:=by omega
 have cr:m<=100000:=by have:=congrArg List.length ap;have:=congrArg List.length Q;have:=bv.o;simp at*;omega
 have a8:c=c.take m++[c[m]]:=by
  conv=>lhs;rw[<-Qr m c,Pu ar,Pt (by omega)]
 have b0:x::L=c[m]::((c.take m).reverse++b'):=by
  have b1:c.reverse=c[m]::(c.take m).reverse:=by
   conv=>lhs;rw[a8]
   rw[List.reverse_append];rfl
  rw[Q,<-ap,b1];rfl
 injection b0 with a9 R;obtain⟨Af,i,rfl,b2,b3⟩:=ak a.front;obtain⟨l,o,rfl,b4,T⟩:=(an.C4 a.front).elem (k:=m) K2.C2 (by decide) rfl ar;obtain⟨g,c9,ct,b5,_⟩:=fj a.front aq;injection b5 with hA _ hC;injection hA with hA;injection hA with b6 b7 _;subst b6 b7 hC;rw[<-a9]at T;have r0:=T 0 _ rfl;have r1:=T 1 _ rfl;simp only[PS,Qt]at r0 r1;have ba:=Cw (m:=m) a.front rfl (by omega);have c0:=a.c0;have f0:=a.B0.frozen q;have U:=aB a.back a.B0 a.ne;have X:=aB a.front a.B0 a.ne;have u:(c.take m).length=m:=by simp;omega
 have bb:=z.B0 G.o.2.2.1 (by
  intro e;have h9:=G.o.2.2.2.2.2.2.2.2.lt;have:=h9 _ e;omega)
 have bc:=a.B0.lt;have bd:=b4;rw[hm]at c0 b2;have HM:=Z1 hm;have H:=Z9 z A R ba a P u bb (And.intro U X);have cu:IntKind.i64.wrap (((m+1:Nat):Int)-1)=(m:Int):=by rw[IntWalk.i64_in _ ⟨by omega,by omega⟩];omega
 have cv:IntKind.i64.wrap (m:Int)=(m:Int):=IntWalk.i64_in _ ⟨by omega,by omega⟩;have ck:(m:Int)<(m:Int)+1:=by omega
 have cw:(m:Int)<=(i:Int):=by omega
 obtain⟨v,y⟩:=x;simp only at r0 r1;clear z A a9 R ba P U X ap a6 a7 aq a8 Q ar u hm bb T b3;go_wp2;have hS:=(Oy d.heap.size d).drew;refine ay (S:=λV=>Below d.heap.size d V) (by kernel_rfl) hS ?_;simp only[zD,zE,Nat.reduceAdd,zG];refine zp 0 ?_;refine zp 1 ?_;refine zp 2 ?_;refine zq 3 _ ?_ (hy:=λW hW=>by have q0:=(OF hW (p:=⟨p,q,none⟩) bc).trans c0;exact zf);refine zp 4 ?_;refine zp 5 ?_;refine zp 6 ?_;refine zq 7 _ ?_ (hy:=λW hW=>by have q0:=(OF hW (p:=⟨p,q,none⟩) bc).trans c0;exact zf);refine zp 8 ?_;refine zp 9 ?_;refine zp 10 ?_;refine zq 11 _ ?_ (hy:=λW hW=>by have q0:=(OF hW (p:=⟨l,m*2,none⟩) bd).trans r0;have q1:=(OF hW (p:=⟨l,m*2+1,none⟩) bd).trans r1;exact zf);refine zo 12 λK hK=>?_;go_simp;have D:=ae hS (.cells #[.int .u64 0,.int .u64 0] 58);refine hK _ _ D ?_;clear hK;refine zn ?_;refine zo 13 λK hK=>?_;go_simp;refine hK _ _ (ae hS (.cells #[.int .u64 v,.int .u64 y] 58)) ?_;clear hK;refine zn ?_;refine zd ?_;have F:Below d.heap.size d (d.alloc (.cells #[.int .u64 v,.int .u64 y] 58)).drew:=(ae (Oy _ d) _).drew;have be:Blk (d.alloc (.cells #[.int .u64 v,.int .u64 y] 58)).drew d.heap.size 58 #[.int .u64 v,.int .u64 y]:=(Blk.A8 d _ _ rfl).drew;have aa:=H.o.2.2.2.2.1.up F;have bh:=H.o.2.2.2.2.2.2.2.1.later F;have bi:=aN H.o.2.2.2.1 F;have e0:=aa.c0;rw[HM.o]at e0;have e1:=aa.B0.frozen q;have al:=H.o.2.2.2.2.2.2.2.1.lt;have b9:p≠d.heap.size:=by omega
 have au:p≠w.heap.size:=by
  have h9:=G.o.2.2.2.2.2.2.2.2.lt;have:=h9 p (.inl rfl);omega
 have HG:=Z5 F be aa bh bi;clear be aa bh bi F c0 f0 r0 r1 hS;generalize bj:d.heap.size=v5 at*;have ca:=Z1 bj;clear bj;generalize (d.alloc (.cells #[.int .u64 v,.int .u64 y] 58)).drew=W at*;go_wp2;refine aY 12 (by kernel_rfl) (by kernel_rfl) ?_;simp only[OM,OO,ON,OQ];have cy:m<=i:=by omega
 repeat still_step
 refine wpStill_nil ?_;go_upto_region 7 with fail
 have bk:=(HG.o.2.1.D1 (p:=⟨p,q,none⟩) (Pc b9) (.slice (some ⟨l,0,none⟩) m i)).drew;have r:=(HG.o.2.2.2.1.D1 (p:=⟨p,q,none⟩) (Pc au) (.slice (some ⟨l,0,none⟩) m i)).drew;have ab:=(HG.o.2.2.1.B0.B4 q (.slice (some ⟨l,0,none⟩) m i)).drew;have ac:=(bA (p:=⟨p,q,none⟩) HG.o.2.2.2.2 (λe=>H.o.2.2.2.2.2.2.2.2.2 e) (.slice (some ⟨l,0,none⟩) m i)).drew;have ad:(World.setCell W ⟨p,q,none⟩ (.slice (some ⟨l,0,none⟩) m i)).drew.ownsRow B 58 2 am b'.length (cG b'):=(bA (p:=⟨p,q,none⟩) HG.o.2.2.1.back H.o.2.2.2.2.2.2.2.2.1 (.slice (some ⟨l,0,none⟩) m i));have af:ag (λj=>j=p) W (World.setCell W ⟨p,q,none⟩ (.slice (some ⟨l,0,none⟩) m i)).drew:=((ag.refl (λj=>j=p) W).setCell (p:=⟨p,q,none⟩) (.inl rfl) _).drew;generalize (World.setCell W ⟨p,q,none⟩ (.slice (some ⟨l,0,none⟩) m i)).drew=V at*;have H6:=Z5 ab ac ad af r;obtain⟨d0,d1⟩:=ao bk;obtain⟨z0,z1⟩:=ao r;have cz:=r.frozen 0;have c1:=r.frozen 1;clear bk r ab ac ad af;go_wp2;obtain⟨z,A,R,_,a,P,u,_,U,X⟩:=H.o;obtain⟨ab,ac,ad,af,r⟩:=H6.o;obtain⟨_,cb,_,_,_,_,av,D,bl⟩:=G.o;have aw:∀k,(Value.slice (some ⟨l,0,none⟩) m i).ownBlock=some k->S k/\k<w.heap.size:=λk s=>by
  have bm:(Value.slice (some ⟨l,0,none⟩) c.length i).ownBlock=some k:=s;have:=A k (.inr (.inl bm));refine⟨?_,bl.lt k this⟩
  rcases this with rfl|e|e
  ·exact absurd bm X
  ·exact av k e
  ·exact D k e
 have N:∀k,am.ownBlock=some k->S k/\k<w.heap.size:=λk s=>by
  have:=A k (.inr (.inr s));refine⟨?_,bl.lt k this⟩
  rcases this with rfl|e|e
  ·exact absurd s U
  ·exact av k e
  ·exact D k e
 have cc:=(r.B4 0 (.int .u64 v)).B4 1 (.int .u64 y);have cd:=bA (p:=⟨w.heap.size,1,none⟩) (bA (p:=⟨w.heap.size,0,none⟩) ac (λe=>absurd (aw _ e).2 (Qn _)) (.int .u64 v)) (λe=>absurd (aw _ e).2 (Qn _)) (.int .u64 y);have ce:=bA (p:=⟨w.heap.size,1,none⟩) (bA (p:=⟨w.heap.size,0,none⟩) ad (λe=>absurd (N _ e).2 (Qn _)) (.int .u64 v)) (λe=>absurd (N _ e).2 (Qn _)) (.int .u64 y);have bu:(c.take m).length=m:=u;refine OH (cx lj rfl (cs:=K2.arr ⟨v,y⟩) cc rfl _ rfl) rfl ⟨rfl,_,⟨.slice (some ⟨l,0,none⟩) m i,am,c.take m,b',⟨(ab.D1 (p:=⟨w.heap.size,0,none⟩) au _).D1 (p:=⟨w.heap.size,1,none⟩) au _,by rw[bu];exact cd,ce,a.apart,cP a.v0 _,(bf (by omega) _).trans a.v1,a.ne⟩,R,λk s=>.inl (aw k s).1,λk s=>.inl (N k s).1⟩,P.B4 (OA _) (by omega) _,?_⟩;have k1:ag (λk=>k=p\/S k) w d:=((ag.B5 cb).drew).trans (z.C3 λk s=>by
  rcases s with e|e|e
  ·exact .inl e
  ·exact .inr (av k e)
  ·exact .inr (D k e))
 have k2:ag (λk=>k=p\/S k) d W:=ag.B5 (by have:=HG.o.1;rwa [<-ca.o]at this);exact((((k1.trans k2).trans (af.C3 λk e=>.inl e)).setCell (p:=⟨w.heap.size,0,none⟩) (.inr (OA _)) _).setCell (p:=⟨w.heap.size,1,none⟩) (.inr (OA _)) _)
end
end Go.Fw
