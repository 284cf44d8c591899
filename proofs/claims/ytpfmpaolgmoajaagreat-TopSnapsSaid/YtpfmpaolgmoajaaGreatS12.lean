/- Lemmas of this claim. Conditions: as each says. -/
import Derived.Shelf.GgSortFunc.InsertionK
import Derived.Shelf.SlicesQ.Reverse
import Derived.Test.YtpfmpaolgmoajaaGreatS09
set_option linter.unusedVariables false
set_option linter.unusedSimpArgs false
set_option maxHeartbeats 4000000
set_option maxRecDepth 20000
set_option linter.defProp false
open Go.Proofs.Tryz
namespace Go.Fw
open Go.RowKit open Go.Proofs hiding intOf
variable {v:Value}{xs:List Value}{g B d:Nat}{cs:Array Value}{w:World}{S:Nat->Prop}{L:List K2}(p q:Nat)
section
open Go.Sort
section
variable {α:Type} [Inhabited α] {enc:α→List Value} {k:Nat} {w:World} {B g n c:Nat} {e:TypeId} {l:List α}
def sC(hk:∀x,(enc x).length=k)(l:List α):(flatK enc k l.toArray).toList=l.flatMap enc:=by
 refine QI λt=>?_;by_cases a:t<l.length*k
 ·have b:0<k:=Nat.pos_of_ne_zero λh=>by subst h;simp at a
  have d:=(Nat.div_lt_iff_lt_mul b).2 a;have c:t%k<k:=Rj _ b;have e:=get_flatK enc k l.toArray t (by simpa using a);have f:t<(flatK enc k l.toArray).size:=by simp[flatK];exact a
  have i:l.toArray[t/k]! =l[t/k]:=by simp[d]
  rw[PA,PE f];rw[getElem!_pos _ t f]at e;rw[e,i];have g:=kc enc k hk l (t/k) (t%k) d c;rw[show t/k*k+t%k=t by rw[Qk];exact Nat.div_add_mod t k]at g;rw[g,OL (by rw[hk];exact c),getElem!_pos _ _ (by rw[hk];exact c)]
 ·rw[Ps (by simp[flatK];omega),Ps (by rw[db enc k hk];omega)]
def pz(hk:∀x,(enc x).length=k)(h:w.ownsRow B e k (V g 0 n c) n (l.flatMap enc))(hn:n=l.length)(hpos:0<n):HoldsK enc k w g 0 l.toArray/\g<w.heap.size:=by
 obtain⟨u,t,a,o,v,d,y,z,A,p⟩:=fj h hpos;injection o with b _ q;injection b with b;injection b with b;subst b q;refine⟨λj f=>⟨?_,d.frozen _⟩,d.lt⟩;have r:=sC hk l;rw[PS,d.cell];have i:j<n*k:=by subst hn;simpa[flatK]using f
 have s:(a.toList.take (n*k))[j]?=a.toList[j]?:=by rw[Pw i]
 have m:(a.toList.take (n*k))[j]?=(flatK enc k l.toArray).toList[j]?:=by rw[p,r]
 rw[s,PA,PA,PE f]at m;rw[m,getElem!_pos _ j f];rfl
def oq{m:Nat}{os:Array Obj}{d:List α}(hk:∀x,(enc x).length=k)(h:w.ownsRow B e k (V g 0 n c) n (l.flatMap enc))(hn:n=l.length)(hd:d.length=l.length)(hpos:0<n):
  (sortWorldK enc k w g 0 m d.toArray os).ownsRow B e k (V g 0 n c) n (d.flatMap enc)/\ag (λj=>j=g) w (sortWorldK enc k w g 0 m d.toArray os):=by
 obtain⟨O,H,a,v,y,p,q,z,r,P⟩:=fj h hpos;injection v with b _ A;injection b with b;injection b with b;subst b A;have L:=p.lt;have D:=sC hk d;have N:(flatK enc k d.toArray).size=n*k:=by simp[flatK,hd,hn]
 have F:n*k<=a.size:=by rw[r];exact Pr _ q
 have i:Blk (sortWorldK enc k w g 0 m d.toArray os) g e (putCells id 0 (flatK enc k d.toArray) a):=by
  have s:(putRowK enc k (Sort.ahead w m) g 0 d.toArray).heap[g]?=some (.cells (putCells id 0 (flatK enc k d.toArray) a) e (0,0)):=by
   show((w.heap.modify g (onCells _)))[g]?=_;rw[RO,OB rfl,p];rfl
  have G:=(PX.1 s).1;show((putRowK enc k (Sort.ahead w m) g 0 d.toArray).heap++os)[g]?=_;rw[Array.getElem?_append_left G,s]
 refine⟨lf y i q z (by simpa[putCells]using r) ?_ (by rw[db enc k hk,hd,hn]),rfl,rfl,rfl,?_,λj o t=>?_⟩
 ·refine QI λj=>?_;by_cases o:j<n*k
  ·rw[Pw o,<-D,PA,PA];have u:j<a.size:=zO;have f:j<(flatK enc k d.toArray).size:=zO;simp only[putCells,Array.getElem?_mapIdx,PE u,PT,PE f];rw[OB ⟨OK _,zO⟩,Nat.sub_zero,getElem!_pos _ j f];rfl
  ·rw[Ps zT,Ps (by rw[db enc k hk,hd,<-hn];omega)]
 ·show w.heap.size<=(((w.heap.modify g _))++os).size;simp
 ·show(((w.heap.modify g (onCells _)))++os)[j]?=_;rw[Array.getElem?_append_left (by simpa using o),RO,Oz λe=>t e.symm]
end
end
def iZ(w:World)(o:Obj):(w.alloc o).drew=w.drew.alloc o:=rfl
def iI{P:Program}{s:Nat}{w:World}{o:Oper}{a:Act}{K:Act->World->Prop}{Q:Exit->Act->World->Prop}{t e e':TypeId}{z:Value}{bytes:Nat}(hT:cE P t e z s bytes)(hs0:0<s)
  (sl x:Operand)(ho:o.op=.call {callee:=.builtin .append,args:=#[sl,x],argTypes:=#[t,t]})
  {v:Value}{n B g:Nat}{xs:List Value}(hs:a.eval sl=v)(hm:w.ownsRow B e s v n xs)(hB:B<=w.heap.size)(hg:g=w.heap.size){cs:Array Value}(hx:a.eval x=V g 0 1 1)(hcs:cs.size=s)(h1:∀u∈cs.toList,u.oneCell'=true)
  (hlen:(n+1)*bytes<=140737488355328)(hle:n+1<=maxLen)
  (h:∀v' w',w'.ownsRow B e s v' (n+1) (xs++cs.toList)->w.grownBy w' v.ownBlock->(v'.ownBlock=v.ownBlock\/∀k,v'.ownBlock=some k->w.heap.size<=k)->K (a.put o.dst v') w'):
  o.wp P a (w.alloc (.cells cs e')) K Q:=by
 subst hg;obtain⟨i,m,p,f,j⟩:=info_parts hT.info;refine dC (w.alloc (.cells cs e')) sl x t ho B e i z s bytes hT.under m p f j hT.cells hs0 v n xs hs (hm.alloc _) _ _ 1 1 cs.toList hx (dD w e' cs s 1 w.heap.size _ zO rfl rfl) h1 hle hlen zT λv' w' q c d=>?_;have hg:w.grownBy w' v.ownBlock:=⟨c.os,c.tape,c.output,OJ zS c.size,λk b l=>(c.block k zT l).trans (Qh w _ k b)⟩;refine h v' w' q hg ?_
 rcases d with d|d
 ·exact .inl d
 ·refine .inr λk b=>?_;rw[d]at b;injection b with b;simp at b;omega
end Go.Fw
namespace Go.Proofs
open Go.Shelf Go.Fw
def M9:Go.Shelf.Ren:=⟨λ|35=>362|n=>n,λ|22=>36|23=>58|3=>3|4=>4|0=>0|n=>n,λ|n=>n⟩
def P3:Go.Proofs.SlLaysE0.n35 prog M9:={
 mixed:=by kernel_rfl
 f35:=⟨f362.name,by decide,func362.trans (congrArg some (by kernel_rfl))⟩
 t0:=underlying0
 a0:=isAgg0
 z0:=sizeOf0
 v0:=zeroValue0
 t3:=underlying3
 a3:=isAgg3
 z3:=sizeOf3
 v3:=zeroValue3
 t4:=underlying4
 a4:=isAgg4
 z4:=sizeOf4
 v4:=zeroValue4
 t22:=underlying36
 a22:=isAgg36
 z22:=sizeOf36
 v22:=zeroValue36}
end Go.Proofs
namespace Go.Fw
open Go.RowKit open Go.Proofs hiding intOf
variable {v:Value}{xs:List Value}{g B d:Nat}{cs:Array Value}{w:World}{S:Nat->Prop}{L:List K2}(p q:Nat)
section
open Go.Shelf
instance:Inhabited K2:=⟨⟨0,0⟩⟩
def tM:cE prog 36 58 (.agg #[E 0,E 0]) 2 16:=⟨underlying36,zR,rfl⟩
def IG(l:List K2):∀u∈cG l,u.oneCell'=true:=by
 intro u b;obtain⟨k,_,a⟩:=QU.1 b;simp[K2.cells]at a
 rcases a with rfl|rfl<;>rfl
structure QAt(w:World)(p q B:Nat)(t:TypeId)(cs:Array Value)(vf vb:Value)(f b:List K2):Prop where
 B0:Blk w p t cs
 front:w.ownsRow B 58 2 vf f.length (cG f)
 back:w.ownsRow B 58 2 vb b.length (cG b)
 apart:∀k,vf.ownBlock=some k->vb.ownBlock≠some k
 v0:cs[q]?=some vf
 v1:cs[q+1]?=some vb
 ne:58≠t
section
variable {w w':World} {p q B:Nat} {t:TypeId} {cs:Array Value} {vf vb:Value} {f b:List K2}
def QAt.c0(h:QAt w p q B t cs vf vb f b):w.cell? (Y p q)=some vf:=(h.B0.cell q).trans h.v0
def QAt.c1(h:QAt w p q B t cs vf vb f b):w.cell? (Y p (q+1))=some vb:=(h.B0.cell (q+1)).trans h.v1
def rz{n s:Nat}{e:TypeId}(h:w.ownsRow B e s v n xs)(hk:∀k,v.ownBlock=some k->w'.heap[k]?=w.heap[k]?):w'.ownsRow B e s v n xs:=by
 refine⟨h.1,?_⟩
 rcases h.2 with c|⟨g,a,b,rfl,d,f,i⟩
 ·exact .inl c
 ·exact .inr ⟨g,a,b,rfl,d,(hk g rfl).trans f,i⟩
def QBl(p:Nat)(vf vb:Value)(k:Nat):Prop:=k=p\/vf.ownBlock=some k\/vb.ownBlock=some k
def QAt.D3(h:QAt w p q B t cs vf vb f b)(hk:∀k,QBl p vf vb k->w'.heap[k]?=w.heap[k]?):QAt w' p q B t cs vf vb f b:=
 ⟨(hk p (.inl rfl)).trans h.B0,rz h.front λk e=>hk k (.inr (.inl e)),rz h.back λk e=>hk k (.inr (.inr e)),h.apart,h.v0,h.v1,h.ne⟩
def QAt.lt(h:QAt w p q B t cs vf vb f b):∀k,QBl p vf vb k->k<w.heap.size:=by
 rintro k (rfl|a|a)
 ·exact h.B0.lt
 ·exact(h.front.lt k a).2
 ·exact(h.back.lt k a).2
def QAt.up(h:QAt w p q B t cs vf vb f b)(hb:M w w'):QAt w' p q B t cs vf vb f b:=h.D3 λk a=>hb.block k (h.lt k a)
def QAt.drew(h:QAt w p q B t cs vf vb f b):QAt w.drew p q B t cs vf vb f b:=h.D3 λ_ _=>rfl
end
structure dE(w:World)(p q B:Nat)(t:TypeId)(cs:Array Value)(S:Nat->Prop)(L:List K2):Prop where
 ex:∃vf vb f b,QAt w p q B t cs vf vb f b/\L=f.reverse++b/\(∀k,vf.ownBlock=some k->S k)/\∀k,vb.ownBlock=some k->S k
def Nh(w w':World)(p q B:Nat)(t:TypeId)(cs:Array Value)(S:Nat->Prop)(L:List K2):Prop:=
 ∃cs',dE w' p q B t cs' (λk=>S k\/w.heap.size<=k) L/\bF q 2 cs cs'/\ag (λk=>k=p\/S k) w w'
def rA(p q B:Nat)(t:TypeId)(cs:Array Value)(S:Nat->Prop)(L:List K2)(w:World)(h:dE w p q B t cs S L)(hl:L.length<=100000):C 356 #[Z p q] w λe w'=>e=.returned (I (L.length:Int))/\w.drew=w':=by
 obtain⟨g,i,f,b,a,rfl,_⟩:=h.ex;have j:=a.c0;have k:=a.c1;obtain⟨l,m,rfl,_,_⟩:=ak a.front;obtain⟨n,r,rfl,_,_⟩:=ak a.back;have s:=Z1 a;have c:IntKind.i64.wrap ((f.length:Int)+(b.length:Int))=(((f.reverse++b).length:Nat):Int):=by
  simp at hl ⊢;rw[IntWalk.i64_in _ ⟨zO,zO⟩]
 have d:=Z1 c;clear a hl c h
 go_in
 go_wp2;refine cM zR zR ?_;repeat still_step
 refine wpStill_nil ?_;go_wp2;go_ret;exact⟨by rw[d.o];rfl,rfl⟩
def IH(B:Nat)(v:Value)(xs:List K2)(w:World)(h:w.ownsRow B 58 2 v xs.length (cG xs))(hn:xs.length<=100000):
  C 362 #[v] w λe w'=>e=.returned (.tuple #[])/\w'.ownsRow B 58 2 v xs.length (cG xs.reverse)/\ag (λk=>v.ownBlock=some k) w w':=by
 rcases PR xs.length with b|b
 ·obtain⟨A,c,rfl,_,_⟩:=ak h;have f:=OU b;subst f;have a:=AnyQ.slices_Reverse_empty (P:=prog) P3 A c w;change C 362 _ _ _ at a;refine zl a ?_;exact⟨rfl,h,ag.refl _ _⟩
 ·obtain⟨A,c,rfl,p,q⟩:=ak h;obtain⟨g,r,s,i,_⟩:=fj h b;injection i with j _ _;subst j;have l:=(pz (k:=2) K2.C2 h rfl b).1;have a:=AnyQ.slices_Reverse (P:=prog) P3 2 (λw=>zR) (λw=>zR) K2.cells K2.C2 (λx u n=>IG [x] u (by simpa[cG]using n)) g 0 c xs.toArray w l zT;change C 362 _ _ _ at a;refine a.mono ?_;rintro e w' ⟨rfl,m,rfl⟩;have:=oq (m:=m) (os:=#[]) (d:=xs.reverse) (k:=2) K2.C2 h rfl zS b;unfold sortWorldK at this;rw[Sort.grow_empty]at this;rw[show xs.reverse.toArray=xs.toArray.reverse by simp]at this;exact⟨rfl,this.1,this.2.C3 λk o=>by rw[o];rfl⟩
def rB(p q B:Nat)(t:TypeId)(cs:Array Value)(S:Nat->Prop)(L:List K2)(x:K2)(w:World)(h:dE w p q B t cs S L)(hB:B<=w.heap.size)(hl:L.length<=100000):
  C 296 #[Z p q,x.val] w λe w'=>e=.returned (.bool true)/\Nh w w' p q B t cs S (L++[x]):=by
 obtain⟨vf,r,f,b,l,rfl,af,ah⟩:=h.ex;obtain⟨i,g⟩:∃f:Nat->Prop,∀j,f j↔r.ownBlock=some j:=⟨_,λ_=>Iff.rfl⟩;have s:=Z1 g;have a6:b.length<=100000:=by simp at hl;omega
 have H:¬i p:=λe=>aB l.back l.B0 l.ne ((g p).1 e);have ai:∀j,i j->j<w.heap.size:=λj u=>(l.back.lt j ((g j).1 u)).2;obtain⟨Ab,cb,rfl,_,_⟩:=ak l.back;obtain⟨D,F⟩:=x;have N:=zh w (.cells #[E D,E F] 58);have aj:=l.up N;have al:=Blk.A8 w 58 #[E D,E F] rfl;have c:=Z6 aj al af ah N l;have O:¬i w.heap.size:=λe=>by have:=ai _ e;omega
 unfold K2.val K2.arr;simp only
 go_in
 go_wp2;generalize a7:w.alloc (.cells #[E D,E F] 58)=W at*;have am:=c.o.1.B0.lt;have y:=c.o.2.1.lt;have c1:=c.o.1.c1;obtain⟨d0,d1⟩:=ao c.o.2.1;generalize ab:w.heap.size=r at*;have an:=Z1 ab;have hS:=(ag.refl i W).drew;refine bW 8 (S:=λV=>ag i W V) zR zR hS ?_;simp only[OM,OO,ON,OQ];try simp only[zD,zE,Nat.reduceAdd,zG]
 refine zL ?_;refine zq 4 ?_ (λW hW=>?_) ?_;rotate_left
 ·have q0:=(OI (a:=Y p (q+1)) (hW.block p am H)).trans c1;exact zf
 refine zq 5 ?_ (λW hW=>?_) ?_;rotate_left
 ·have q0:=(OI (a:=Y r 0) (hW.block r y O)).trans d0;have q1:=(OI (a:=Y r 1) (hW.block r y O)).trans d1;exact zf
 refine zo 6 λK hK=>?_;go_simp;refine zJ hK (hS.alloc _) ?_;refine zo 7 λK hK=>?_;try simp only[iZ]
 refine iI (w:=W.drew) (n:=b.length) (xs:=cG b) (B:=B) (v:=.slice Ab b.length cb) tM zP (.tmp 11) (.tmp 13) rfl zF c.o.1.drew.back (OJ hB (RD y)) rfl zF rfl zV zO zU ?_;intro v' w' P Q ap;obtain⟨A3,k3,rfl,_,_⟩:=ak P;have z:=dl hS Q (λ_ h=>h) λj u=>(s.o j).2 u;have d:=z.B0 c.o.1.B0 H;have H4:=Z5 d P ap Q z;have g1:=(d.cell (q+1)).trans c.o.1.v1;have gf:=d.frozen (q+1);refine zJ hK z ?_;rw[bI];go_wp2;go_ret;obtain⟨d,R,A,_,T⟩:=H4.o;have U:=c.o.1.apart;have X:=rz c.o.1.front λk G=>T.block k (c.o.1.lt k (.inr (.inl G))) λe=>U k G ((s.o k).1 e);have aq:=aB R d c.o.1.ne;have ar:=aB X d c.o.1.ne;have aa:=an.o;refine⟨rfl,cs.setIfInBounds (q+1) (.slice A3 (b.length+1) k3),⟨vf,.slice A3 (b.length+1) k3,f,b++[⟨D,F⟩],⟨d.B4 (q+1) _,bA (p:=Y p (q+1)) X ar _,?_,?_,(bf zO _).trans c.o.1.v0,cP c.o.1.v1 _,c.o.1.ne⟩,zS,λk G=>.inl (c.o.2.2.1 k G),?_⟩,(bF.refl q 2 cs).B4 zO zO _,?_⟩
 ·have:=bA (p:=Y p (q+1)) R aq (.slice A3 (b.length+1) k3);simpa[cG,K2.cells]using this
 ·intro k e e2
  rcases A with m|m
  ·exact U k e (m.symm.trans e2)
  ·have h5:=m k e2;have h6:=c.o.1.lt k (.inr (.inl e));exact absurd h6 (by show ¬k<W.heap.size;have:W.heap.size<=k:=h5;omega)
 ·intro k e
  rcases A with m|m
  ·exact .inl (c.o.2.2.2.1 k (m.symm.trans e))
  ·refine .inr ?_;have h5:W.heap.size<=k:=m k e;rw[aa];omega
 ·have aw:ag (λk=>k=p\/S k) w W:=by
   have:=c.o.2.2.2.2.1;rw[<-aa]at this;exact ag.B5 this
  exact(aw.trans (T.C3 λj u=>.inr (c.o.2.2.2.1 j ((s.o j).1 u)))).setCell (p:=Y p (q+1)) (.inl (.inl rfl)) _
def EG(p q B:Nat)(t:TypeId)(cs:Array Value)(vf vb:Value)(f b:List K2)(w:World)(h:QAt w p q B t cs vf vb f b)(hl:f.length+b.length<=100000):
  C 360 #[Z p q] w λe w'=>(∃v,e=.returned v)/\∃cs' vf' vb' f' b',QAt w' p q B t cs' vf' vb' f' b'/\f'.reverse++b'=f.reverse++b/\(f'=[]->f=[]/\b=[])/\bF q 2 cs cs'/\ag (QBl p vf vb) w w'/\∀k,QBl p vf' vb' k->QBl p vf vb k:=by
 have N:=h.c0;have O:=h.c1;have P:=h.B0.frozen q;have Q:=h.B0.frozen (q+1);obtain⟨D,F,rfl,_,_⟩:=ak h.front;obtain⟨a,c,n,_,_⟩:=ak h.back;subst n;have g:=Z1 h;by_cases r:f.length=0
 ·have s:=OU r;subst s;have d:=aB h.back h.B0 h.ne;have u:=(h.B0.B4 q (.slice a b.length c)).B4 (q+1) (.slice none 0 0);have x:=bA (p:=Y p (q+1)) (bA (p:=Y p q) h.back d (.slice a b.length c)) d (.slice none 0 0);have y:ag (QBl p (.slice D 0 F) (.slice a b.length c)) w ((w.setCell (Y p q) (.slice a b.length c)).setCell (Y p (q+1)) (.slice none 0 0)):=((ag.refl _ w).setCell (p:=Y p q) (.inl (.inl rfl)) _).setCell (p:=Y p (q+1)) (.inl (.inl rfl)) _;have j:=IH B (.slice a b.length c) b _ x (by simp at hl;omega);have l:=Z3 u y j;have z:=Z1 d
  go_in
  go_wp2_with fail;refine l.o.2.2.mono ?_;rintro e w' ⟨rfl,G,H⟩;have m:=Z2 G H;go_wp2
  go_end0
  refine⟨⟨_,rfl⟩,_,.slice a b.length c,.slice none 0 0,b.reverse,[],⟨m.o.2.B0 l.o.1 (λe=>z.o e),by simpa using m.o.1,Pn _ _ _ _,λk _ e=>by simp[Value.ownBlock]at e,(bf zO _).trans (cP g.o.v0 _),cP ((bf zO _).trans g.o.v1) _,g.o.ne⟩,zS,λe=>by simp at e;simp[e],((bF.refl q 2 cs).B4 (i:=q) zO zO _).B4 (i:=q+1) zO zO _,l.o.2.1.trans (m.o.2.C3 λk e=>.inr (.inr e)),?_⟩;rintro k (rfl|e|e)
  ·exact .inl rfl
  ·exact .inr (.inr e)
  ·simp[Value.ownBlock]at e
 ·have L:((f.length:Int)==0)=false:=by rw[beq_eq_false_iff_ne];omega
  have A:=r
  go_in
  go_wp2
  go_end0
  exact⟨⟨_,rfl⟩,cs,_,_,f,b,g.o,rfl,λe=>(A (by rw[e];rfl)).elim,bF.refl _ _ _,ag.refl _ _,λk e=>e⟩
def Cu(w:World)(g:Nat)(hg:g=w.heap.size):Blk (w.alloc (.cells #[E 0,E 0] 58)) g 58 #[E 0,E 0]:=Blk.A8 w _ _ hg
def Cv(p q B:Nat)(t:TypeId)(cs:Array Value)(S:Nat->Prop)(w:World)(h:dE w p q B t cs S []):C 355 #[Z p q] w (J (.tuple #[K2.val ⟨0,0⟩,.bool false]) w):=by
 obtain⟨m,n,f,b,d,g,i,j⟩:=h.ex;have a:=ae (zh w (.cells #[E 0,E 0] 58)) (.cells #[E 0,E 0] 58);have k:=(Cu w _ rfl).alloc (.cells #[E 0,E 0] 58);have l:=rA p q B t cs S [] _ ⟨⟨m,n,f,b,d.up a,g,i,j⟩⟩ zS;have c:=Z3 l a k.drew;clear l a d g i j h k
 go_in
 go_wp2_with fail;refine c.o.1.mono ?_;rintro e w' ⟨rfl,rfl⟩;go_wp2;exact OH (cx lj rfl c.o.2.2 rfl _ rfl) rfl ⟨rfl,c.o.2.1.drew⟩
def Cw{w:World}{B g n m c:Nat}{l:List K2}(h:w.ownsRow B 58 2 (V g 0 n c) n (cG l))(hn:n=l.length)(hm:m<=n):w.ownsRow B 58 2 (V g 0 m c) m (cG (l.take m)):=by
 rcases PR n with b|b
 ·obtain rfl:m=n:=zO
  rwa [OT zO]
 obtain⟨s,q,r,d,e,f,t,i,j,k⟩:=fj h b;injection d with a _ o;injection a with a;injection a with a;subst a o;refine lf e f zO i j ?_ (by rw[qH];simp;omega);have p:cG (l.take m)=(cG l).take (m*2):=by
  have:cG l=cG (l.take m)++cG (l.drop m):=by
   unfold cG;rw[<-List.flatMap_append,Qr]
  rw[this,QG (by rw[qH];simp;omega)]
 rw[p,<-k,Sf];congr 1;omega
def II(p q B:Nat)(t:TypeId)(cs:Array Value)(S:Nat->Prop)(x:K2)(L:List K2)(w:World)(h:dE w p q B t cs S (x::L))(hl:(x::L).length<=100000):
  Calls prog 355 #[.pointer (some ⟨p,q,none⟩)] w λe w'=>e=.returned (.tuple #[x.val,.bool true])/\Nh w w' p q B t cs S L:=by
 have hz:((((x::L).length:Nat):Int)==0)=false:=by rw[beq_eq_false_iff_ne];simp;omega
 generalize ai:(x::L).length=n at hz;have bn:=Z1 ai;have bv:=Z1 hl;obtain⟨vf,vb,f,b,hq,he,h1,h2⟩:=h.ex;have aj:=ae (ae (Oy w.heap.size w) (.cells #[.int .u64 0,.int .u64 0] 58)) (.cells #[.int .u64 0,.int .u64 0] 58);have al:=(Cu w _ rfl).alloc (.cells #[.int .u64 0,.int .u64 0] 58);have O:=hq.up aj;have hh:=rA p q B t cs S (x::L) _ ⟨⟨vf,vb,f,b,O,he,h1,h2⟩⟩ hl;have a4:f.length+b.length<=100000:=by have:=congrArg List.length he;simp at*;omega
 have a5:=EG p q B t cs vf vb f b _ O.drew a4;have G:=Z9 hh aj al a5 O he h1 h2 hq;clear hh aj hq he h1 h2 h al ai hl O a5 a4
 go_in
 go_wp2_with fail;refine G.o.1.mono ?_;rintro e w' ⟨rfl,rfl⟩;rw[bn.o];go_wp2_with fail;refine G.o.2.2.2.1.mono ?_;rintro e d ⟨⟨v1,rfl⟩,cp,cq,am,c,b',a,ap,a6,P,z,A⟩;have Q:=G.o.2.2.2.2.2.1;have a7:c≠[]:=λe=>by
  obtain⟨rfl,rfl⟩:=a6 e;simp at Q
 have aq:=Sa.2 a7;obtain⟨m,hm⟩:∃m,c.length=m+1:=⟨c.length-1,by omega⟩;have ar:m<c.length:=by omega
 have cr:m<=100000:=by have:=congrArg List.length ap;have:=congrArg List.length Q;have:=bv.o;simp at*;omega
 have a8:c=c.take m++[c[m]]:=by
  conv=>lhs;rw[<-Qr m c,Pu ar,Pt (by omega)]
 have b0:x::L=c[m]::((c.take m).reverse++b'):=by
  have b1:c.reverse=c[m]::(c.take m).reverse:=by
   conv=>lhs;rw[a8]
   rw[List.reverse_append];rfl
  rw[Q,<-ap,b1];rfl
 injection b0 with a9 R;obtain⟨Af,i,rfl,b2,b3⟩:=ak a.front;obtain⟨l,o,rfl,b4,T⟩:=(an.C4 a.front).elem (k:=m) K2.C2 (by decide) rfl ar;obtain⟨g,c9,ct,b5,_⟩:=fj a.front aq;injection b5 with hA _ hC;injection hA with hA;injection hA with b6 b7 _;subst b6 b7 hC;rw[<-a9]at T;have r0:=T 0 _ rfl;have r1:=T 1 _ rfl;simp only[PS,Qt]at r0 r1;have ba:=Cw (m:=m) a.front rfl (by omega);have c0:=a.c0;have f0:=a.B0.frozen q;have U:=aB a.back a.B0 a.ne;have X:=aB a.front a.B0 a.ne;have u:(c.take m).length=m:=by simp;omega
 have bb:=z.B0 G.o.2.2.1 (by
  intro e;have h9:=G.o.2.2.2.2.2.2.2.2.lt;have:=h9 _ e;omega)
 have bc:=a.B0.lt;have bd:=b4;rw[hm]at c0 b2;have HM:=Z1 hm;have H:=Z9 z A R ba a P u bb (And.intro U X);have cu:IntKind.i64.wrap (((m+1:Nat):Int)-1)=(m:Int):=by rw[IntWalk.i64_in _ ⟨by omega,by omega⟩];omega
 have cv:IntKind.i64.wrap (m:Int)=(m:Int):=IntWalk.i64_in _ ⟨by omega,by omega⟩;have ck:(m:Int)<(m:Int)+1:=by omega
 have cw:(m:Int)<=(i:Int):=by omega
 obtain⟨v,y⟩:=x;simp only at r0 r1;clear z A a9 R ba P U X ap a6 a7 aq a8 Q ar u hm bb T b3;go_wp2;have hS:=(Oy d.heap.size d).drew;refine ay (S:=λV=>Below d.heap.size d V) (by kernel_rfl) hS ?_;simp only[zD,zE,Nat.reduceAdd,zG];refine zp 0 ?_;refine zp 1 ?_;refine zp 2 ?_;refine zq 3 ?_ (λW hW=>?_) ?_;rotate_left
 ·have q0:=(OF hW (p:=⟨p,q,none⟩) bc).trans c0;exact zf
 refine zp 4 ?_;refine zp 5 ?_;refine zp 6 ?_;refine zq 7 ?_ (λW hW=>?_) ?_;rotate_left
 ·have q0:=(OF hW (p:=⟨p,q,none⟩) bc).trans c0;exact zf
 refine zp 8 ?_;refine zp 9 ?_;refine zp 10 ?_;refine zq 11 ?_ (λW hW=>?_) ?_;rotate_left
 ·have q0:=(OF hW (p:=⟨l,m*2,none⟩) bd).trans r0;have q1:=(OF hW (p:=⟨l,m*2+1,none⟩) bd).trans r1;exact zf
 refine zo 12 λK hK=>?_;go_simp;have D:=ae hS (.cells #[.int .u64 0,.int .u64 0] 58);refine hK _ _ D ?_;clear hK;refine zn ?_;refine zo 13 λK hK=>?_;go_simp;refine hK _ _ (ae hS (.cells #[.int .u64 v,.int .u64 y] 58)) ?_;clear hK;refine zn ?_;refine zd ?_;have F:Below d.heap.size d (d.alloc (.cells #[.int .u64 v,.int .u64 y] 58)).drew:=(ae (Oy _ d) _).drew;have be:Blk (d.alloc (.cells #[.int .u64 v,.int .u64 y] 58)).drew d.heap.size 58 #[.int .u64 v,.int .u64 y]:=(Blk.A8 d _ _ rfl).drew;have aa:=H.o.2.2.2.2.1.up F;have bh:=H.o.2.2.2.2.2.2.2.1.later F;have bi:=aN H.o.2.2.2.1 F;have e0:=aa.c0;rw[HM.o]at e0;have e1:=aa.B0.frozen q;have al:=H.o.2.2.2.2.2.2.2.1.lt;have b9:p≠d.heap.size:=by omega
 have au:p≠w.heap.size:=by
  have h9:=G.o.2.2.2.2.2.2.2.2.lt;have:=h9 p (.inl rfl);omega
 have HG:=Z5 F be aa bh bi;clear be aa bh bi F c0 f0 r0 r1 hS;generalize bj:d.heap.size=v5 at*;have ca:=Z1 bj;clear bj;generalize (d.alloc (.cells #[.int .u64 v,.int .u64 y] 58)).drew=W at*;go_wp2;refine aY 12 (by kernel_rfl) (by kernel_rfl) ?_;simp only[OM,OO,ON,OQ];have cy:m<=i:=by omega
 repeat still_step
 refine wpStill_nil ?_;go_upto_region 7 with fail
 have bk:=(HG.o.2.1.D1 (p:=⟨p,q,none⟩) (Pc b9) (.slice (some ⟨l,0,none⟩) m i)).drew;have r:=(HG.o.2.2.2.1.D1 (p:=⟨p,q,none⟩) (Pc au) (.slice (some ⟨l,0,none⟩) m i)).drew;have ab:=(HG.o.2.2.1.B0.B4 q (.slice (some ⟨l,0,none⟩) m i)).drew;have ac:=(bA (p:=⟨p,q,none⟩) HG.o.2.2.2.2 (λe=>H.o.2.2.2.2.2.2.2.2.2 e) (.slice (some ⟨l,0,none⟩) m i)).drew;have ad:(World.setCell W ⟨p,q,none⟩ (.slice (some ⟨l,0,none⟩) m i)).drew.ownsRow B 58 2 am b'.length (cG b'):=(bA (p:=⟨p,q,none⟩) HG.o.2.2.1.back H.o.2.2.2.2.2.2.2.2.1 (.slice (some ⟨l,0,none⟩) m i));have af:ag (λj=>j=p) W (World.setCell W ⟨p,q,none⟩ (.slice (some ⟨l,0,none⟩) m i)).drew:=((ag.refl (λj=>j=p) W).setCell (p:=⟨p,q,none⟩) (.inl rfl) _).drew;generalize (World.setCell W ⟨p,q,none⟩ (.slice (some ⟨l,0,none⟩) m i)).drew=V at*;have H6:=Z5 ab ac ad af r;obtain⟨d0,d1⟩:=ao bk;obtain⟨z0,z1⟩:=ao r;have cz:=r.frozen 0;have c1:=r.frozen 1;clear bk r ab ac ad af;go_wp2;obtain⟨z,A,R,_,a,P,u,_,U,X⟩:=H.o;obtain⟨ab,ac,ad,af,r⟩:=H6.o;obtain⟨_,cb,_,_,_,_,av,D,bl⟩:=G.o;have aw:∀k,(Value.slice (some ⟨l,0,none⟩) m i).ownBlock=some k->S k/\k<w.heap.size:=λk s=>by
  have bm:(Value.slice (some ⟨l,0,none⟩) c.length i).ownBlock=some k:=s;have:=A k (.inr (.inl bm));refine⟨?_,bl.lt k this⟩
  rcases this with rfl|e|e
  ·exact absurd bm X
  ·exact av k e
  ·exact D k e
 have N:∀k,am.ownBlock=some k->S k/\k<w.heap.size:=λk s=>by
  have:=A k (.inr (.inr s));refine⟨?_,bl.lt k this⟩
  rcases this with rfl|e|e
  ·exact absurd s U
  ·exact av k e
  ·exact D k e
 have cc:=(r.B4 0 (.int .u64 v)).B4 1 (.int .u64 y);have cd:=bA (p:=⟨w.heap.size,1,none⟩) (bA (p:=⟨w.heap.size,0,none⟩) ac (λe=>absurd (aw _ e).2 (Qn _)) (.int .u64 v)) (λe=>absurd (aw _ e).2 (Qn _)) (.int .u64 y);have ce:=bA (p:=⟨w.heap.size,1,none⟩) (bA (p:=⟨w.heap.size,0,none⟩) ad (λe=>absurd (N _ e).2 (Qn _)) (.int .u64 v)) (λe=>absurd (N _ e).2 (Qn _)) (.int .u64 y);have bu:(c.take m).length=m:=u;refine OH (cx lj rfl (cs:=K2.arr ⟨v,y⟩) cc rfl _ rfl) rfl ⟨rfl,_,⟨.slice (some ⟨l,0,none⟩) m i,am,c.take m,b',⟨(ab.D1 (p:=⟨w.heap.size,0,none⟩) au _).D1 (p:=⟨w.heap.size,1,none⟩) au _,by rw[bu];exact cd,ce,a.apart,cP a.v0 _,(bf (by omega) _).trans a.v1,a.ne⟩,R,λk s=>.inl (aw k s).1,λk s=>.inl (N k s).1⟩,P.B4 (OA _) (by omega) _,?_⟩;have k1:ag (λk=>k=p\/S k) w d:=((ag.B5 cb).drew).trans (z.C3 λk s=>by
  rcases s with e|e|e
  ·exact .inl e
  ·exact .inr (av k e)
  ·exact .inr (D k e))
 have k2:ag (λk=>k=p\/S k) d W:=ag.B5 (by have:=HG.o.1;rwa [<-ca.o]at this);exact((((k1.trans k2).trans (af.C3 λk e=>.inl e)).setCell (p:=⟨w.heap.size,0,none⟩) (.inr (OA _)) _).setCell (p:=⟨w.heap.size,1,none⟩) (.inr (OA _)) _)
end
section
variable {P:Program} {k:TypeId} {κ:Type} {enc:κ→Lit} {E3:κ→Prop} {w w':World} {b:Nat} {l:List (κ×Value)}
def aw.C9(h:aw P k enc E3 w b l){t:TypeId}(hb:Blk w g t cs):b≠g:=by
 rintro rfl;obtain⟨⟨d,⟨e,a,c,_⟩,_⟩,_,_⟩:=h;unfold Blk at hb;rw[c]at hb
 cases hb
def aw.E7(h:aw P k enc E3 w b l){s n:Nat}{e:TypeId}(ho:w.ownsRow B e s v n xs):v.ownBlock≠some b:=by
 intro a
 rcases ho.2 with⟨rfl,_⟩|⟨g,f,c,rfl,_,d,_⟩
 ·cases a
 ·have:b=g:=by simpa[Value.ownBlock]using a.symm
  exact h.C9 (g:=g) (t:=e) (cs:=c) d this
end
structure Qm.E5(x:Qm):Prop where
 line:x.line.length<=1000
 C5:x.C5.length<=1000
 busy:x.busy.length<=1000
def jQ(l:List K2):List (K2×Value):=l.map λk=>(k,I 1)
def IK(l:List K2)(k:K2):ap (jQ l) k=if k∈l then some (I 1)else none:=by
 induction l with
 |nil=>simp[jQ,ap]
 |cons x r ih=>
  unfold jQ at*;by_cases h:x=k
  ·simp[ap,h]
  ·simp only[Pi,ap,Oz h,ih,Pj,Pc h,false_or]
def EJ(l:List K2)(k:K2):(ap (jQ l) k).getD (I 0)=I (if k∈l then 1 else 0):=by
 rw[IK];split<;>rfl
def rD(l:List K2)(k:K2):aR (jQ l) k (I 1)=jQ (fu l k):=by
 induction l with
 |nil=>simp[jQ,aR,fu]
 |cons x r ih=>
  unfold jQ at*;by_cases h:x=k
  ·simp[aR,fu,h]
  ·simp only[Pi,aR,Oz h,ih];unfold fu;simp only[Pj,Pc h,false_or];split<;>simp
def wY(l:List K2)(k:K2):ft (jQ l) k=jQ (ib l k):=by
 unfold jQ ft ib;rw[Rk];rfl
def nk(l:List K2):(jQ l).length=l.length:=by simp[jQ]
abbrev bD(w:World)(b:Nat)(l:List K2):Prop:=aw prog 58 lO K2.ok w b (jQ l)
def bD.drew{w:World}{b:Nat}{l:List K2}(h:bD w b l):bD w.drew b l:=aw.D3 h rfl
def wZ(w:World):(zeroValue 3).run prog w=.ok (I 0) w:=zR
def bD.look{w:World}{b:Nat}{l:List K2}(h:bD w b l){k0 k1:Int}(hk:K2.ok ⟨k0,k1⟩):
  (Instr.lookup 161 (.map (some b)) (.agg #[E k0,E k1]) false).run prog w=.ok (I (if(⟨k0,k1⟩:K2)∈l then 1 else 0)) w:=by
 have:=aw.look h jO underlying161 (wZ w) hk;rw[EJ]at this;exact this
def EK(k0 k1:Int)(hk:K2.ok ⟨k0,k1⟩)(w:World):(Instr.lookup 161 (.map none) (.agg #[E k0,E k1]) false).run prog w=.ok (I 0) w:=by
 have:=Maps.look_nil (P:=prog) (w:=w) (t:=161) false qf underlying161 (wZ w) (nI ⟨k0,k1⟩ hk);simpa[K2.val,K2.arr]using this
def dE.D3{w w':World}{p q B:Nat}{t:TypeId}{cs:Array Value}{S:Nat->Prop}{L:List K2}(h:dE w p q B t cs S L){d:Nat}{m:List (K2×Value)}(hd:aw prog 58 lO K2.ok w d m)(hK:ag (λj=>j=d) w w'):dE w' p q B t cs S L:=by
 obtain⟨g,i,f,b,c,l,n,o⟩:=h.ex;refine⟨g,i,f,b,c.D3 λk a=>hK.block k (c.lt k a) λe=>?_,l,n,o⟩
 rcases a with rfl|a|a
 ·exact hd.C9 c.B0 e.symm
 ·exact hd.E7 c.front (by rw[a,e])
 ·exact hd.E7 c.back (by rw[a,e])
def dE.drew{w:World}{p q B:Nat}{t:TypeId}{cs:Array Value}{S:Nat->Prop}{L:List K2}(h:dE w p q B t cs S L):dE w.drew p q B t cs S L:=by
 obtain⟨a,c,f,b,d,e,g,i⟩:=h.ex;exact⟨a,c,f,b,d.drew,e,g,i⟩
def dE.up{w w':World}{p q B:Nat}{t:TypeId}{cs:Array Value}{S:Nat->Prop}{L:List K2}(h:dE w p q B t cs S L)(hb:M w w'):dE w' p q B t cs S L:=by
 obtain⟨a,c,f,b,d,e,g,i⟩:=h.ex;exact⟨a,c,f,b,d.up hb,e,g,i⟩
def dE.more{w:World}{p q B:Nat}{t:TypeId}{cs:Array Value}{S S':Nat->Prop}{L:List K2}(h:dE w p q B t cs S L)(hs:∀k,S k->S' k):dE w p q B t cs S' L:=by
 obtain⟨c,d,f,b,e,g,i,j⟩:=h.ex;exact⟨c,d,f,b,e,g,λk a=>hs k (i k a),λk a=>hs k (j k a)⟩
def dE.B0{w:World}{p q B:Nat}{t:TypeId}{cs:Array Value}{S:Nat->Prop}{L:List K2}(h:dE w p q B t cs S L):Blk w p t cs:=by
 obtain⟨c,d,f,b,a,_⟩:=h.ex;exact a.B0
def dE.cell{w:World}{p q B:Nat}{t:TypeId}{cs:Array Value}{S:Nat->Prop}{L:List K2}(h:dE w p q B t cs S L){i:Nat}(hi:i<q\/q+2<=i)(v:Value):dE (w.setCell (Y p i) v) p q B t (cs.setIfInBounds i v) S L:=by
 obtain⟨c,d,f,b,a,e,g,j⟩:=h.ex;exact⟨c,d,f,b,⟨a.B0.B4 i v,bA (p:=Y p i) a.front (aB a.front a.B0 a.ne) v,bA (p:=Y p i) a.back (aB a.back a.B0 a.ne) v,a.apart,(bf zO v).trans a.v0,(bf zO v).trans a.v1,a.ne⟩,e,g,j⟩
structure gq(w:World)(p q:Nat)(t:TypeId)(cs:Array Value)(S:Nat->Prop)(x:Qm):Prop where
 line:dE w p q 0 t cs S x.line
 over:cs[q+4]?=some (.bool x.over)
 maps:(cs[q+2]?=some (.map none)/\cs[q+3]?=some (.map none)/\x.C5=[]/\x.busy=[])\/
  (∃d b,cs[q+2]?=some (.map (some d))/\cs[q+3]?=some (.map (some b))/\d≠b/\S d/\S b/\bD w d x.C5/\bD w b x.busy)
 ok:∀k∈x.line,k.ok
def lP(w w':World)(p q:Nat)(t:TypeId)(cs:Array Value)(S:Nat->Prop)(x:Qm):Prop:=
 ∃cs',gq w' p q t cs' (λk=>S k\/w.heap.size<=k) x/\bF q 5 cs cs'/\ag (λk=>k=p\/S k) w w'
def gq.up{w w':World}{p q:Nat}{t:TypeId}{cs:Array Value}{S:Nat->Prop}{x:Qm}(h:gq w p q t cs S x)(hb:M w w'):gq w' p q t cs S x:=
 ⟨h.line.up hb,h.over,h.maps.imp id λ⟨d,b,a,c,e,f,g,i,j⟩=>⟨d,b,a,c,e,f,g,aw.up i hb,aw.up j hb⟩,h.ok⟩
def gq.more{w:World}{p q:Nat}{t:TypeId}{cs:Array Value}{S S':Nat->Prop}{x:Qm}(h:gq w p q t cs S x)(hs:∀k,S k->S' k):gq w p q t cs S' x:=
 ⟨h.line.more hs,h.over,h.maps.imp id λ⟨d,b,a,c,e,f,g,i,j⟩=>⟨d,b,a,c,e,hs _ f,hs _ g,i,j⟩,h.ok⟩
def gq.same{w w':World}{p q:Nat}{t:TypeId}{cs:Array Value}{S:Nat->Prop}{x:Qm}(h:gq w p q t cs S x)(hb:M w w'):lP w w' p q t cs S x:=
 ⟨cs,(h.up hb).more λ_ h=>.inl h,bF.refl _ _ _,ag.B5 hb⟩
def EL(p q:Nat)(t:TypeId)(cs:Array Value)(S:Nat->Prop)(x:Qm)(w:World)(h:gq w p q t cs S x):
  C 283 #[Z p q] w λe w'=>(∃v,e=.returned v)/\lP w w' p q t cs S {x with over:=true}:=by
 have i:=(h.line.B0.cell (q+4)).trans h.over;have n:=h.line.B0.frozen (q+4);have H:=Z1 h;obtain⟨r,s,u,l⟩:=x
 cases l
 ·simp only at i;clear h
  go_in
  go_wp2;go_ret;refine⟨⟨_,rfl⟩,cs.setIfInBounds (q+4) (.bool true),⟨(H.o.line.cell (.inr zO) _).more λ_ h=>.inl h,cP H.o.over _,?_,H.o.ok⟩,(bF.refl q 5 cs).B4 zO zO _,(ag.refl _ w).setCell (p:=Y p (q+4)) (.inl (.inl rfl)) _⟩
  rcases H.o.maps with⟨a,c,f,g⟩|⟨d,b,a,c,f,g,m,j,k⟩
  ·exact .inl ⟨(bf zO _).trans a,(bf zO _).trans c,f,g⟩
  ·exact .inr ⟨d,b,(bf zO _).trans a,(bf zO _).trans c,f,.inl g,.inl m,aw.D3 j (Pd w _ _ d (aw.C9 j H.o.line.B0)),aw.D3 k (Pd w _ _ b (aw.C9 k H.o.line.B0))⟩
 ·simp only at i;clear h
  go_in
  go_wp2;go_ret;exact⟨⟨_,rfl⟩,H.o.same (Oy _ _)⟩
def uG(p q:Nat)(t:TypeId)(cs:Array Value)(S:Nat->Prop)(x:Qm)(w:World)(h:gq w p q t cs S x)(hf:x.E5):
  C 350 #[Z p q] w λe w'=>e=.returned (.bool (x.over&&decide (x.line=[])))/\M w w':=by
 have c:=(h.line.B0.cell (q+4)).trans h.over;have d:=Z1 (rA p q 0 t cs S x.line w h.line (by have:=hf.line;omega));have b:((x.line.length:Int)==0)=decide (x.line=[]):=by
  cases x.line with
  |nil=>rfl
  |cons a r=>simp;omega
 have f:=Z1 b;obtain⟨i,j,k,g⟩:=x
 cases g
 ·simp only at c;clear h b hf
  go_in
  go_wp2;go_ret;exact⟨rfl,Oy _ _⟩
 ·simp only at c d;clear h b hf
  go_in
  go_wp2_with fail;refine d.o.mono ?_;rintro e l ⟨rfl,rfl⟩;go_wp2;go_ret;exact⟨cN (by simpa using f.o),(Oy _ _).drew⟩
def Gl(t:TypeId)(cs:Array Value)(S:Nat->Prop)(x:Qm)(k:K2)(w:World)(h:gq w p q t cs S x)(ho:x.over=true):
  C 278 #[Z p q,k.val] w λe w'=>e=.returned (.bool false)/\lP w w' p q t cs S x:=by
 have a:=zh w (.cells #[E k.hi,E k.lo] 58);have b:=h.up a;have c:=(b.line.B0.cell (q+4)).trans b.over;rw[ho]at c;have H:=Z2 h a;obtain⟨d,f⟩:=k;simp only at c H;unfold K2.val K2.arr;simp only
 go_in
 go_wp2;go_quiet (fail);go_wp2;go_ret;exact⟨rfl,H.o.1.same (fd H.o.2 _)⟩
def Du(t:TypeId)(cs:Array Value)(S:Nat->Prop)(x:Qm)(k:K2)(w:World)(h:gq w p q t cs S x)(hk:k.ok)(ho:x.over=false)(hd:k∈x.C5):
  C 278 #[Z p q,k.val] w λe w'=>e=.returned (.bool false)/\lP w w' p q t cs S x:=by
 have c:=zh w (.cells #[E k.hi,E k.lo] 58);have a:=h.up c;have f:=(a.line.B0.cell (q+4)).trans a.over;rw[ho]at f
 rcases a.maps with⟨_,_,e,_⟩|⟨d,b,i,s,m,n,r,j,u⟩
 ·rw[e]at hd;cases hd
 have l:=(a.line.B0.cell (q+2)).trans i;have H:=Z2 h c;obtain⟨v,y⟩:=k;have g:=bD.look (bD.drew j) hk;rw[OB hd]at g;simp only at f l H g;unfold K2.val K2.arr;simp only
 go_in
 go_wp2;refine cM zR zR ?_;repeat still_step
 refine wpStill_nil ?_;go_wp2;go_ret;exact⟨rfl,H.o.1.same H.o.2.drew⟩
def dE.K8{p q:Nat}{t:TypeId}(h:dE w p q B t cs S L){m:List (K2×Value)}(hd:aw prog 58 lO K2.ok w d m):dE w p q B t cs (λk=>S k/\k≠d) L:=by
 obtain⟨g,i,f,b,c,j,l,n⟩:=h.ex;exact⟨g,i,f,b,c,j,λk a=>⟨l k a,λe=>hd.E7 c.front (by rw[a,e])⟩,λk a=>⟨n k a,λe=>hd.E7 c.back (by rw[a,e])⟩⟩
def gc{p:Nat}{w1 w2:World}(h:ag (λk=>k=p\/S k) w w1)(k:ag (λj=>j=d) w1 w2)(hd:S d\/w.heap.size<=d):ag (λk=>k=p\/S k) w w2:=
 ⟨k.os.trans h.os,k.tape.trans h.tape,k.output.trans h.output,OJ h.size k.size,λj b a=>(k.block j (OV b h.size) λe=>by
  subst e
  rcases hd with hd|hd
  ·exact a (.inr hd)
  ·omega).trans (h.block j b a)⟩
structure xX(w W:World)(p q:Nat)(t:TypeId)(cs cs1:Array Value)(S:Nat->Prop)(x:Qm)(d b vb:Nat)(k0 k1:Int):Prop where
 line:dE W p q 0 t cs1 (λk=>S k\/w.heap.size<=k) x.line
 over:cs1[q+4]?=some (.bool x.over)
 m2:cs1[q+2]?=some (.map (some d))
 m3:cs1[q+3]?=some (.map (some b))
 ne:d≠b
 Sd:S d\/w.heap.size<=d
 Sb:S b\/w.heap.size<=b
 C5:bD W d x.C5
 busy:bD W b x.busy
 ok:∀k∈x.line,k.ok
 box:Blk W vb 58 #[E k0,E k1]
 out:bF q 5 cs cs1
 B7:ag (λk=>k=p\/S k) w W
def xX.o:=@xX.out
def MD(d:Nat)(w:World):(binOp .eql 161 (.map (some d)) (.map none)).run prog w=.ok (.bool false) w:=zR
def xY(w:World):(binOp .eql 161 (.map none) (.map none)).run prog w=.ok (.bool true) w:=zR
def Kc(t:TypeId)(cs:Array Value)(S:Nat->Prop)(x:Qm)(k:K2)(w:World)(h:gq w p q t cs S x)(hf:x.E5)(hk:k.ok)(ho:x.over=false)(hd:k∉x.C5):
  C 278 #[Z p q,k.val] w λe w'=>e=.returned (.bool (x.add k).2)/\lP w w' p q t cs S (x.add k).1:=by
 have X:=zh w (.cells #[E k.hi,E k.lo] 58);have v:=h.up X;have c4:=(v.line.B0.cell (q+4)).trans v.over;rw[ho]at c4;have aq:=Blk.A8 w 58 #[E k.hi,E k.lo] rfl;have bh:=hf.C5;have bi:=hf.line;have HA:Hid (x.add k=if k∈x.busy then({x with C5:=fu x.C5 k},false)else({x with C5:=fu x.C5 k,line:=x.line++[k]},true)):=Z1 (by unfold Qm.add;rw[Oz (λe=>e.elim (λe=>by rw[ho]at e;cases e) hd)]);have b0:=Z1 ho;obtain⟨l,m⟩:=k;have H:=Z4 v aq X hk;have z:=Z1 hk;have H0:=Z1 h;simp only at c4 H HA;unfold K2.val K2.arr;simp only
 rcases v.maps with⟨m2,m3,az,a0⟩|⟨d,b,m2,m3,a1,a4,a5,hD,hB⟩
 ·have c2:=(v.line.B0.cell (q+2)).trans m2;have c3:=(v.line.B0.cell (q+3)).trans m3;have f2:=v.line.B0.frozen (q+2);have f3:=v.line.B0.frozen (q+3);have hl:=EK l m hk;have he:=xY;have b1:=@run_makeMap prog;have A:=Z4 az a0 m2 m3
  go_in
  go_wp2;refine cM zR zR ?_;repeat still_step
  refine wpStill_nil ?_;have U:=H.o.1.up ((Oy _ _).drew);have a8:=H.o.2.2.1.drew;have ar:=H.o.2.1.drew;have HK:=Z1 H.o.2.2.2;generalize (w.alloc (.cells #[E l,E m] 58)).drew=W at*;have c2:=(U.line.B0.cell (q+2)).trans A.o.2.2.1;have c3:=(U.line.B0.cell (q+3)).trans A.o.2.2.2;have hA:=(U.line.B0.alloc (.map #[] 0)).alloc (.map #[] 0);have f2:=hA.frozen (q+2);have f3:=hA.frozen (q+3);have a2:=(hA.cell (q+2)).trans A.o.2.2.1;have a3:=(hA.cell (q+3)).trans A.o.2.2.2;have B:=Z3 U a8 ar;go_upto_region 5 with fail
  have b2:=B.o.1.line.B0.lt;have a9:bD (W.alloc (.map #[] 0)) W.heap.size []:=aw.made_at W rfl;have ba:bD ((W.alloc (.map #[] 0)).alloc (.map #[] 0)) W.heap.size []:=aw.up a9 (ae (Oy _ _) _);have bb:bD ((W.alloc (.map #[] 0)).alloc (.map #[] 0)) (W.heap.size+1) []:=aw.made_at _ zS;have a:Hid (xX w ((((W.alloc (.map #[] 0)).alloc (.map #[] 0)).setCell (Y p (q+2)) (.map (some W.heap.size))).setCell (Y p (q+3)) (.map (some (W.heap.size+1)))) p q t cs
    ((cs.setIfInBounds (q+2) (.map (some W.heap.size))).setIfInBounds (q+3) (.map (some (W.heap.size+1)))) S x W.heap.size (W.heap.size+1) w.heap.size l m):=Z1 {
   line:=(((B.o.1.line.up (ae (ae (Oy _ W) _) _)).cell (.inr zO) _).cell (.inr zO) _).more λ_ h=>.inl h
   over:=(bf zO _).trans ((bf zO _).trans B.o.1.over)
   m2:=(bf zO _).trans (cP A.o.2.2.1 _)
   m3:=cP ((bf zO _).trans A.o.2.2.2) _
   ne:=zO
   Sd:=.inr B.o.2.1.size
   Sb:=.inr (RI B.o.2.1.size)
   C5:=by
    rw[A.o.1];refine aw.D3 ba ((Pd _ _ _ _ ?_).trans (Pd _ _ _ _ ?_))<;>(show W.heap.size≠p;omega)
   busy:=by
    rw[A.o.2.1];refine aw.D3 bb ((Pd _ _ _ _ ?_).trans (Pd _ _ _ _ ?_))<;>(show W.heap.size+1≠p;omega)
   ok:=B.o.1.ok
   box:=by
    have n:w.heap.size≠p:=by
     have:=H0.o.line.B0.lt;omega
    exact(((B.o.2.2.alloc _).alloc _).D1 (p:=Y p (q+2)) n _).D1 (p:=Y p (q+3)) n _
   out:=((bF.refl q 5 cs).B4 zO zO _).B4 zO zO _
   B7:=((((ag.B5 B.o.2.1).alloc _).alloc _).setCell (p:=Y p (q+2)) (.inl (.inl rfl)) _).setCell (p:=Y p (q+3)) (.inl (.inl rfl)) _}
  generalize (cs.setIfInBounds (q+2) (.map (some W.heap.size))).setIfInBounds (q+3) (.map (some (W.heap.size+1)))=D at a;generalize ((((W.alloc (.map #[] 0)).alloc (.map #[] 0)).setCell (Y p (q+2)) (.map (some W.heap.size))).setCell (Y p (q+3)) (.map (some (W.heap.size+1))))=V at*;generalize W.heap.size+1=b at*;generalize W.heap.size=d at*;obtain⟨l1,l2,l3,l4,l5,l6,l7,l8,l9,bc,F,bd,be⟩:=a.o;have c2:=(l1.B0.cell (q+2)).trans l3;obtain⟨d0,d1⟩:=ao F;have G:=bD.drew l8;have ac:=aw.C9 l8 F;refine zb 5 ?_;repeat still_step
  refine wpStill_nil ?_;refine cZ rfl _ _ _ 161 3 rfl jO underlying161 ⟨l,m⟩ z.o (I 1) rfl rfl rfl G (by rw[nk];omega) ?_;intro w2 L r bg;rw[rD]at L;have N:=r.B0 a.o.box.drew (Pc ac);have O:=a.o.line.drew.D3 G r;have P:=aw.B7 (bD.drew a.o.busy) r (Pc a.o.ne);have f:=Z5 L P O r N;have c3:=(O.B0.cell (q+3)).trans a.o.m3;obtain⟨e0,e1⟩:=ao N;have Q:=bD.look (bD.drew P) z.o;go_wp2;by_cases s:(⟨l,m⟩:K2)∈x.busy
  ·rw[OB s]at Q;have y:Hid (x.add ⟨l,m⟩=({x with C5:=fu x.C5 ⟨l,m⟩},false)):=Z1 (by rw[HA.o,OB s]);refine cM zR zR ?_;repeat still_step
   refine wpStill_nil ?_;go_wp2;go_ret;rw[y.o];exact⟨rfl,D,⟨f.o.2.2.1.drew,a.o.over,.inr ⟨d,b,a.o.m2,a.o.m3,a.o.ne,a.o.Sd,a.o.Sb,bD.drew f.o.1,bD.drew f.o.2.1⟩,a.o.ok⟩,a.o.o,(gc a.o.B7.drew f.o.2.2.2.1 a.o.Sd).drew⟩
  ·rw[Oz s]at Q;have y:Hid (x.add ⟨l,m⟩=({x with C5:=fu x.C5 ⟨l,m⟩,line:=x.line++[⟨l,m⟩]},true)):=Z1 (by rw[HA.o,Oz s]);refine cM zR zR ?_;repeat still_step
   refine wpStill_nil ?_;have ad:=(f.o.2.2.1.K8 f.o.1).K8 f.o.2.1;have R:=rB p q 0 t D _ x.line ⟨l,m⟩ w2.drew.drew ad.drew.drew (OK _) zO;have T:=Z1 R;go_wp2;refine zb 4 ?_;repeat still_step
   refine wpStill_nil ?_;go_wp2_with fail;refine T.o.mono ?_;rintro e w3 ⟨rfl,af,ah,u,g⟩;go_wp2;go_ret;rw[y.o];have i:=(gc a.o.B7.drew f.o.2.2.2.1 a.o.Sd).drew.drew;have ai:=i.size;have aj:d≠p:=aw.C9 f.o.1 f.o.2.2.1.B0;have ak:b≠p:=aw.C9 f.o.2.1 f.o.2.2.1.B0;refine⟨rfl,af,⟨ah.more λk hk=>hk.elim (λhk=>hk.1.1) λhk=>.inr (OJ ai hk),(u.2 _ zO).trans a.o.over,.inr ⟨d,b,(u.2 _ zO).trans a.o.m2,(u.2 _ zO).trans a.o.m3,a.o.ne,a.o.Sd,a.o.Sb,aw.B7 (bD.drew (bD.drew f.o.1)) g (λe=>e.elim aj λe=>e.1.2 rfl),aw.B7 (bD.drew (bD.drew f.o.2.1)) g λe=>e.elim ak λe=>e.2 rfl⟩,?_⟩,a.o.o.trans (u.more (OA _) zO),?_⟩
   ·intro k hk
    rcases Po.1 hk with hk|hk
    ·exact a.o.ok k hk
    ·rw[Py.1 hk];exact z.o
   ·refine⟨g.os.trans i.os,g.tape.trans i.tape,g.output.trans i.output,OJ i.size g.size,λj hj n=>(g.block j (OV hj i.size) λe=>?_).trans (i.block j hj n)⟩
    rcases e with e|e
    ·exact n (.inl e)
    ·rcases e.1.1 with e|e
     ·exact n (.inr e)
     ·omega
 ·have c2:=(v.line.B0.cell (q+2)).trans m2;have c3:=(v.line.B0.cell (q+3)).trans m3;have hl:=bD.look (bD.drew hD) hk;rw[Oz hd]at hl;have he:=MD d;have a:Hid (xX w (w.alloc (.cells #[E l,E m] 58)).drew p q t cs cs S x d b w.heap.size l m):=Z1 ⟨(v.line.drew).more λ_ h=>.inl h,v.over,m2,m3,a1,.inl a4,.inl a5,bD.drew hD,bD.drew hB,v.ok,aq.drew,bF.refl _ _ _,(ag.B5 X).drew⟩
  go_in
  go_wp2;refine cM zR zR ?_;repeat still_step
  refine wpStill_nil ?_;go_upto_region 5 with fail
  generalize (w.alloc (.cells #[E l,E m] 58)).drew=V at*;obtain⟨D,rfl⟩:∃c,c=cs:=⟨cs,rfl⟩;obtain⟨l1,l2,l3,l4,l5,l6,l7,l8,l9,bc,F,bd,be⟩:=a.o;have c2:=(l1.B0.cell (q+2)).trans l3;obtain⟨d0,d1⟩:=ao F;have G:=bD.drew l8;have ac:=aw.C9 l8 F;refine zb 5 ?_;repeat still_step
  refine wpStill_nil ?_;refine cZ rfl _ _ _ 161 3 rfl jO underlying161 ⟨l,m⟩ z.o (I 1) rfl rfl rfl G (by rw[nk];omega) ?_;intro w2 L r bg;rw[rD]at L;have N:=r.B0 a.o.box.drew (Pc ac);have O:=a.o.line.drew.D3 G r;have P:=aw.B7 (bD.drew a.o.busy) r (Pc a.o.ne);have f:=Z5 L P O r N;have c3:=(O.B0.cell (q+3)).trans a.o.m3;obtain⟨e0,e1⟩:=ao N;have Q:=bD.look (bD.drew P) z.o;go_wp2;by_cases s:(⟨l,m⟩:K2)∈x.busy
  ·rw[OB s]at Q;have y:Hid (x.add ⟨l,m⟩=({x with C5:=fu x.C5 ⟨l,m⟩},false)):=Z1 (by rw[HA.o,OB s]);refine cM zR zR ?_;repeat still_step
   refine wpStill_nil ?_;go_wp2;go_ret;rw[y.o];exact⟨rfl,D,⟨f.o.2.2.1.drew,a.o.over,.inr ⟨d,b,a.o.m2,a.o.m3,a.o.ne,a.o.Sd,a.o.Sb,bD.drew f.o.1,bD.drew f.o.2.1⟩,a.o.ok⟩,a.o.o,(gc a.o.B7.drew f.o.2.2.2.1 a.o.Sd).drew⟩
  ·rw[Oz s]at Q;have y:Hid (x.add ⟨l,m⟩=({x with C5:=fu x.C5 ⟨l,m⟩,line:=x.line++[⟨l,m⟩]},true)):=Z1 (by rw[HA.o,Oz s]);refine cM zR zR ?_;repeat still_step
   refine wpStill_nil ?_;have ad:=(f.o.2.2.1.K8 f.o.1).K8 f.o.2.1;have R:=rB p q 0 t D _ x.line ⟨l,m⟩ w2.drew.drew ad.drew.drew (OK _) zO;have T:=Z1 R;go_wp2;refine zb 4 ?_;repeat still_step
   refine wpStill_nil ?_;go_wp2_with fail;refine T.o.mono ?_;rintro e w3 ⟨rfl,af,ah,u,g⟩;go_wp2;go_ret;rw[y.o];have i:=(gc a.o.B7.drew f.o.2.2.2.1 a.o.Sd).drew.drew;have ai:=i.size;have aj:d≠p:=aw.C9 f.o.1 f.o.2.2.1.B0;have ak:b≠p:=aw.C9 f.o.2.1 f.o.2.2.1.B0;refine⟨rfl,af,⟨ah.more λk hk=>hk.elim (λhk=>hk.1.1) λhk=>.inr (OJ ai hk),(u.2 _ zO).trans a.o.over,.inr ⟨d,b,(u.2 _ zO).trans a.o.m2,(u.2 _ zO).trans a.o.m3,a.o.ne,a.o.Sd,a.o.Sb,aw.B7 (bD.drew (bD.drew f.o.1)) g (λe=>e.elim aj λe=>e.1.2 rfl),aw.B7 (bD.drew (bD.drew f.o.2.1)) g λe=>e.elim ak λe=>e.2 rfl⟩,?_⟩,a.o.o.trans (u.more (OA _) zO),?_⟩
   ·intro k hk
    rcases Po.1 hk with hk|hk
    ·exact a.o.ok k hk
    ·rw[Py.1 hk];exact z.o
   ·refine⟨g.os.trans i.os,g.tape.trans i.tape,g.output.trans i.output,OJ i.size g.size,λj hj n=>(g.block j (OV hj i.size) λe=>?_).trans (i.block j hj n)⟩
    rcases e with e|e
    ·exact n (.inl e)
    ·rcases e.1.1 with e|e
     ·exact n (.inr e)
     ·omega
def Kd(t:TypeId)(cs:Array Value)(S:Nat->Prop)(x:Qm)(k:K2)(w:World)(h:gq w p q t cs S x)(hf:x.E5)(hk:k.ok):
  C 278 #[Z p q,k.val] w λe w'=>e=.returned (.bool (x.add k).2)/\lP w w' p q t cs S (x.add k).1:=by
 by_cases a:x.over=true
 ·have:x.add k=(x,false):=by unfold Qm.add;rw[OB (.inl a)]
  rw[this];exact Gl p q t cs S x k w h a
 ·have a:x.over=false:=by simpa using a
  by_cases b:k∈x.C5
  ·have:x.add k=(x,false):=by unfold Qm.add;rw[OB (.inr b)]
   rw[this];exact Du p q t cs S x k w h hk a b
  ·exact Kc p q t cs S x k w h hf hk a b
def dE.tight{p q:Nat}{t:TypeId}(h:dE w p q B t cs S L):dE w p q B t cs (λk=>S k/\k<w.heap.size) L:=by
 obtain⟨d,e,f,b,c,g,i,j⟩:=h.ex;exact⟨d,e,f,b,c,g,λk a=>⟨i k a,c.lt k (.inr (.inl a))⟩,λk a=>⟨j k a,c.lt k (.inr (.inr a))⟩⟩
def dE.D1{p q:Nat}{t:TypeId}(h:dE w p q B t cs S L)(hg:¬S g)(hp:p≠g)(i:Nat)(u:Value):dE (w.setCell (Y g i) u) p q B t cs S L:=by
 obtain⟨j,k,f,b,a,l,c,d⟩:=h.ex;exact⟨j,k,f,b,⟨a.B0.D1 (p:=Y g i) hp u,bA (p:=Y g i) a.front (λe=>hg (c g e)) u,bA (p:=Y g i) a.back (λe=>hg (d g e)) u,a.apart,a.v0,a.v1,a.ne⟩,l,c,d⟩
def bD.D1{b:Nat}{l:List K2}{t:TypeId}(h:bD w b l)(hb:Blk w g t cs)(i:Nat)(u:Value):bD (w.setCell (Y g i) u) b l:=aw.D3 h (Pd w _ _ b (aw.C9 h hb))
def sZ(t:TypeId)(cs:Array Value)(S:Nat->Prop)(x:Qm)(w:World)(h:gq w p q t cs S x)(hl:x.line=[]):
  C 349 #[Z p q] w (J (.tuple #[K2.val ⟨0,0⟩,.bool false]) w):=by
 have c:=zh w (.cells #[E 0,E 0] 58);have g:=Cu w _ rfl;have a:=h.line.up c;rw[hl]at a;have f:=Z3 (Cv p q 0 t cs S _ a) c g;clear h hl c g a
 go_in
 go_wp2_with fail;refine zm f.o.1 λm d=>?_;have b:=(f.o.2.2.later d).alloc (.cells #[E 0,E 0] 58);have i:=Z2 b (ae (af f.o.2.1 d) (.cells #[E 0,E 0] 58));obtain⟨n,r⟩:=ao b;have k:=b.frozen 0;have l:=b.frozen 1;clear b;unfold K2.val K2.arr;simp only;go_wp2;have j:=((i.o.1.B4 0 (E 0)).B4 1 (E 0));exact OH (cx lj rfl (cs:=K2.arr ⟨0,0⟩) j rfl _ rfl) rfl ⟨rfl,(i.o.2.setCell (p:=Y w.heap.size 0) (OA _) _).setCell (p:=Y w.heap.size 1) (OA _) _⟩
def Dv(t:TypeId)(cs:Array Value)(S:Nat->Prop)(x:Qm)(k:K2)(r:List K2)(w:World)(h:gq w p q t cs S x)(hf:x.E5)(hl:x.line=k::r)(hd:k∈x.C5):
  C 349 #[Z p q] w λe w'=>e=.returned (.tuple #[k.val,.bool true])/\lP w w' p q t cs S x.get.1:=by
 have A:=zh w (.cells #[E 0,E 0] 58);have hz:=Cu w _ rfl;have h1:=h.up A;have G:k.ok:=h.ok k (by rw[hl];simp);have hX:Hid (x.get.1={x with line:=r,C5:=ib x.C5 k,busy:=fu x.busy k}):=Z1 (by unfold Qm.get;rw[hl]);have bj:=hf.busy;have a8:=Z1 hl
 rcases h1.maps with⟨m2,m3,a9,bn⟩|⟨d,b,m2,m3,R,T,U,hD,hB⟩
 ·rw[a9]at hd;cases hd
 have v:=((h.line.tight.up A).K8 hD).K8 hB;rw[hl]at v;have X:(k::r).length<=100000:=by have:=hf.line;rw[hl]at this;omega
 have m:=Z7 (II p q 0 t cs _ k r _ v X) A hz h1 hD hB h;have f:=Z6 m2 m3 R T U G;have L:p≠w.heap.size:=by have:=h.line.B0.lt;omega
 clear h hl A hz v h1 hD hB m2 m3 R T U G hd hf X
 go_in
 go_wp2_with fail;refine m.o.1.mono ?_;rintro e H ⟨rfl,ba,aa,n,y⟩;have bb:d≠p:=aw.C9 m.o.2.2.2.2.1 m.o.2.2.2.1.line.B0;have bc:b≠p:=aw.C9 m.o.2.2.2.2.2.1 m.o.2.2.2.1.line.B0;have ab:=aw.B7 m.o.2.2.2.2.1 y (λe=>e.elim bb λe=>e.1.2 rfl);have ac:=aw.B7 m.o.2.2.2.2.2.1 y (λe=>e.elim bc λe=>e.2 rfl);have N:=y.B0 m.o.2.2.1 (λe=>e.elim (λe=>L e.symm) λe=>absurd e.1.1.2 (Qn _));have ad:=(ag.B5 m.o.2.1).trans (y.C3 λj hj=>hj.imp id λe=>e.1.1.1);obtain⟨g,l⟩:=k;have af:=Blk.A8 H 58 #[E g,E l] rfl;have ah:=aw.up ab (ae (Oy _ H) (.cells #[E g,E l] 58));have ai:=aw.up ac (ae (Oy _ H) (.cells #[E g,E l] 58));have aj:=aa.up (ae (Oy _ H) (.cells #[E g,E l] 58));have ak:=N.alloc (.cells #[E g,E l] 58);have al:=ad.alloc (.cells #[E g,E l] 58);have bo:=N.lt;have a:=Z7 af ah ai aj ak al n;unfold K2.val K2.arr;simp only;clear ab ac N ad aa y af ah ai aj ak al n;go_upto_region 5 with fail
 generalize am:H.heap.size=vx at*;have bp:=Z1 am;clear am;generalize H.alloc (.cells #[E g,E l] 58)=V at*;have c2:=(a.o.2.2.2.1.B0.cell (q+2)).trans ((a.o.2.2.2.2.2.2.2 _ zO).trans f.o.1);obtain⟨d0,d1⟩:=ao a.o.1;have O:=bD.drew a.o.2.1;refine zb 5 ?_;repeat still_step
 refine wpStill_nil ?_;refine mf rfl _ _ _ 3 rfl jO underlying161 ⟨g,l⟩ f.o.2.2.2.2.2 rfl rfl O ?_;intro w2 P s bd;rw[wY]at P;have an:=aw.C9 a.o.2.1 a.o.1;have ap:=s.B0 a.o.1.drew (Pc an);have aq:=aw.B7 (bD.drew a.o.2.2.1) s (Pc f.o.2.2.1);have ar:=a.o.2.2.2.1.drew.D3 O s;have au:=s.B0 a.o.2.2.2.2.1.drew (Pc (aw.C9 a.o.2.1 a.o.2.2.2.2.1));have av:=gc a.o.2.2.2.2.2.1.drew s (.inl f.o.2.2.2.1);have i:=Z6 P aq ar au av ap;clear c2 d0 d1 O P s bd an ap aq ar au av;go_upto_region 6 with fail
 have c3:=(i.o.2.2.1.B0.cell (q+3)).trans ((a.o.2.2.2.2.2.2.2 _ zO).trans f.o.2.1);obtain⟨d0,d1⟩:=ao i.o.2.2.2.2.2;have Q:=bD.drew i.o.2.1;refine zb 5 ?_;repeat still_step
 refine wpStill_nil ?_;refine cZ rfl _ _ _ 161 3 rfl jO underlying161 ⟨g,l⟩ f.o.2.2.2.2.2 (I 1) rfl rfl rfl Q (by rw[nk];omega) ?_;intro w4 z u be;rw[rD]at z;have ax:=u.B0 i.o.2.2.2.2.2.drew (Pc (aw.C9 i.o.2.1 i.o.2.2.2.2.2));have B:=aw.B7 (bD.drew i.o.1) u f.o.2.2.1;have D:=i.o.2.2.1.drew.D3 Q u;have c:=u.B0 i.o.2.2.2.1.drew (Pc (aw.C9 i.o.2.1 i.o.2.2.2.1));have F:=gc i.o.2.2.2.2.1.drew u (.inl f.o.2.2.2.2.1);have H4:=Z5 B z D c F;obtain⟨e0,e1⟩:=ao ax;obtain⟨z0,z1⟩:=ao c;have bq:=c.frozen 0;have br:=c.frozen 1;clear c3 d0 d1 Q z u be ax B D c F;go_wp2;have bg:=((H4.o.2.2.2.1.B4 0 (E g)).B4 1 (E l));obtain⟨B,z,D,c,F⟩:=H4.o;have ay:¬(((S w.heap.size/\w.heap.size<w.heap.size)/\w.heap.size≠d)/\w.heap.size≠b\/(w.alloc (.cells #[E 0,E 0] 58)).heap.size<=w.heap.size):=by
  rintro(e|e)
  ·exact Qn _ e.1.1.2
  ·simp at e;omega
 have az:=c.B4 0 (E g);refine OH (cx lj rfl (cs:=K2.arr ⟨g,l⟩) bg rfl _ rfl) rfl ⟨rfl,ba,?_,(a.o.2.2.2.2.2.2).more (OA _) zO,(F.setCell (p:=Y w.heap.size 0) (.inr (OA _)) _).setCell (p:=Y w.heap.size 1) (.inr (OA _)) _⟩;rw[hX.o];have n:=a.o.2.2.2.2.2.2;have h0:=m.o.2.2.2.2.2.2;refine⟨((D.D1 ay L 0 _).D1 ay L 1 _).more λk G=>G.elim (λe=>.inl e.1.1.1) λe=>.inr (by simp at e;omega),(n.2 _ zO).trans h0.over,.inr ⟨d,b,(n.2 _ zO).trans f.o.1,(n.2 _ zO).trans f.o.2.1,f.o.2.2.1,.inl f.o.2.2.2.1,.inl f.o.2.2.2.2.1,bD.D1 (bD.D1 B c 0 _) az 1 _,bD.D1 (bD.D1 z c 0 _) az 1 _⟩,λk G=>h0.ok k (by rw[a8.o];exact Pm _ G)⟩
def Dw(t:TypeId)(cs:Array Value)(S:Nat->Prop)(x:Qm)(k:K2)(w:World)(h:gq w p q t cs S x)(hf:x.E5)(hk:k.ok)(hbz:k∈x.busy):
  C 359 #[Z p q,k.val] w λe w'=>e=.returned (.tuple #[.bool (x.done k).2,I 0])/\lP w w' p q t cs S (x.done k).1:=by
 have A:=zh w (.cells #[E k.hi,E k.lo] 58);have y:=h.up A;have Q:=Blk.A8 w 58 #[E k.hi,E k.lo] rfl;have av:=hf.C5;have ax:=hf.line;have HA:Hid (x.done k=if k∈x.C5 then({x with busy:=ib x.busy k,line:=x.line++[k]},true)else({x with busy:=ib x.busy k},false)):=Z1 (by unfold Qm.done;rw[OB hbz])
 rcases y.maps with⟨m2,P,a0,aj⟩|⟨d,b,m2,P,R,T,U,hD,hB⟩
 ·rw[aj]at hbz;cases hbz
 obtain⟨f,g⟩:=k;have hl:=bD.look (bD.drew hB) hk;rw[OB hbz]at hl;have c3:=(y.line.B0.cell (q+3)).trans P;have a:Hid (xX w (w.alloc (.cells #[E f,E g] 58)).drew p q t cs cs S x d b w.heap.size f g):=Z1 ⟨(y.line.drew).more λ_ h=>.inl h,y.over,m2,P,R,.inl T,.inl U,bD.drew hD,bD.drew hB,y.ok,Q.drew,bF.refl _ _ _,(ag.B5 A).drew⟩;have s:=Z1 hk;have HT:=Z1 h.line.tight;have a1:=h.line.B0.lt;simp only at HA hl;unfold K2.val K2.arr;simp only;clear h y A hD hB hbz m2 P T U R Q hf hk
 go_in
 go_wp2;refine cM zR zR ?_;repeat still_step
 refine wpStill_nil ?_;clear hl;go_upto_region 3 with fail
 clear c3;generalize (w.alloc (.cells #[E f,E g] 58)).drew=V at*;have c3:=(a.o.line.B0.cell (q+3)).trans a.o.m3;obtain⟨d0,d1⟩:=ao a.o.box;have B:=bD.drew a.o.busy;refine zb 5 ?_;repeat still_step
 refine wpStill_nil ?_;refine mf rfl _ _ _ 3 rfl jO underlying161 ⟨f,g⟩ s.o rfl rfl B ?_;intro z D r al;rw[wY]at D;have F:=r.B0 a.o.box.drew (Pc (aw.C9 a.o.busy a.o.box));have G:=a.o.line.drew.D3 B r;have H:=aw.B7 (bD.drew a.o.C5) r a.o.ne;have X:=gc a.o.B7.drew r a.o.Sb;have c:=Z5 H D G X F;have c2:=(G.B0.cell (q+2)).trans a.o.m2;obtain⟨e0,e1⟩:=ao F;have u:=bD.look (bD.drew H) s.o;clear D r F G H B c3 d0 d1 al X;go_upto_region 4 with fail
 by_cases i:(⟨f,g⟩:K2)∈x.C5
 ·rw[OB i]at u;have L:Hid (x.done ⟨f,g⟩=({x with busy:=ib x.busy ⟨f,g⟩,line:=x.line++[⟨f,g⟩]},true)):=Z1 (by rw[HA.o,OB i]);clear i;have aa:=(c.o.2.2.1.K8 c.o.1).K8 c.o.2.1;have N:=rB p q 0 t cs _ x.line ⟨f,g⟩ z.drew aa.drew (OK _) zO;have ah:=Z1 N;clear N aa;refine zb 12 ?_;repeat still_step
  refine wpStill_nil ?_;clear u;go_wp2_with fail;refine ah.o.mono ?_;rintro e w3 ⟨rfl,am,an,v,l⟩;go_wp2
  go_ret2
  rw[L.o];have n:=c.o.2.2.2.1.drew;have ap:=n.size;have aq:d≠p:=aw.C9 c.o.1 c.o.2.2.1.B0;have ar:b≠p:=aw.C9 c.o.2.1 c.o.2.2.1.B0;refine⟨rfl,am,⟨an.more λk hk=>hk.elim (λhk=>hk.1.1) λhk=>.inr (OJ ap hk),(v.2 _ zO).trans a.o.over,.inr ⟨d,b,(v.2 _ zO).trans a.o.m2,(v.2 _ zO).trans a.o.m3,a.o.ne,a.o.Sd,a.o.Sb,aw.B7 (bD.drew c.o.1) l (λe=>e.elim aq λe=>e.1.2 rfl),aw.B7 (bD.drew c.o.2.1) l λe=>e.elim ar λe=>e.2 rfl⟩,?_⟩,v.more (OA _) zO,?_⟩
  ·intro k hk
   rcases Po.1 hk with hk|hk
   ·exact a.o.ok k hk
   ·rw[Py.1 hk];exact s.o
  ·refine⟨l.os.trans n.os,l.tape.trans n.tape,l.output.trans n.output,OJ n.size l.size,λj hj O=>(l.block j (OV hj n.size) λe=>?_).trans (n.block j hj O)⟩
   rcases e with e|e
   ·exact O (.inl e)
   ·rcases e.1.1 with e|e
    ·exact O (.inr e)
    ·omega
 ·rw[Oz i]at u;have L:Hid (x.done ⟨f,g⟩=({x with busy:=ib x.busy ⟨f,g⟩},false)):=Z1 (by rw[HA.o,Oz i]);have a2:∀m,(Instr.lookup 161 (.map (some d)) (.agg #[E f,E g]) false).run prog (z.drewN m)=.ok (I 0) (z.drewN m):=λm=>by
   have:=bD.look (w:=z.drewN m) (aw.D3 c.o.1 rfl) s.o
   rwa [Oz i]at this
  clear i u;go_quiet (fail);go_wp2
  go_ret2
  rw[L.o];have hb:=fd (Oy z.heap.size z);exact⟨rfl,cs,⟨c.o.2.2.1.up (hb _),a.o.over,.inr ⟨d,b,a.o.m2,a.o.m3,a.o.ne,a.o.Sd,a.o.Sb,aw.up c.o.1 (hb _),aw.up c.o.2.1 (hb _)⟩,a.o.ok⟩,bF.refl _ _ _,c.o.2.2.2.1.drewN _⟩
end Go.Fw
