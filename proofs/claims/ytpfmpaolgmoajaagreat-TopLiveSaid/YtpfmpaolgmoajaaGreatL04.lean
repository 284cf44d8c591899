/- Lemmas of this claim. Conditions: as each says. -/
import Derived.Test.YtpfmpaolgmoajaaGreatL01
import Derived.Deep.DeepCutAuto
set_option linter.unusedVariables false
set_option linter.unusedSimpArgs false
set_option maxHeartbeats 4000000
set_option maxRecDepth 20000
set_option linter.defProp false
open Go.Proofs.Tryz
namespace Go.Fw
open Go.Proofs Go.RowKit
variable {w w':World}{B n k g s q i j:Nat}{v u v' sl2:Value}{xs:List Value}{P:Program}{a cs cs' b:Array Value}{l:Lk}{A:Option Addr}{x:Vt}{ln:List (Int×Bool)}(t:Int)(sl:Value)(r:Rp)(pt:Option Addr)(p d c:Nat)
def Ie{α:Type}(f:α->List Value)(s:Nat)(hf:∀x,(f x).length=s)(l:List α)(k:Nat)(hk:k<l.length)(x:α)(i:Nat):
  ((l.set k x).flatMap f)[i]?=if k*s<=i/\i<k*s+s then(f x)[i-k*s]? else(l.flatMap f)[i]?:=by
 by_cases h:s=0
 ·subst h;have b:∀(m:List α),m.flatMap f=[]:=λm=>OU (by rw[db f 0 hf];omega);rw[b,b,Oz zO]
 ·have d:0<s:=zO;by_cases j:i<l.length*s
  ·have c:=Nat.div_lt_of_lt_mul (by rw[Qk];exact j);have e:=Rj i d;have g:i=i/s*s+i%s:=by rw[Qk];exact(Nat.div_add_mod i s).symm
   have n:((l.set k x).flatMap f)[i]?=(f ((l.set k x)[i/s]'(by simpa using c)))[i%s]?:=by
    conv=>lhs;rw[g]
    exact kc f s hf (l.set k x) (i/s) (i%s) (by simpa using c) e
   have o:(l.flatMap f)[i]?=(f l[i/s])[i%s]?:=by
    conv=>lhs;rw[g]
    exact kc f s hf l (i/s) (i%s) c e
   rw[n,o,List.getElem_set];by_cases a:k=i/s
   ·rw[OB a,OB (by subst a;omega)];congr 1;subst a;omega
   ·rw[Oz a,Oz ?_];rintro⟨b,q⟩;apply a;have:i/s=k:=by
     apply Nat.div_eq_of_lt_le
     ·exact b
     ·rw[Qj];omega
    exact this.symm
  ·have p:k*s+s<=l.length*s:=by rw[<-Qj];exact Pr s hk
   rw[Ps (by rw[db f s hf];simp;omega),Oz zO,Ps (by rw[db f s hf];omega)]
def If{e:TypeId}{l:List Adv}(h:w.ownsRow B e 5 v n (advs l))(hn:n=l.length)(hk:k<l.length)(hg:v.ownBlock=some g)(a:Adv):
  (((((w.setCell (Y g (k*5)) (I a.tick)).setCell (Y g (k*5+1)) (I a.load)).setCell (Y g (k*5+2)) (I a.want)).setCell (Y g (k*5+3)) (I a.reps)).setCell (Y g (k*5+4)) (I a.I8)).ownsRow B e 5 v n (advs (l.set k a)):=by
 obtain⟨H,h⟩:=h
 rcases h with⟨rfl,rfl⟩|⟨d,f,b,rfl,t,u,m,x,y,o⟩
 ·simp[Value.ownBlock]at hg
 ·obtain rfl:d=g:=by simpa[Value.ownBlock]using hg
  have p:Blk w d e b:=u;have q:=((((p.B4 (k*5) (I a.tick)).B4 (k*5+1) (I a.load)).B4 (k*5+2) (I a.want)).B4 (k*5+3) (I a.reps)).B4 (k*5+4) (I a.I8);refine⟨by rw[kH];simp[hn],.inr ⟨d,f,_,rfl,t,q,m,x,by simpa using y,?_⟩⟩;have r:∀i,i<n*5->b.toList[i]?=(advs l)[i]?:=by intro i z;rw[<-o,Pw z]
  have G:n*5<=b.toList.length:=by
   have A:=congrArg List.length o;rw[PG,kH]at A;omega
  apply QI;intro i;show _=((l.set k a).flatMap Adv.cells)[i]?;rw[Ie Adv.cells 5 Adv.C2 l k hk a i];by_cases c:i<n*5
  ·rw[Pw c];simp only[Ru];by_cases s:k*5<=i/\i<k*5+5
   ·rw[OB s];obtain⟨j,rfl⟩:∃j,i=k*5+j:=⟨i-k*5,zO⟩;have D:j=0\/j=1\/j=2\/j=3\/j=4:=zO;have L:k*5+5<=b.toList.length:=zO;rw[show k*5+j-k*5=j by omega]
    rcases D with rfl|rfl|rfl|rfl|rfl
    all_goals
     simp only[Qo,PI]
     repeat (first|rw[OB trivial]|rw[Oz zO]|rw[OB zO])
     rfl
   ·rw[Oz s];rw[Qf zO,Qf zO,Qf zO,Qf zO,Qf zO];exact r i c
  ·have F:k*5+5<=n*5:=zO;rw[Ps zT,Oz zO,Ps (by show(advs l).length<=i;rw[kH];omega)]
def Adv.val(a:Adv):Value:=.agg #[I a.tick,I a.load,I a.want,I a.reps,I a.I8]
def Adv.arr(a:Adv):Array Value:=#[I a.tick,I a.load,I a.want,I a.reps,I a.I8]
def Adv.zero:Adv:=⟨0,0,0,0,0⟩
def tI{e:TypeId}{l:List Adv}(h:w.ownsRow B e 5 v n (advs l))(hn:n=l.length)(hk:k<l.length):
  ∃g c,v=V g 0 n c/\B<=g/\g<w.heap.size/\n<=c/\
   w.cell? (Y g (k*5))=some (I l[k].tick)/\w.cell? (Y g (k*5+1))=some (I l[k].load)/\w.cell? (Y g (k*5+2))=some (I l[k].want)/\w.cell? (Y g (k*5+3))=some (I l[k].reps)/\w.cell? (Y g (k*5+4))=some (I l[k].I8)/\
   (∀i,w.frozen? (Y g i)=false):=by
 obtain⟨o,h⟩:=h
 rcases h with⟨_,rfl⟩|⟨g,f,d,rfl,p,q,m,t,u,r⟩
 ·simp at o;omega
 ·have b:Blk w g e d:=q;have a:∀j,j<5->w.cell? (Y g (k*5+j))=(Adv.cells l[k])[j]?:=by
   intro j s;rw[b.cell,<-kc Adv.cells 5 Adv.C2 l k j hk s];show d[k*5+j]?=(advs l)[k*5+j]?;rw[<-r,Pw zO];simp
  exact⟨g,f,rfl,p,b.lt,m,a 0 zP,a 1 zP,a 2 zP,a 3 zP,a 4 zP,λi=>b.frozen i⟩
def set5(w:World)(g:Nat)(o:Nat)(a:Adv):World:=
 ((((w.setCell (Y g o) (I a.tick)).setCell (Y g (o+1)) (I a.load)).setCell (Y g (o+2)) (I a.want)).setCell (Y g (o+3)) (I a.reps)).setCell (Y g (o+4)) (I a.I8)
def Blk.set5{t:TypeId}{c0 c1 c2 c3 c4:Value}(h:Blk w g t #[c0,c1,c2,c3,c4])(a:Adv):Blk (Go.Fw.set5 w g 0 a) g t a.arr:=by
 have b:=((((h.B4 0 (I a.tick)).B4 1 (I a.load)).B4 2 (I a.want)).B4 3 (I a.reps)).B4 4 (I a.I8);exact b
def gG(w:World)(g o:Nat)(a:Adv)(k:Nat)(h:k≠g):(set5 w g o a).heap[k]?=w.heap[k]?:=by
 unfold set5;rw[Pd _ _ _ k h,Pd _ _ _ k h,Pd _ _ _ k h,Pd _ _ _ k h,Pd _ _ _ k h]
def ag.set5{L:Nat->Prop}(h:ag L w w')(hg:L g\/w.heap.size<=g)(o:Nat)(a:Adv):ag L w (Go.Fw.set5 w' g o a):=
 ((((h.setCell (p:=Y g o) hg _).setCell (p:=Y g (o+1)) hg _).setCell (p:=Y g (o+2)) hg _).setCell (p:=Y g (o+3)) hg _).setCell (p:=Y g (o+4)) hg _
def Below.set5(h:Below n w w')(hg:n<=g)(o:Nat)(a:Adv):Below n w (Go.Fw.set5 w' g o a):=
 ((((h.setCell (p:=Y g o) hg _).setCell (p:=Y g (o+1)) hg _).setCell (p:=Y g (o+2)) hg _).setCell (p:=Y g (o+3)) hg _).setCell (p:=Y g (o+4)) hg _
def nZ{e:TypeId}(h:w.ownsRow B e s v n xs)(hne:v.ownBlock≠some g)(o:Nat)(a:Adv):(Go.Fw.set5 w g o a).ownsRow B e s v n xs:=
 bA (p:=Y g (o+4)) (bA (p:=Y g (o+3)) (bA (p:=Y g (o+2)) (bA (p:=Y g (o+1)) (bA (p:=Y g o) h hne _) hne _) hne _) hne _) hne _
def kg{o:Oper}{a:Act}{K:Act->World->Prop}{Q:Exit->Act->World->Prop}{t e e':TypeId}{z:Value}{bytes:Nat}(hT:cE P t e z s bytes)(hs0:0<s)
  (sl x:Operand)(ho:o.op=.call {callee:=.builtin .append,args:=#[sl,x],argTypes:=#[t,t]})
  (hs:a.eval sl=v)(hm:w.ownsRow B e s v n xs)(hB:B<=w.heap.size)(hg:g=w.heap.size)(hx:a.eval x=V g 0 1 1)(hcs:cs.size=s)(h1:∀u∈cs.toList,u.oneCell'=true)
  (hlen:(n+1)*bytes<=140737488355328)(hle:n+1<=maxLen)
  (h:∀v' w',w'.ownsRow B e s v' (n+1) (xs++cs.toList)->w.grownBy w' v.ownBlock->(v'.ownBlock=v.ownBlock\/∀k,v'.ownBlock=some k->w.heap.size<=k)->K (a.put o.dst v') w'):
  o.wp P a (w.alloc (.cells cs e')) K Q:=by
 obtain⟨i,m,p,f,j⟩:=info_parts hT.info;refine dC (w.alloc (.cells cs e')) sl x t ho B e i z s bytes hT.under m p f j hT.cells hs0 v n xs hs (hm.alloc _) _ _ 1 1 cs.toList hx (dD w e' cs s 1 g _ zO hg rfl) h1 hle hlen zT λv' w' q c d=>?_;have hg:w.grownBy w' v.ownBlock:=⟨c.os,c.tape,c.output,OJ zS c.size,λk b l=>(c.block k zT l).trans (Qh w _ k b)⟩;refine h v' w' q hg ?_
 rcases d with d|d
 ·exact .inl d
 ·refine .inr λk b=>?_;rw[d]at b;injection b with b;simp at b;omega
def Blk.G6{t:TypeId}{a:Adv}(h:Blk w g t a.arr):
  w.cell? (Y g 0)=some (I a.tick)/\w.cell? (Y g 1)=some (I a.load)/\w.cell? (Y g 2)=some (I a.want)/\w.cell? (Y g 3)=some (I a.reps)/\w.cell? (Y g 4)=some (I a.I8):=
 ⟨h.cell 0,h.cell 1,h.cell 2,h.cell 3,h.cell 4⟩
def Blk.M0{t:TypeId}(h:Blk w g t cs):
  w.frozen? (Y g 0)=false/\w.frozen? (Y g 1)=false/\w.frozen? (Y g 2)=false/\w.frozen? (Y g 3)=false/\w.frozen? (Y g 4)=false:=⟨h.frozen 0,h.frozen 1,h.frozen 2,h.frozen 3,h.frozen 4⟩
def jg:cE prog 49 62 (.agg #[I 0,I 0,I 0,I 0,I 0]) 5 40:=⟨underlying49,zR,rfl⟩
abbrev RgV(w:World)(p B:Nat)(sl:Value)(r:Rg Adv):Prop:=ej advs 5 348 62 w p B sl r
def Or(n:Int)(w:World)(h:¬(1<=n/\n<=4096)):C 327 #[I n] w λe w'=>e=.returned (.pointer none)/\w=w':=by
 by_cases a:n<1
 ·go_in
  go_wp2;go_ret;exact⟨rfl,rfl⟩
 ·have b:4096<n:=zO
  go_in
  go_wp2;go_ret;exact⟨rfl,rfl⟩
def Ig(n:Nat)(w:World)(h1:1<=n)(h2:n<=4096):C 327 #[I (n:Int)] w λe w'=>e=.returned (Z w.heap.size 0)/\w.alloc (.cells #[.slice none 0 0,I 0,I (n:Int)] 348)=w':=by
 go_in
 go_wp2;go_ret;exact⟨rfl,rfl⟩
def rk(B:Nat)(sl:Value)(r:Rg Adv)(w:World)(h:RgV w p B sl r):C 222 #[Z p 0] w λe w'=>e=.returned (I (r.items.length:Int))/\w=w':=by
 have a:=h.c0;obtain⟨A,c,rfl,_,_⟩:=ak h.own
 go_in
 go_wp2;go_ret;exact⟨rfl,rfl⟩
def Lx(B:Nat)(sl:Value)(r:Rg Adv)(i:Nat)(w:World)(h:RgV w p B sl r)(hi:i<r.list.length):
  C 223 #[Z p 0,I (i:Int)] w (J (.tuple #[r.list[i].val,.bool true]) w):=by
 have S:=λw (h:RgV w p B sl r)=>rk p B sl r w h;have T:=Z1 S;have ai:=Rg.length r;obtain⟨P,f⟩:=Rg.get h.ok hi;have Q:=h.ok.F5;have R:=h.ok.fits;have aj:=h.ok.lt;have U:=h.c0;have X:=h.c1;have u:(IntKind.i64.wrap ((r.from_:Int)+(i:Int))).tmod (r.items.length:Int)=(((r.from_+i)%r.items.length:Nat):Int):=by
  rw[IntWalk.i64_in _ ⟨zO,zO⟩,Ra zO];push_cast;rfl
 rw[f];have HH:=Z1 h;generalize (r.from_+i)%r.items.length=j at P u f ⊢;obtain⟨g,c,rfl,ak,b,al,l,m,n,q,s,_⟩:=tI h.own rfl P;have am:(i:Int)<(r.items.length:Int):=zO;have an:(j:Int)<(r.items.length:Int):=zO;have ao:¬r.items.length=0:=zO;generalize r.items[j]=y at*;obtain⟨x,z,A,D,F⟩:=y;unfold Adv.val;simp only at l m n q s ⊢;have t:=h.B0.lt
 go_in
 go_wp2_with fail;refine zY (T.o _ ((HH.o.up (ae (Oy _ _) _)).up (ae (Oy _ _) _))) ?_;have d:M w ((w.alloc (.cells #[I 0,I 0,I 0,I 0,I 0] 62)).alloc (.cells #[I 0,I 0,I 0,I 0,I 0] 62)):=ae (ae (Oy _ _) _) _;have a:Blk ((w.alloc (.cells #[I 0,I 0,I 0,I 0,I 0] 62)).alloc (.cells #[I 0,I 0,I 0,I 0,I 0] 62)) w.heap.size 62 #[I 0,I 0,I 0,I 0,I 0]:=(Blk.A8 _ _ _ rfl).alloc _;generalize (w.alloc (.cells #[I 0,I 0,I 0,I 0,I 0] 62)).alloc (.cells #[I 0,I 0,I 0,I 0,I 0] 62)=W2 at*;have d0:=(OF d (p:=Y p 0) t).trans U;have d1:=(OF d (p:=Y p 1) t).trans X;have e0:=(OF d (p:=Y g (j*5)) b).trans l;have e1:=(OF d (p:=Y g (j*5+1)) b).trans m;have e2:=(OF d (p:=Y g (j*5+2)) b).trans n;have e3:=(OF d (p:=Y g (j*5+3)) b).trans q;have e4:=(OF d (p:=Y g (j*5+4)) b).trans s;have f0:=a.frozen 0;have f1:=a.frozen 1;have f2:=a.frozen 2;have f3:=a.frozen 3;have f4:=a.frozen 4;have g0:=a.cell 0;have g1:=a.cell 1;have g2:=a.cell 2;have g3:=a.cell 3;have g4:=a.cell 4;simp at g0 g1 g2 g3 g4;go_wp2;refine zb 18 ?_;repeat still_step
 refine wpStill_nil ?_;go_wp2;have b5:=(a.set5 ⟨x,z,A,D,F⟩).drew;have k:=(Below.set5 d (OA _) 0 ⟨x,z,A,D,F⟩).drew;obtain⟨G,H,L,N,O⟩:=b5.G6;unfold set5 at G H L N O k;simp only[PS]at G H L N O k;refine OH (v:=.tuple #[.agg #[I x,I z,I A,I D,I F],.bool true]) (by simp[results,results223,go_sem,G,H,L,N,O]) rfl ⟨rfl,k⟩
def Vk(W wx:World)(p B n:Nat)(v:Value)(xs:List Value):Prop:=∃A3 k3 w',wx=w'.setCell (Y p 0) (.slice A3 (n+1) k3)/\w'.ownsRow B 62 5 (.slice A3 (n+1) k3) (n+1) xs/\W.grownBy w' v.ownBlock/\((Value.slice A3 (n+1) k3).ownBlock=v.ownBlock\/∀k,(Value.slice A3 (n+1) k3).ownBlock=some k->W.heap.size<=k)
def Ee(B:Nat)(sl:Value)(r:Rg Adv)(x:Adv)(w:World)(h:RgV w p B sl r)(hB:B<=w.heap.size)(hlt:r.items.length<r.room):
  C 363 #[Z p 0,x.val] w λe w'=>e=.returned (.tuple #[Adv.zero.val,.bool false])/\∃sl',RgV w' p B sl' (r.push x)/\ag (λj=>j=p\/sl.ownBlock=some j) w w'/\(sl'.ownBlock=sl.ownBlock\/∀k,sl'.ownBlock=some k->w.heap.size<=k):=by
 obtain⟨q,s,t,u,y⟩:=x;have hb:M w (((w.alloc (.cells (Adv.arr ⟨q,s,t,u,y⟩) 62)).alloc (.cells (Adv.arr ⟨0,0,0,0,0⟩) 62)).alloc (.cells (Adv.arr ⟨0,0,0,0,0⟩) 62)):=ae (ae (ae (Oy _ _) _) _) _;have bx:Blk (((w.alloc (.cells (Adv.arr ⟨q,s,t,u,y⟩) 62)).alloc (.cells (Adv.arr ⟨0,0,0,0,0⟩) 62)).alloc (.cells (Adv.arr ⟨0,0,0,0,0⟩) 62)) w.heap.size 62 (Adv.arr ⟨q,s,t,u,y⟩):=((Blk.A8 _ _ _ rfl).alloc _).alloc _;have bo:Blk (((w.alloc (.cells (Adv.arr ⟨q,s,t,u,y⟩) 62)).alloc (.cells (Adv.arr ⟨0,0,0,0,0⟩) 62)).alloc (.cells (Adv.arr ⟨0,0,0,0,0⟩) 62)) (w.heap.size+1) 62 (Adv.arr ⟨0,0,0,0,0⟩):=(Blk.A8 _ _ _ zS).alloc _;have bn:Blk (((w.alloc (.cells (Adv.arr ⟨q,s,t,u,y⟩) 62)).alloc (.cells (Adv.arr ⟨0,0,0,0,0⟩) 62)).alloc (.cells (Adv.arr ⟨0,0,0,0,0⟩) 62)) (w.heap.size+1+1) 62 (Adv.arr ⟨0,0,0,0,0⟩):=Blk.A8 _ _ _ zS;have b1:=h.B0.lt;have X:=h.ok;have bc:=X.F5;have bd:=X.pos;have P:=h.up hb;obtain⟨A,c,rfl,_,_⟩:=ak h.own;have HH:=Z1 h;unfold Adv.val Adv.zero;unfold Adv.arr at hb bx bo bn P;have be:(r.items.length:Int)<(r.room:Int):=zO;have b2:((r.room:Int)==0)=false:=zT;have au:=Z1 hlt
 go_in
 go_upto_region 2 with fail
 generalize (((w.alloc (.cells #[I q,I s,I t,I u,I y] 62)).alloc (.cells #[I 0,I 0,I 0,I 0,I 0] 62)).alloc (.cells #[I 0,I 0,I 0,I 0,I 0] 62))=W3 at*;have c0:=P.c0;have c1:=P.c1;have c2:=P.c2;go_wp2;refine cM zR zR ?_;repeat still_step
 refine wpStill_nil ?_;go_upto_region 5 with fail
 have O:RgV W3.drew p B _ r:=P.drew;have aa:=hb.drew;have z:=bx.drew;have aw:=bo.drew;have ax:=bn.drew;generalize W3.drew=D at*;have d0:=O.c0;have y0:=z.cell 0;have y1:=z.cell 1;have y2:=z.cell 2;have y3:=z.cell 3;have y4:=z.cell 4;simp at y0 y1 y2 y3 y4;have H:=aB O.own O.B0 zP;have bk:=O.B0.lt;have b3:=z.lt;have Q:B<=D.drew.heap.size:=by show B<=D.heap.size;omega
 have F:D.drew.ownsRow B 62 5 (.slice A r.items.length c) r.items.length (advs r.items):=O.own;have ay:M w D.drew:=aa.drew;have b4:=z.drew;have az:=aw.drew;have ab:=ax.drew;have N:=O.B0.drew;have ac:some (w.heap.size+1)≠(Value.slice A r.items.length c).ownBlock:=λe=>by have:=(HH.o.own.lt _ e.symm).2;omega
 have a0:some (w.heap.size+1+1)≠(Value.slice A r.items.length c).ownBlock:=λe=>by have:=(HH.o.own.lt _ e.symm).2;omega
 have ad:w.heap.size+1≠p:=zO;have a1:w.heap.size+1+1≠p:=zO;go_cut [] (λwx=>Vk D.drew wx p B r.items.length (.slice A r.items.length c) (advs r.items++[I q,I s,I t,I u,I y]))
 case first=>
  refine pq zR ?_;simp only[zD,zE,Nat.reduceAdd,zG];refine zx 0 ?_;refine zx 1 ?_;refine zx 2 ?_;refine zx 3 ?_;refine zv [4,5] ?_;refine zu (λK hK=>?_) ?_
  ·skip
   go_simp;refine hK _ _ ?_;clear hK;refine zn ?_;refine zr 5 ?_;refine zr 6 ?_;refine zw 7 λK hK=>?_;try simp only[fc]
   refine kg (w:=D.drew) (n:=r.items.length) (xs:=advs r.items) (B:=B) jg zP (.tmp 34) (.tmp 36) rfl zF F Q zF zF rfl zV zO zU ?_;intro v' w' d b m;obtain⟨i,l,rfl,_,_⟩:=ak d;refine hK _ _ ?_;have f:=N.grown b (Pc H);have f0:=f.frozen 0;have G:=f.cell 0;simp at G;clear hK;refine zn ?_;refine zx 8 ?_;refine zx 9 ?_;refine zr 10 ?_;refine gF zR ?_;go_wp2;go_meet;exact⟨i,l,w',rfl,d,b,m⟩
  refine zu (λK hK=>?_) ?_
  ·skip
   go_simp;refine hK _ _ ?_;clear hK;refine zn ?_;refine zv [4,6] ?_;refine zu (λK hK=>?_) ?_
   ·skip
    go_simp;refine hK _ _ ?_;clear hK;refine zn ?_;refine zr 6 ?_;refine zw 7 λK hK=>?_;try simp only[fc]
    refine kg (w:=D.drew) (n:=r.items.length) (xs:=advs r.items) (B:=B) jg zP (.tmp 34) (.tmp 36) rfl zF F Q zF zF rfl zV zO zU ?_;intro v' w' d b m;obtain⟨i,l,rfl,_,_⟩:=ak d;refine hK _ _ ?_;have f:=N.grown b (Pc H);have f0:=f.frozen 0;have G:=f.cell 0;simp at G;clear hK;refine zn ?_;refine zx 8 ?_;refine zx 9 ?_;refine zr 10 ?_;refine gF zR ?_;go_wp2;go_meet;exact⟨i,l,w',rfl,d,b,m⟩
   refine zu (λK hK=>?_) ?_
   ·skip
    go_simp;refine hK _ _ ?_;clear hK;refine zn ?_;refine zr 4 ?_;refine zw 7 λK hK=>?_;try simp only[fc]
    refine kg (w:=D.drew) (n:=r.items.length) (xs:=advs r.items) (B:=B) jg zP (.tmp 34) (.tmp 36) rfl zF F Q zF zF rfl zV zO zU ?_;intro v' w' d b m;obtain⟨i,l,rfl,_,_⟩:=ak d;refine hK _ _ ?_;have f:=N.grown b (Pc H);have f0:=f.frozen 0;have G:=f.cell 0;simp at G;clear hK;refine zn ?_;refine zx 8 ?_;refine zx 9 ?_;refine zr 10 ?_;refine gF zR ?_;go_wp2;go_meet;exact⟨i,l,w',rfl,d,b,m⟩
   exact AllReady.nil
  exact AllReady.nil
 case rest=>
  obtain⟨i,l,w',rfl,d,b,m⟩:=hcut;have ai:(Value.slice i (r.items.length+1) l).ownBlock≠some (w.heap.size+1):=by
   rcases m with e|e
   ·rw[e];exact Pc ac
   ·intro e2;have:=e _ e2;have h9:=ab.lt;omega
  have f:=N.grown b (Pc H);have R:=(az.grown b ac).D1 (p:=Y p 0) ad (.slice i (r.items.length+1) l);have a4:=(ab.grown b a0).D1 (p:=Y p 0) a1 (.slice i (r.items.length+1) l);obtain⟨n0,n1,n2,n3,n4⟩:=Blk.G6 (a:=⟨0,0,0,0,0⟩) a4;obtain⟨q0,q1,q2,q3,q4⟩:=R.M0;obtain⟨o0,o1,o2,o3,o4⟩:=Blk.G6 (a:=⟨0,0,0,0,0⟩) R;simp only at n0 n1 n2 n3 n4 o0 o1 o2 o3 o4;go_wp2;have a5:=R.set5 ⟨0,0,0,0,0⟩;obtain⟨z0,z1,z2,z3,z4⟩:=a5.G6;have hq:=Rg.J3 HH.o.ok ⟨q,s,t,u,y⟩;have a7:r.push ⟨q,s,t,u,y⟩={r with items:=r.items++[⟨q,s,t,u,y⟩]}:=by unfold Rg.push;rw[OB au.o]
  rw[a7]at hq ⊢;have a8:=f.B4 0 (.slice i (r.items.length+1) l);have a9:=bA (p:=Y p 0) d (aB d f zP) (.slice i (r.items.length+1) l);have ba:ag (λj=>j=p\/(Value.slice A r.items.length c).ownBlock=some j) w w':=dl (w1:=D.drew) (ag.B5 (L:=λ_=>False) ay) b (λ_ h=>h.elim) (λk e=>.inr e);have S:=(ba.setCell (p:=Y p 0) (.inl (.inl rfl)) (.slice i (r.items.length+1) l)).set5 (g:=w.heap.size+1) (.inr (OW _)) 0 ⟨0,0,0,0,0⟩;have T:RgV (set5 (w'.setCell (Y p 0) (.slice i (r.items.length+1) l)) (w.heap.size+1) 0 ⟨0,0,0,0,0⟩) p B (.slice i (r.items.length+1) l) {r with items:=r.items++[⟨q,s,t,u,y⟩]}:=by
   refine⟨(gG _ _ _ _ p (Pc ad)).trans (show Blk (w'.setCell (Y p 0) (.slice i (r.items.length+1) l)) p 348 _ by simpa using a8),?_,hq⟩;have bb:=nZ a9 ai 0 ⟨0,0,0,0,0⟩;simpa[advs,Adv.cells]using bb
  unfold set5 at z0 z1 z2 z3 z4 S T;simp only[PS]at z0 z1 z2 z3 z4 S T;refine OH (v:=.tuple #[.agg #[I 0,I 0,I 0,I 0,I 0],.bool false]) (by simp[results,results363,go_sem,z0,z1,z2,z3,z4]) rfl ?_;have U:=m.imp id λh k hk=>OJ aa.size (h k hk);exact⟨rfl,_,T,S,U⟩
def Ef{W5:World}{p N4 c:Nat}{r:Rg Adv}{x1 x2 x3 x4 x5 y1 y2 y3 y4 y5:Int}(h5:RgV W5 p B (V g 0 r.items.length c) r)(hfl:r.from_<r.items.length)(hgp:g≠p)(hgs:g<w.heap.size)(hb5:M w W5)
  (bo5:Blk W5 (w.heap.size+1) 62 (Adv.arr ⟨0,0,0,0,0⟩))(by5:Blk W5 N4 62 (Adv.arr ⟨y1,y2,y3,y4,y5⟩))(hN:w.heap.size+2<=N4):
  ∃W6,(((((W5.setCell (Y g (r.from_*5)) (I x1)).setCell (Y g (r.from_*5+1)) (I x2)).setCell (Y g (r.from_*5+2)) (I x3)).setCell (Y g (r.from_*5+3)) (I x4)).setCell (Y g (r.from_*5+4)) (I x5)).drew=W6/\
   W6.ownsRow B 62 5 (V g 0 r.items.length c) r.items.length (advs (r.items.set r.from_ ⟨x1,x2,x3,x4,x5⟩))/\
   Blk W6 p 348 #[V g 0 r.items.length c,I (r.from_:Int),I (r.room:Int)]/\Blk W6 (w.heap.size+1) 62 (Adv.arr ⟨0,0,0,0,0⟩)/\Blk W6 N4 62 (Adv.arr ⟨y1,y2,y3,y4,y5⟩)/\
   ag (λj=>j=p\/(V g 0 r.items.length c).ownBlock=some j) w W6:=by
 have a:(set5 W5 g (r.from_*5) ⟨x1,x2,x3,x4,x5⟩).ownsRow B 62 5 (V g 0 r.items.length c) r.items.length (advs (r.items.set r.from_ ⟨x1,x2,x3,x4,x5⟩)):=If h5.own rfl hfl rfl ⟨x1,x2,x3,x4,x5⟩;have b:=(gG W5 g (r.from_*5) ⟨x1,x2,x3,x4,x5⟩ p (Pc hgp)).trans h5.B0;have d:=(gG W5 g (r.from_*5) ⟨x1,x2,x3,x4,x5⟩ (w.heap.size+1) zO).trans bo5;have f:=(gG W5 g (r.from_*5) ⟨x1,x2,x3,x4,x5⟩ N4 zO).trans by5;have h:ag (λj=>j=p\/(V g 0 r.items.length c).ownBlock=some j) w (set5 W5 g (r.from_*5) ⟨x1,x2,x3,x4,x5⟩):=ag.set5 (ag.B5 hb5) (.inl (.inr rfl)) (r.from_*5) ⟨x1,x2,x3,x4,x5⟩;have e:(((((W5.setCell (Y g (r.from_*5)) (I x1)).setCell (Y g (r.from_*5+1)) (I x2)).setCell (Y g (r.from_*5+2)) (I x3)).setCell (Y g (r.from_*5+3)) (I x4)).setCell (Y g (r.from_*5+4)) (I x5))=set5 W5 g (r.from_*5) ⟨x1,x2,x3,x4,x5⟩:=rfl;rw[e];clear e;generalize set5 W5 g (r.from_*5) ⟨x1,x2,x3,x4,x5⟩=T at*;exact⟨T.drew,rfl,a,b,d,f,h.drew⟩
def Cd(B:Nat)(sl:Value)(r:Rg Adv)(x:Adv)(w:World)(h:RgV w p B sl r)(hB:B<=w.heap.size)(hlt:¬r.items.length<r.room):
  Calls prog 363 #[.pointer (some ⟨p,0,none⟩),x.val] w λe w'=>e=.returned (.tuple #[(r.list.head?.getD Adv.zero).val,.bool true])/\∃sl',RgV w' p B sl' (r.push x)/\ag (λj=>j=p\/sl.ownBlock=some j) w w'/\(sl'.ownBlock=sl.ownBlock\/∀k,sl'.ownBlock=some k->w.heap.size<=k):=by
 obtain⟨x1,x2,x3,x4,x5⟩:=x;have X:Below w.heap.size w (((w.alloc (.cells (Adv.arr ⟨x1,x2,x3,x4,x5⟩) 62)).alloc (.cells (Adv.arr ⟨0,0,0,0,0⟩) 62)).alloc (.cells (Adv.arr ⟨0,0,0,0,0⟩) 62)):=ae (ae (ae (Oy _ _) _) _) _;have bx:Blk (((w.alloc (.cells (Adv.arr ⟨x1,x2,x3,x4,x5⟩) 62)).alloc (.cells (Adv.arr ⟨0,0,0,0,0⟩) 62)).alloc (.cells (Adv.arr ⟨0,0,0,0,0⟩) 62)) w.heap.size 62 (Adv.arr ⟨x1,x2,x3,x4,x5⟩):=((Blk.A8 _ _ _ rfl).alloc _).alloc _;have bo:Blk (((w.alloc (.cells (Adv.arr ⟨x1,x2,x3,x4,x5⟩) 62)).alloc (.cells (Adv.arr ⟨0,0,0,0,0⟩) 62)).alloc (.cells (Adv.arr ⟨0,0,0,0,0⟩) 62)) (w.heap.size+1) 62 (Adv.arr ⟨0,0,0,0,0⟩):=(Blk.A8 _ _ _ (by simp)).alloc _;have bn:Blk (((w.alloc (.cells (Adv.arr ⟨x1,x2,x3,x4,x5⟩) 62)).alloc (.cells (Adv.arr ⟨0,0,0,0,0⟩) 62)).alloc (.cells (Adv.arr ⟨0,0,0,0,0⟩) 62)) (w.heap.size+1+1) 62 (Adv.arr ⟨0,0,0,0,0⟩):=Blk.A8 _ _ _ (by simp);have de:=h.B0.lt;have i:=h.ok;have cg:=i.F5;have ch:=i.pos;have N:=h.up X;obtain⟨A,c,rfl,_,_⟩:=ak h.own;have HH:=Z1 h;unfold Adv.val Adv.zero;unfold Adv.arr at X bx bo bn N;clear h;have hl:r.items.length=r.room:=by have:=i.fits;omega
 have Q:r.from_<r.items.length:=by have:=i.lt;omega
 obtain⟨hj,t⟩:=Rg.head i hlt;rw[t];obtain⟨g,cc,n,df,l,dg,v0,v1,v2,v3,v4,ci⟩:=tI HH.o.own rfl Q;injection n with be _ bf;subst be bf;have cj:¬(r.items.length:Int)<(r.room:Int):=by omega
 have dh:((r.room:Int)==0)=false:=by simp;omega
 have di:¬r.room=0:=by omega
 have ck:(IntKind.i64.wrap ((r.from_:Int)+1)).tmod (r.room:Int)=(((r.from_+1)%r.room:Nat):Int):=by
  rw[IntWalk.i64_in _ ⟨by omega,by omega⟩,Ra (by omega)];push_cast;rfl
 have HF:=Z3 hlt t hl;have dj:=i.lt;have dk:(r.from_:Int)<(r.items.length:Int):=by omega
 clear i hlt hl t;generalize r.items[r.from_]=y at*;obtain⟨u,z,D,F,G⟩:=y;simp only at v0 v1 v2 v3 v4;simp only[Qd]
 go_in
 go_upto_region 2 with fail
 generalize (((w.alloc (.cells #[.int .i64 x1,.int .i64 x2,.int .i64 x3,.int .i64 x4,.int .i64 x5] 62)).alloc (.cells #[.int .i64 0,.int .i64 0,.int .i64 0,.int .i64 0,.int .i64 0] 62)).alloc (.cells #[.int .i64 0,.int .i64 0,.int .i64 0,.int .i64 0,.int .i64 0] 62))=W3 at*;have c0:=N.c0;have O:=N.c1;have P:=N.c2;go_wp2;refine cM (by kernel_rfl) (by kernel_rfl) ?_;repeat still_step
 refine wpStill_nil ?_;go_upto_region 7 with fail
 have h4:RgV W3.drew p B _ r:=N.drew;have m:=X.drew;have bh:=bx.drew;have ac:=bo.drew;clear N X bx bo bn c0 O P;generalize W3.drew=d at*;have d0:=h4.c0;have d1:=h4.c1;have w0:=(OF m (p:=⟨g,r.from_*5,none⟩) l).trans v0;have w1:=(OF m (p:=⟨g,r.from_*5+1,none⟩) l).trans v1;have w2:=(OF m (p:=⟨g,r.from_*5+2,none⟩) l).trans v2;have w3:=(OF m (p:=⟨g,r.from_*5+3,none⟩) l).trans v3;have w4:=(OF m (p:=⟨g,r.from_*5+4,none⟩) l).trans v4;clear v0 v1 v2 v3 v4;have R:=h4.B0.lt;have b:g<d.heap.size:=OV l m.size;have ad:Below d.heap.size d d.drew:=(Oy _ _).drew;refine zH (S:=λW=>Below d.heap.size d W) ad ?_;refine zQ 3 _ ?_ (hy:=λW hW=>by have e0:=(OF hW (p:=⟨p,0,none⟩) R).trans d0;exact zf);refine zQ 7 _ ?_ (hy:=λW hW=>by have n:=(OF hW (p:=⟨p,1,none⟩) R).trans d1;exact zf);refine zq 9 _ ?_ (hy:=λW hW=>by have e0:=(OF hW (p:=⟨g,r.from_*5,none⟩) b).trans w0;have n:=(OF hW (p:=⟨g,r.from_*5+1,none⟩) b).trans w1;have e2:=(OF hW (p:=⟨g,r.from_*5+2,none⟩) b).trans w2;have e3:=(OF hW (p:=⟨g,r.from_*5+3,none⟩) b).trans w3;have e4:=(OF hW (p:=⟨g,r.from_*5+4,none⟩) b).trans w4;exact zf);refine zo 10 λK hK=>?_;go_simp;have bk:Below d.heap.size d (d.drew.alloc (.cells #[.int .i64 0,.int .i64 0,.int .i64 0,.int .i64 0,.int .i64 0] 62)):=ae ad _;refine zJ hK bk ?_;refine zo 11 λK hK=>?_;go_simp;refine hK _ _ (ae (Oy _ _) _).drew ?_;clear hK;refine zn ?_;refine zd ?_;have f:Below d.heap.size d (d.alloc (.cells #[.int .i64 u,.int .i64 z,.int .i64 D,.int .i64 F,.int .i64 G] 62)).drew:=(ae (Oy _ _) _).drew;have bl:Blk (d.alloc (.cells #[.int .i64 u,.int .i64 z,.int .i64 D,.int .i64 F,.int .i64 G] 62)).drew d.heap.size 62 (Adv.arr ⟨u,z,D,F,G⟩):=Blk.A8 _ _ _ rfl;have L:=h4.up f;have bm:=af m f;have bp:=bh.later f;have bq:=ac.later f;have br:d.heap.size>=w.heap.size+2:=by have:=ac.lt;omega
 generalize dl:d.heap.size=N4 at*;generalize (d.alloc (.cells #[.int .i64 u,.int .i64 z,.int .i64 D,.int .i64 F,.int .i64 G] 62)).drew=W5 at*;have c0:=L.c0;have O:=L.c1;have P:=L.c2;have u0:=(OF f (p:=⟨g,r.from_*5,none⟩) b).trans w0;have u1:=(OF f (p:=⟨g,r.from_*5+1,none⟩) b).trans w1;have u2:=(OF f (p:=⟨g,r.from_*5+2,none⟩) b).trans w2;have u3:=(OF f (p:=⟨g,r.from_*5+3,none⟩) b).trans w3;have u4:=(OF f (p:=⟨g,r.from_*5+4,none⟩) b).trans w4;obtain⟨g2,dm,n,_,_,_,_,_,_,_,_,q⟩:=tI L.own rfl Q;obtain rfl:g=g2:=by injection n with n _ _;injection n with n;injection n
 have q0:=q (r.from_*5);have q1:=q (r.from_*5+1);have q2:=q (r.from_*5+2);have q3:=q (r.from_*5+3);have q4:=q (r.from_*5+4);obtain⟨x6,x7,x8,x9,ah⟩:=Blk.G6 (a:=⟨x1,x2,x3,x4,x5⟩) bp;simp only at x6 x7 x8 x9 ah;have bz:g≠p:=λe=>aB L.own L.B0 (by decide) (by rw[<-e];rfl);clear n w0 w1 w2 w3 w4 d0 d1;go_upto_region 8 with fail
 refine zb 10 ?_;repeat still_step
 refine wpStill_nil ?_;go_upto_region 9 with fail
 obtain⟨W6,e6,H,s,ai,aj,al⟩:=Ef (x1:=x1) (x2:=x2) (x3:=x3) (x4:=x4) (x5:=x5) L Q bz l bm bq bl br;rw[e6];clear e6 c0 O P u0 u1 u2 u3 u4 q0 q1 q2 q3 q4 x6 x7 x8 x9 ah L q;have O:=s.cell 1;have P:=s.cell 2;have f1:=s.frozen 1;simp at O P;refine zb 13 ?_;repeat still_step
 refine wpStill_nil ?_;go_upto_region 10 with fail
 have b7:Blk (W6.setCell ⟨p,1,none⟩ (.int .i64 (((r.from_:Int)+1)%(r.room:Int)))) p 348 #[.slice (some ⟨g,0,none⟩) r.items.length c,.int .i64 (((r.from_:Int)+1)%(r.room:Int)),.int .i64 (r.room:Int)]:=s.B4 1 _;have o7:=bA (p:=⟨p,1,none⟩) H (aB H s (by decide)) (.int .i64 (((r.from_:Int)+1)%(r.room:Int)));have am:=ai.D1 (p:=⟨p,1,none⟩) (by show w.heap.size+1≠p;omega) (.int .i64 (((r.from_:Int)+1)%(r.room:Int)));have an:=aj.D1 (p:=⟨p,1,none⟩) (by show N4≠p;omega) (.int .i64 (((r.from_:Int)+1)%(r.room:Int)));have k7:=al.setCell (p:=⟨p,1,none⟩) (.inl (.inl rfl)) (.int .i64 (((r.from_:Int)+1)%(r.room:Int)));clear s H ai aj al O P f1;generalize (W6.setCell ⟨p,1,none⟩ (.int .i64 (((r.from_:Int)+1)%(r.room:Int))))=T at*;have b8:Blk T.drew p _ _:=b7;have o8:T.drew.ownsRow B _ 5 _ _ _:=o7;have U:Blk T.drew (w.heap.size+1) _ _:=am;have b6:Blk T.drew N4 _ _:=an;have k8:=k7.drew;clear b7 o7 am an k7;generalize T.drew=W8 at*;obtain⟨y6,y7,y8,y9,ca⟩:=b6.G6;obtain⟨f0,f1,f2,f3,f4⟩:=U.M0;obtain⟨o0,o1,o2,o3,o4⟩:=U.G6;simp only at y6 y7 y8 y9 ca o0 o1 o2 o3 o4;have ao:=U.set5 ⟨u,z,D,F,G⟩;have b9:=(gG W8 (w.heap.size+1) 0 ⟨u,z,D,F,G⟩ p (by omega)).trans b8;have o9:=nZ o8 (g:=w.heap.size+1) (λe=>by simp[Value.ownBlock]at e;omega) 0 ⟨u,z,D,F,G⟩;have k9:=k8.set5 (g:=w.heap.size+1) (.inr (OW _)) 0 ⟨u,z,D,F,G⟩;obtain⟨z0,z1,z2,z3,z4⟩:=ao.G6;unfold set5 at z0 z1 z2 z3 z4 b9 o9 k9;simp only[PS]at z0 z1 z2 z3 z4 b9 o9 k9;clear ao;go_wp2;have hq:=Rg.J3 HH.o.ok ⟨x1,x2,x3,x4,x5⟩;have cd:r.push ⟨x1,x2,x3,x4,x5⟩=⟨r.items.set r.from_ ⟨x1,x2,x3,x4,x5⟩,(r.from_+1)%r.room,r.room⟩:=by unfold Rg.push;rw[Oz HF.o.1]
 rw[cd]at hq ⊢;have ce:(((r.from_:Int)+1)%(r.room:Int))=(((r.from_+1)%r.room:Nat):Int):=by push_cast;rfl
 rw[ce]at b9;refine OH (v:=.tuple #[.agg #[.int .i64 u,.int .i64 z,.int .i64 D,.int .i64 F,.int .i64 G],.bool true]) (by simp[results,results363,go_sem,z0,z1,z2,z3,z4]) rfl ?_;have cf:RgV _ p B (.slice (some ⟨g,0,none⟩) r.items.length c) ⟨r.items.set r.from_ ⟨x1,x2,x3,x4,x5⟩,(r.from_+1)%r.room,r.room⟩:=⟨b9,by simpa using o9,hq⟩;exact⟨rfl,_,cf,k9,.inl rfl⟩
section
open Go.Shelf
set_option maxRecDepth 100000
attribute [local go_sem] Oper.semAt_some
end
def Eg{α:Type}{S:Nat->Prop}(W0:World)(hS:∀k,S k->k<B):OwnFrom B (λ(_:List α) W=>el S W0 W/\B<=W.heap.size):=λs W g f a c d=>
 ⟨λk b=>(c.block k (by have:=hS k b;have:=a.2;omega) λe=>by have:=(d k e.symm).1;have:=hS k b;omega).trans (a.1 k b),OJ a.2 c.size⟩
def vT(w:World)(t:TypeId)(x1 x2 x3 x4 x5:Int):∀(j:Nat) (u:Value),(Adv.cells ⟨x1,x2,x3,x4,x5⟩)[j]?=some u->(w.alloc (.cells #[I x1,I x2,I x3,I x4,I x5] t)).cell? (((Y w.heap.size 0):Addr).add j)=some u:=by
 intro j u a;rw[show((Y w.heap.size 0):Addr).add j=(Y w.heap.size j) by unfold Addr.add;split<;>simp_all];rw[Qg];simpa[Adv.cells]using a
section
open Go.Shelf
set_option maxRecDepth 100000
attribute [local go_sem] Oper.semAt_some
def Ih(n:Nat)(hn:1<=n)(l Bb p B tb:Nat)(sl:Value)(r:Rg Adv)(J Jx:List Adv->World->Prop)
  (hY:∀pre x W,J pre W->pre.length<r.list.length->YieldAt Fence.wide (n-1) prog l #[x.val] W λe W'=>
   (e=.returned (.bool true)/\J (pre++[x]) W'/\el (wK p Bb sl) W W')\/(e=.returned (.bool false)/\Jx (pre++[x]) W'))
  (hJd:∀pre W W',J pre W->M W W'->J pre W')
  (W:World)(hBn:Blk W Bb tb #[Z p 0])(hR:RgV W p B sl r)(h0:J [] W):
  CallsIn Fence.wide n prog 221 #[.func (.yield l) #[] #[],Z Bb 0] W λe W'=>(∃v,e=.returned v)/\
   ((∃ys,ys=r.list/\J ys W')\/(∃pre,pre <+:r.list/\pre≠[]/\Jx pre W')):=by
 have H:=Rg.length r;have y:=hR.ok.F5;have z:=hR.ok.fits;refine callsIn_of_wp func221 rfl trivial ?_ rfl;simp only[ntmps221,OD,OC,OE,Nat.reduceAdd,Nat.reduceSub,Qu,Qv,QJ,QD,QA,PY];have A:=hBn.cell 0;simp at A;gi_wp2;refine⟨trivial,(callsIn_wide.2 (rk p B sl r _ hR)).mono ?_⟩;rintro e N ⟨rfl,rfl⟩;gi_wp2
 gi_loopw [8] (λi wr=>∃k:Nat,k<=r.items.length/\i=I k/\J (r.list.take k) wr/\el (wK p Bb sl) W wr) (λi _=>r.items.length-(intOf i).toNat)
 case atStart=>exact⟨0,OK _,rfl,by simpa using h0,el.refl _ _⟩
 case round=>
  obtain⟨k,O,rfl,a,b⟩:=hrel;have h:=(hR.same b).R0 (Bb:=Bb) (Blk.lt (show Blk wr Bb tb #[Z p 0]from(b Bb (.inr rfl)).trans hBn));by_cases L:k<r.items.length
  ·have d:k<r.list.length:=zO;have P:wr.cell? (Y Bb 0)=some (Z p 0):=by
    have c:Blk wr Bb tb #[Z p 0]:=(b Bb (.inr rfl)).trans hBn;have:=c.cell 0
    simpa using this
   have j:=Lx p B sl r k wr (hR.same b) d;have m:=OG d;generalize r.list[k]=x at*;gi_wp2;refine⟨trivial,(callsIn_wide.2 j).mono ?_⟩;rintro e o ⟨rfl,c⟩;have f:M wr (o.alloc (.cells x.arr 62)):=ae c _;obtain⟨Q,D,q,F,R,s⟩:=hY _ x _ (hJd _ _ _ a f) zT;have G:=Blk.A8 o 62 x.arr rfl;have t:=el.B5 f h;obtain⟨S,T,U,X,x5⟩:=x;obtain⟨g0,g1,g2,g3,g4⟩:=G.G6;unfold Adv.val Adv.arr at*;simp only at*;gi_wp2;refine s.mono ?_;rintro e W3 (⟨rfl,u,w⟩|⟨rfl,g⟩)
   ·gi_wp2;go_roundw
    case rel=>exact⟨k+1,zO,zS,by rw[m];exact u,b.trans (t.trans w)⟩
    case measure=>simp[intOf];omega
   ·gi_wp2;refine OH (Pb rfl _ _ _) rfl ?_;exact⟨⟨_,rfl⟩,.inr ⟨_,⟨r.list.drop (k+1),by rw[<-m,Qr]⟩,zS,g⟩⟩
  ·obtain rfl:k=r.items.length:=zO;rw[OT zO]at a;gi_wp2
   go_end0
   exact⟨⟨_,rfl⟩,.inl ⟨_,rfl,a⟩⟩
def Ii(v:Option Addr)(w:World):C 200 #[.pointer v] w λe w'=>e=.returned (.func (.func 221) #[] #[Z w.heap.size 0])/\w.alloc (.cells #[.pointer v] 275)=w':=by
 go_in
 go_wp2;go_ret;exact⟨rfl,rfl⟩
def Nc(n:Nat)(hn:1<=n)(Bb p B tb:Nat)(sl:Value)(r:Rg Adv)(w:World)(hBn:Blk w Bb tb #[Z p 0])(hR:RgV w p B sl r):
  SeqStopsK Fence.wide n prog 221 #[Z Bb 0] (λx:Adv=>#[x.val]) (el (wK p Bb sl)) (λys=>ys=r.list) (λpre=>pre <+:r.list/\pre≠[]) r.list.length w:=λl J b W hW c _ d f=>
 (Ih n hn l Bb p B tb sl r J b d (λpre g j h a=>c pre g j none h ⟨a.os,a.tape,a.output,a.size,λi k _=>a.block i k⟩ (λ_ e=>by cases e)) W (hBn.later hW) (hR.up hW) f).mono
  λe t ⟨m,h⟩=>⟨m,h.imp id λ⟨pre,o,q,s⟩=>⟨pre,⟨o,q⟩,s⟩⟩
def AxV(N:Nat)(pt:Option Addr)(sz:Nat)(x:Adv)(a:Act)(W:World):Prop:=
 ∃b,N<=b/\b≠sz/\Blk W b 62 x.arr/\a={tmps:=#[.pointer pt,undef,.slice none 0 0,Z sz 0,Z b 0,.pointer pt,.func (.func 221) #[] #[Z (sz+1) 0],x.val,undef,undef,undef,undef,undef],defers:=[]}
def Ij(S0:Nat->Prop)(L:List Adv)(w:World)(hS0:∀k,S0 k->k<w.heap.size)(hL:L.length<=4096)
  (hst:SeqStopsK Fence.wide 2 prog 221 #[Z (w.heap.size+1) 0] (λx:Adv=>#[x.val]) (el λk=>S0 k\/k=w.heap.size+1) (λys=>ys=L) (λpre=>pre <+:L/\pre≠[]) L.length
   ((w.alloc (.cells #[.slice none 0 0] 49)).alloc (.cells #[.pointer pt] 275))):
  C 168 #[.pointer pt] w λe w'=>∃v,e=.returned v/\aL 5 w w' 62 v L.length (advs L):=by
 obtain⟨i0,hi,X,aa,ab⟩:=info_parts jg.info;refine(callsIn_wide (n:=3)).1 ?_;refine callsIn_of_wp_marks func168 rfl trivial ?_ rfl;simp only[ntmps168,OD,OC,OE,Nat.reduceAdd,Nat.reduceSub,Qu,Qv,QJ,QD,QA,PY];gi_wp2;refine⟨trivial,(callsIn_wide.2 (Ii _ _)).mono ?_⟩;rintro e w' ⟨rfl,rfl⟩;gi_wp2;have bO:=Boxed.new w 49 (.slice none 0 0);have ac:M w ((w.alloc (.cells #[.slice none 0 0] 49)).alloc (.cells #[.pointer pt] 275)):=((Oy _ w).alloc (OA _) _).alloc zS _;have bN:Blk ((w.alloc (.cells #[.slice none 0 0] 49)).alloc (.cells #[.pointer pt] 275)) (w.heap.size+1) 275 #[.pointer pt]:=Blk.A8 _ _ _ zS;have j:∀k,(S0 k\/k=w.heap.size+1)->k<((w.alloc (.cells #[.slice none 0 0] 49)).alloc (.cells #[.pointer pt] 275)).heap.size:=by
  rintro k (f|rfl)
  ·have:=hS0 k f;simp;omega
  ·simp
 have Q:∀k,(S0 k\/k=w.heap.size+1)->k≠w.heap.size:=by
  rintro k (f|rfl)
  ·have:=hS0 k f;omega
  ·omega
 refine wpIn_rangeFunc_ownH rfl zP (gf:=221) (lb:=#[Z (w.heap.size+1) 0]) rfl trivial (enters_of func221 zR rfl)
  hst (λh k=>h.trans k) (λW l o o' hl R S h3=>el.put j W l o o' hl R S h3) (Oy _ _) (λ_=>rfl)
  (λpre W=>((∃v,Boxed W w.heap.size 49 v/\W.ownsRow w.heap.size 62 5 v pre.length (advs pre)/\True)/\M w W)/\(el (λk=>S0 k\/k=w.heap.size+1) ((w.alloc (.cells #[.slice none 0 0] 49)).alloc (.cells #[.pointer pt] 275)) W/\((w.alloc (.cells #[.slice none 0 0] 49)).alloc (.cells #[.pointer pt] 275)).heap.size<=W.heap.size))
  (λ_ _ _=>False)
  (OwnFrom.and (OwnFrom.and (Own.from (holdsRow_own w.heap.size w.heap.size 49 62 5 (λ(pre:List Adv)=>pre.length) (λpre=>advs pre) λ_ _=>True) _) (ownFrom_below (OA _) zT)) (Eg _ j))
  (λ_ _ _ _ _ hs _ _=>hs)
  ⟨⟨⟨_,bO.alloc _,Pn _ _ _ _,trivial⟩,ac⟩,el.refl _ _,OA _⟩
  (AxV (w.heap.size+2) pt w.heap.size) ?hAx ?assign ?body ?done ?stop
 case hAx=>
  rintro x a' _ W W' a5 ⟨b,R,S,u,e⟩ hg hr;refine⟨b,R,S,(hg.block b u.lt λy=>?_).trans u,e⟩;obtain⟨_,o,ho,T⟩:=hr b y.symm;unfold Blk at u;rw[u]at ho
  cases ho
  cases T
 case assign=>
  intro l pre x W K z hK;obtain⟨A,B,F,G,H⟩:=x;unfold Adv.val;gi_wp2;have i:M W (W.alloc (.cells (Adv.arr ⟨A,B,F,G,H⟩) 62)):=ae (Oy _ _) _;refine hK _ _ ((KeepsOthers.alloc W _).from _) (el.B5 i λk f=>OV (j k f) z.2.2) ?_ ⟨W.heap.size,?_,?_,Blk.A8 W 62 (Adv.arr ⟨A,B,F,G,H⟩) rfl,rfl⟩
  ·obtain⟨⟨⟨v,t,d,_⟩,g⟩,p,m⟩:=z;exact⟨⟨⟨v,t.alloc _,d.alloc _,trivial⟩,g.alloc g.size _⟩,p.trans (el.B5 i λk f=>OV (j k f) m),OJ m i.size⟩
  ·have:=z.2.2;simp at this;omega
  ·have:=z.2.2;simp at this;omega
 case body=>
  rintro l pre x a W _ _ ⟨⟨⟨v,t,d,_⟩,g⟩,p,m⟩ ⟨b,a6,i,N,rfl⟩ a7;have T:=t.cell;have a8:pre.length<4096:=zO;obtain⟨Av,cv,rfl,_,_⟩:=ak d;obtain⟨A,B,F,G,H⟩:=x;obtain⟨g0,g1,g2,g3,g4⟩:=N.G6;simp only at g0 g1 g2 g3 g4;clear N
  gi_wp2_with (gi_at_builtin;refine wpListIn_append_own _ rfl _ _ 49 rfl w.heap.size 62 i0 _ 5 40 jg.under hi X aa ab rfl zP _ _ _ rfl (d.alloc _) (Y W.heap.size 0) 1 1 (Adv.cells ⟨A,B,F,G,H⟩) rfl rfl (vT _ _ _ _ _ _ _) (by simp[Adv.cells,Value.oneCell']) zU zO (by have:=g.size;simp;omega) ?_;intro v' w1 q r _;obtain⟨g',U,rfl⟩:=ownsRow_succ q;obtain⟨O,ag,ah,P,i⟩:=t.appended zP d g.size (OA _) q r;have a9:=O.cell;have ba:=O.frozen)
  have ai:=(p _ (.inr rfl)).trans bN;have aj:=aB d ai zP;have s:el (λk=>S0 k\/k=w.heap.size+1) W (w1.setCell (Y w.heap.size 0) (V g' 0 (pre.length+1) U)):=by
   intro k f;have al:=OV (j k f) m;refine(Pd w1 _ _ k (Q k f)).trans ((r.block k zT ?_).trans (Qh W _ k al));intro e;have y:=e.symm
   rcases f with f|rfl
   ·have:=(d.lt _ y).1;have:=hS0 k f;omega
   ·exact aj y
  exact⟨P.from _,s,⟨⟨⟨_,ag,by simpa[advs]using ah,trivial⟩,g.trans i⟩,p.trans s,OJ m P.size⟩⟩
 case done=>
  rintro D ys W hD rfl ⟨⟨⟨v,t,d,_⟩,g⟩,_⟩ hK;have T:=t.cell;gi_wp2;refine⟨zS,.inl ⟨_,_,rfl,run_takeDeferred hK,?_⟩⟩;exact⟨_,results_tmp rfl _ _ _,v,rfl,ownsRow_putObj d _ hK rfl,g.trans (belowK_b (w:=w) (OA _) W D _ _ (by simp at hD;omega) hK rfl rfl)⟩
 case stop=>
  rintro D c pre W _ _ h _;exact h.elim
def Eh(B:Nat)(sl:Value)(r:Rg Adv)(w:World)(hR:RgV w p B sl r):
  C 168 #[Z p 0] w λe w'=>∃v,e=.returned v/\aL 5 w w' 62 v r.list.length (advs r.list):=by
 have a:M w ((w.alloc (.cells #[.slice none 0 0] 49)).alloc (.cells #[Z p 0] 275)):=((Oy _ w).alloc (OA _) _).alloc zS _;have f:=Rg.length r;have b:=hR.ok.F5;have c:=hR.ok.fits;refine Ij _ (λk=>k=p\/sl.ownBlock=some k) r.list w ?_ zO (Nc 2 zP (w.heap.size+1) p B 275 sl r _ (Blk.A8 _ _ _ zS) (hR.up a));rintro k (rfl|d)
 ·exact hR.B0.lt
 ·exact(hR.own.lt k d).2
end
def wL(l:List Adv):∀u∈advs l,u.oneCell'=true:=by
 intro u a;unfold advs at a;obtain⟨x,_,b⟩:=QU.1 a;simp[Adv.cells]at b
 rcases b with rfl|rfl|rfl|rfl|rfl<;>rfl
def yZ(xs:List Adv)(A:Option Addr)(c n:Nat)(w:World)(hr:an w w.heap.size 5 A n (advs xs))(hn:n<=100000):
  C 109 #[.slice A n c] w λe w'=>∃v,e=.returned v/\aL 5 w w' 62 v n (advs xs):=by
 rcases A with _|b
 ·have a:n=0:=by
   rcases PR n with a|a
   ·exact a
   ·obtain⟨b,h,_⟩:=hr.2 a
    cases h
  subst a;have d:=OU (by simpa using hr.1);rw[d];clear hr d;have q:∀w,(binOp .eql 49 (.slice none 0 c) (.slice none 0 0)).run prog w=.ok (.bool true) w:=λw=>zR
  go_in
  go_wp2;go_ret;exact⟨_,rfl,aL.F8 5 w 62⟩
 ·have r:=Blk.A8 w 62 #[] (g:=w.heap.size) rfl;have f:=Ik (B:=w.heap.size) (s:=5) r (OA _);have j:=hr.alloc (OA _) (.cells #[] 62);obtain⟨i,t,u,l,m⟩:=info_parts jg.info;have x:=wL xs;have q:∀w,(binOp .eql 49 (.slice (some b) n c) (.slice none 0 0)).run prog w=.ok (.bool false) w:=λw=>zR
  go_in
  go_wp2_with (at_builtin;go_must (refine bP (w.alloc (.cells #[] 62)) rfl (.tmp 5) (.tmp 6) _ rfl w.heap.size 62 i _ 5 40 jg.under t u l m rfl zP _ 0 [] rfl f w.heap.size (some b) n c (advs xs) rfl j x zU zO zS ?_);intro y w' o p _)
  go_ret;refine⟨y,rfl,by simpa using o,?_⟩;exact(ae (Oy _ w) (.cells #[] 62)).grown p zS λk z=>(f.lt k z).1
def Ce(B:Nat)(sl:Value)(r:Rg Adv)(w:World)(h:RgV w p B sl r):
  C 328 #[Z p 0] w λe w'=>∃q sl',e=.returned (Z q 0)/\w.heap.size<=q/\RgV w' q w.heap.size sl' r/\M w w':=by
 have m:=h.c0;have n:=h.c1;have s:=h.c2;have g:=h.B0.lt;have b:=h.ok;have t:=b.fits;have l:=b.F5;obtain⟨A,c,rfl,_,_⟩:=ak h.own;have d:=an.C4 h.own;have u:=Z1 (yZ r.items A c r.items.length w.drew d zO);clear h d
 go_in
 go_wp2;have f:=(zi w);refine zH (S:=λW=>M w W) f ?_;refine zQ 3 _ ?_ (hy:=λW hW=>by have z:=(OF hW (p:=Y p 0) g).trans m;exact zf);refine zQ 8 _ ?_ (hy:=λW hW=>by have D:=(OF hW (p:=Y p 1) g).trans n;exact zf);refine zq 12 _ ?_ (hy:=λW hW=>by have F:=(OF hW (p:=Y p 2) g).trans s;exact zf);refine zo 4 λK hK=>?_;go_simp;refine zX u.o λv j i=>?_;have a:=af f i.below;obtain⟨x,y,rfl,_,_,_⟩:=i.form;refine zJ hK a ?_;refine zo 14 λK hK=>?_;go_simp;have k:M w (j.alloc (.cells #[.slice x r.items.length y,I (r.from_:Int),I (r.room:Int)] 348)):=ae a _;refine zJ hK k ?_;go_wp2;go_ret;refine⟨j.heap.size,_,rfl,a.size,⟨Blk.A8 _ _ _ rfl,?_,b⟩,ae a _⟩;exact(i.alloc _).own
def fq{g':Nat}{t t':TypeId}(h:Blk w g t cs)(h':Blk w g' t' cs')(hne:t≠t'):g≠g':=by
 rintro rfl;unfold Blk at h h';rw[h]at h';injection h' with h';injection h' with _ a;exact hne a
structure HAt(w:World)(q p B:Nat)(sl:Value)(r:Rg Adv):Prop where
 box:Blk w q 313 #[Z p 0]
 rg:RgV w p B sl r
 Bq:B<=q
 Bp:B<=p
def HAt.c0{p:Nat}{sl:Value}{r:Rg Adv}(h:HAt w q p B sl r):w.cell? (Y q 0)=some (Z p 0):=by rw[h.box.cell];rfl
def HAt.up{p:Nat}{sl:Value}{r:Rg Adv}(h:HAt w q p B sl r)(hb:M w w'):HAt w' q p B sl r:=⟨h.box.later hb,h.rg.up hb,h.Bq,h.Bp⟩
def Ei(B:Nat)(sl:Value)(r:Rg Adv)(x:Adv)(w:World)(h:RgV w p B sl r)(hB:B<=w.heap.size):
  C 363 #[Z p 0,x.val] w λe w'=>(∃v,e=.returned v)/\∃sl',RgV w' p B sl' (r.push x)/\ag (λj=>j=p\/sl.ownBlock=some j) w w'/\(sl'.ownBlock=sl.ownBlock\/∀k,sl'.ownBlock=some k->w.heap.size<=k):=by
 by_cases a:r.items.length<r.room
 ·exact(Ee p B sl r x w h hB a).mono λe w' ⟨b,c⟩=>⟨⟨_,b⟩,c⟩
 ·exact(Cd p B sl r x w h hB a).mono λe w' ⟨b,c⟩=>⟨⟨_,b⟩,c⟩
def Il(n:Nat)(w:World)(h1:1<=n)(h2:n<=64):C 321 #[I (n:Int)] w λe w'=>∃q p,e=.returned (Z q 0)/\HAt w' q p w.heap.size (.slice none 0 0) ⟨[],0,n⟩/\M w w':=by
 have a:=Z1 (ej.N5 (cells:=advs) (s:=5) (T:=348) (e:=62) w n h1 zO rfl)
 go_in
 go_wp2_with (go_at_call 327;refine(Ig n _ h1 zO).mono ?_;rintro e w' ⟨rfl,rfl⟩)
 go_ret;refine⟨_,_,rfl,⟨Blk.A8 _ _ _ zS,a.o.up (ae (Oy _ _) _),zS,OA _⟩,ae (ae (Oy _ _) _) _⟩
def ut(q p B:Nat)(sl:Value)(r:Rg Adv)(w:World)(h:HAt w q p B sl r):C 167 #[Z q 0] w λe w'=>e=.returned (Z p 0)/\w=w':=by
 have a:=h.c0
 go_in
 go_wp2;go_ret;exact⟨rfl,rfl⟩
def Ej(q p B:Nat)(sl:Value)(r:Rg Adv)(w:World)(h:HAt w q p B sl r):C 129 #[Z q 0] w λe w'=>∃v,e=.returned v/\aL 5 w w' 62 v r.list.length (advs r.list):=by
 go_in
 go_wp2_with (first|(go_at_call 167;refine(ut _ _ _ _ _ _ h).mono ?_;rintro e w' ⟨rfl,rfl⟩)|(go_at_call 168;refine(Eh _ _ _ _ _ h.rg).mono ?_;rintro e w' ⟨v,rfl,a⟩;have b:=Z1 a;clear a))
 go_ret;exact⟨_,rfl,b.o⟩
def Cf(q p B:Nat)(sl:Value)(r:Rg Adv)(w:World)(h:HAt w q p B sl r):
  C 323 #[Z q 0] w λe w'=>∃q' p' sl',e=.returned (Z q' 0)/\HAt w' q' p' w.heap.size sl' r/\M w w':=by
 have f:=h.c0
 go_in
 go_wp2_with (go_at_call 328;refine(Ce _ _ _ _ _ h.rg).mono ?_;rintro e g ⟨i,d,rfl,b,c,a⟩)
 go_ret;exact⟨_,_,_,rfl,⟨Blk.A8 _ _ _ rfl,c.up (ae (Oy _ _) _),a.size,b⟩,ae a _⟩
def Im(q p B:Nat)(sl:Value)(r:Rg Adv)(x:Adv)(w:World)(h:HAt w q p B sl r)(hB:B<=w.heap.size):
  C 361 #[Z q 0,x.val] w λe w'=>e=.returned (.bool true)/\∃sl',HAt w' q p B sl' (r.push x)/\ag (λj=>j=p\/sl.ownBlock=some j) w w'/\(sl'.ownBlock=sl.ownBlock\/∀k,sl'.ownBlock=some k->w.heap.size<=k):=by
 obtain⟨b,c,d,f,g⟩:=x;have v:0<(r.push ⟨b,c,d,f,g⟩).items.length:=by
  have a:=h.rg.ok;unfold Rg.push;split
  ·simp
  ·have:=a.pos;simp;omega
 have F:=Z1 (λw (h:RgV w p B sl r) hB=>Ei p B sl r ⟨b,c,d,f,g⟩ w h hB);have G:=Blk.A8 w 62 (Adv.arr ⟨b,c,d,f,g⟩) rfl;have i:=zh w (.cells (Adv.arr ⟨b,c,d,f,g⟩) 62);obtain⟨H,L,N,O,P⟩:=G.G6;have y:=h.up i;have l:q≠p:=fq h.box h.rg.B0 zP;have m:∀k,sl.ownBlock=some k->q≠k:=λk a e=>aB h.rg.own h.box zP (by rw[a,e]);have n:=λk a=>(h.rg.own.lt k a).1;have A:=Z3 l m n;clear l m n;unfold Adv.val Adv.arr at*;simp only at*
 go_in
 go_wp2_with (first|(go_at_call 167;refine(ut _ _ _ _ _ _ y).mono ?_;rintro e w' ⟨rfl,rfl⟩)|(go_at_call 363;refine(F.o _ y.rg (OJ hB i.size)).mono ?_;rintro e Q ⟨⟨R,rfl⟩,D,s,t,u⟩;have z:=Z2 t u;clear t u)|(go_at_call 222;refine(rk _ _ _ _ _ s).mono ?_;rintro e w' ⟨rfl,rfl⟩))
 go_ret;refine⟨?_,D,⟨z.o.1.B0 y.box ?_,s,h.Bq,h.Bp⟩,(ag.B5 i).trans z.o.1,z.o.2.imp id λh k a=>OJ i.size (h k a)⟩
 ·simp[v]
 ·rintro(e|e)
  ·exact A.o.1 e
  ·exact A.o.2.1 _ e rfl
def ofS(l:List Adv)(tick hold want:Int):Int×Bool:=if(fH l tick hold).2=true/\want<(fH l tick hold).1 then((fH l tick hold).1,true)else(want,false)
def Ng(l:List Adv)(A:Option Addr)(c n:Nat)(p0 p1 p2 p3 p4 hold tick want:Int)(w:World)(hr:an w w.heap.size 5 A n (advs l))(hl:n<=100000)(ht:aq tick)(hh:aq hold)(hall:∀(k:Nat) (h:k<l.length),aq l[k].tick/\aq l[k].want):
  C 87 #[.agg #[I p0,I p1,I p2,I p3,I p4,I hold],I tick,I want,.slice A n c] w
   (J (.tuple #[I (ofS l tick hold want).1,.bool (ofS l tick hold want).2]) w):=by
 have d:Hid (ofS l tick hold want=if(fH l tick hold).2=true/\want<(fH l tick hold).1 then((fH l tick hold).1,true)else(want,false)):=Z1 rfl
 go_in
 go_wp2_with fail;have g:=zh w (.cells #[I p0,I p1,I p2,I p3,I p4,I hold] 51);refine zm (Ad l _ _ _ tick hold _ (hr.up g) hl ht hh hall) λq i=>?_;have a:=af g i
 rcases hq:fH l tick hold with⟨j,m⟩
 rw[hq]at d;have b:=Z1 d.o;clear d hq
 cases m with
 |false=>
  go_wp2
  go_ret2
  exact⟨by rw[b.o];rfl,a⟩
 |true=>
  by_cases h:want<j
  ·have f:Hid (ofS l tick hold want=(j,true)):=by show _=_;rw[b.o,OB ⟨rfl,h⟩]
   go_wp2
   go_ret2
   exact⟨by rw[f.o];rfl,a⟩
  ·have f:Hid (ofS l tick hold want=(want,false)):=by show _=_;rw[b.o,Oz (by intro p;exact h p.2)]
   go_wp2
   go_ret2
   exact⟨by rw[f.o];rfl,a⟩
def bF(q n:Nat)(cs cs':Array Value):Prop:=cs'.size=cs.size/\∀j,j<q\/q+n<=j->cs'[j]?=cs[j]?
def bF.refl(q n:Nat)(cs:Array Value):bF q n cs cs:=⟨rfl,λ_ _=>rfl⟩
def bF.trans{c:Array Value}(h:bF q n a b)(k:bF q n b c):bF q n a c:=⟨k.1.trans h.1,λj d=>(k.2 j d).trans (h.2 j d)⟩
def bF.B4(h:bF q n a b)(h1:q<=i)(h2:i<q+n)(v:Value):bF q n a (b.setIfInBounds i v):=
 ⟨by rw[Array.size_setIfInBounds];exact h.1,λj c=>by rw[RR zO];exact h.2 j c⟩
def bF.more{q' n':Nat}(h:bF q n a b)(h1:q'<=q)(h2:q+n<=q'+n'):bF q' n' a b:=⟨h.1,λj c=>h.2 j zO⟩
def cP(h:cs[i]?=some u)(v:Value):(cs.setIfInBounds i v)[i]?=some v:=by
 have:=(PX.1 h).1;simp[this]
def bf(h:i≠j)(v:Value):(cs.setIfInBounds i v)[j]?=cs[j]?:=RR h
def mj(w:World)(ht: -9223372036854775808<=t/\t<=9223372036854775807):C 280 #[I t] w λe w'=>e=.returned (.int .u32 (bitN t:Int))/\w=w':=by
 obtain⟨j,k⟩:=ht;by_cases a:0<=t/\t<32
 ·have c:=Z1 (mi a);obtain⟨g,i⟩:=a;have l:¬t<0:=zO;have m:¬32<=t:=zO
  go_in
  go_wp2;go_ret;refine⟨aC ?_,rfl⟩;rw[c.o];have d:=iG t;rw[c.o]at d;have e:((2:Int)^t.toNat)=((2^t.toNat:Nat):Int):=zS;rw[e];generalize 2^t.toNat=b at*;clear e;omega
 ·have c:Hid ((0:Int)=(bitN t:Int)):=by show _=_;rw[lm a];rfl
  have f:t<0\/(¬t<0/\32<=t):=zO;clear a
  rcases f with h|⟨h,n⟩
  all_goals
   go_in
   go_wp2;go_ret;exact⟨aC c.o,rfl⟩
structure bt(w:World)(p q B:Nat)(t:TypeId)(cs:Array Value)(sl:Value)(l:Lk):Prop where
 B0:Blk w p t cs
 line:aQ w B 393 2 sl l.line.length (eJ l.line)
 r:cs[q]?=some (.int .u32 l.r)
 m:cs[q+1]?=some (.int .u32 l.w)
 s:cs[q+2]?=some sl
def bt.c0{p:Nat}{t:TypeId}{sl:Value}(h:bt w p q B t cs sl l):w.cell? (Y p q)=some (.int .u32 l.r):=(h.B0.cell q).trans h.r
def bt.c1{p:Nat}{t:TypeId}{sl:Value}(h:bt w p q B t cs sl l):w.cell? (Y p (q+1))=some (.int .u32 l.w):=(h.B0.cell (q+1)).trans h.m
def bt.c2{p:Nat}{t:TypeId}{sl:Value}(h:bt w p q B t cs sl l):w.cell? (Y p (q+2))=some sl:=(h.B0.cell (q+2)).trans h.s
def bt.up{p:Nat}{t:TypeId}{sl:Value}(h:bt w p q B t cs sl l)(hb:M w w'):bt w' p q B t cs sl l:=
 ⟨h.B0.later hb,h.line.later hb,h.r,h.m,h.s⟩
def bt.D3{p:Nat}{t:TypeId}{sl:Value}(h:bt w p q B t cs sl l)(hne:393≠t){r:Nat}
  (hb:Blk w' p t cs')(hr:cs'[q]?=some (.int .u32 r))(hm:cs'[q+1]?=some (.int .u32 k))(hs:cs'[q+2]?=some sl)(hK:ag (λj=>j=p) w w'):bt w' p q B t cs' sl ⟨r,k,l.line⟩:=
 ⟨hb,h.line.D3 λk a=>hK.block k (h.line.lt k a).2 λe=>h.line.ne h.B0 hne (by rw[a,e]),hr,hm,hs⟩
def ml(q B:Nat)(ty:TypeId)(cs:Array Value)(sl:Value)(l:Lk)(t:Int)(w:World)(h:bt w p q B ty cs sl l)(hl:l.ok)(ht: -9223372036854775808<=t/\t<=9223372036854775807):
  C 272 #[Z p q,I t] w λe w'=>e=.returned (I (eD l t))/\w=w':=by
 have G:=h.c0;have H:=h.c1;have j:=iG t;have s:=Bn l.w (bitN t) hl.w j;have u:=Bn l.r (bitN t) hl.r j;have n:eD l t=if bitN t=0 then 0 else if l.w&&& bitN t≠0 then 2 else if l.r&&& bitN t≠0 then 1 else 0:=rfl
 have k:=mj t w ht;generalize bitN t=b at*;have g:=Z1 n;have f:=Z1 k;clear n k;by_cases i:b=0
 ·have c:Hid (eD l t=0):=by show _=_;rw[g.o,OB i]
  have v:((b:Int)==0)=true:=zT;clear i s u
  go_in
  go_wp2_with fail;refine zY f.o ?_;go_wp2;go_ret;exact⟨aC c.o.symm,rfl⟩
 ·have v:((b:Int)==0)=false:=zT;have m:=Z1 i;clear i;generalize a:l.w&&& b=x at*;generalize d:l.r&&& b=y at*;have D:=Z1 a;have F:=Z1 d;clear a d;by_cases a:x=0
  ·have z:((x:Int) !=0)=false:=zT;by_cases d:y=0
   ·have A:((y:Int) !=0)=false:=zT;have c:Hid (eD l t=0):=by show _=_;rw[g.o,Oz m.o,Oz (by simp[a]),Oz (by simp[d])]
    clear a d
    go_in
    go_wp2_with fail;refine zY f.o ?_;go_wp2;go_ret;exact⟨aC c.o.symm,rfl⟩
   ·have A:((y:Int) !=0)=true:=zT;have c:Hid (eD l t=1):=by show _=_;rw[g.o,Oz m.o,Oz (by simp[a]),OB d]
    clear a d
    go_in
    go_wp2_with fail;refine zY f.o ?_;go_wp2;go_ret;exact⟨aC c.o.symm,rfl⟩
  ·have z:((x:Int) !=0)=true:=zT;have c:Hid (eD l t=2):=by show _=_;rw[g.o,Oz m.o,OB a]
   clear a
   go_in
   go_wp2_with fail;refine zY f.o ?_;go_wp2;go_ret;exact⟨aC c.o.symm,rfl⟩
def lV:cE prog 25 3 (I 0) 1 8:=⟨underlying25,zR,rfl⟩
def jt:cE prog 154 393 (.agg #[I 0,.bool false]) 2 16:=⟨underlying154,zR,rfl⟩
def mm(l:List (Int×Bool)):List Int:=l.map (·.1)
def IF{l:List (Int×Bool)}(h:an w B 2 A n (eJ l)):n=l.length:=by
 have:=h.1;rw[wT]at this;omega
def Bo{l:List (Int×Bool)}(h:an w B 2 A n (eJ l))(hk:k<l.length):
  ∃b o,A=some (Y b o)/\b<B/\w.cell? (Y b (o+k*2))=some (I l[k].1)/\w.cell? (Y b (o+k*2+1))=some (.bool l[k].2):=by
 obtain⟨b,o,rfl,c,a⟩:=h.elem py zP (IF h) hk;exact⟨b,o,rfl,c,a 0 _ rfl,a 1 _ rfl⟩
def kN(q B:Nat)(ty:TypeId)(cs:Array Value)(sl:Value)(l:Lk)(w:World)(h:bt w p q B ty cs sl l)(hn:l.line.length<=1000):
  C 298 #[Z p q] w λe w'=>∃v,e=.returned v/\aL 1 w w' 3 v l.line.length (i64s (mm l.line)):=by
 have Q:=h.c2;obtain⟨A,c,rfl,_,_,x⟩:=h.line.form;generalize l.line=a at*;clear h;generalize j:a.length=n at*;have m:=Z1 j;clear j
 go_in
 go_wp2;go_loopw [3,13] (λv i wr=>∃(k:Nat),k<=n/\i=I k/\aL 1 w wr 3 v k (i64s (mm (a.take k)))) (λ_ i _=>n-(intOf i).toNat)
 case atStart=>exact⟨0,zO,rfl,aL.L8 1 (Oy _ _) _⟩
 case round=>
  obtain⟨k,R,rfl,b⟩:=hrel;by_cases N:k<n
  ·have f:k<a.length:=by have:=m.o;omega
   obtain⟨S,O,rfl,P,y,z⟩:=Bo (x.up b.below) f;have r:=OG f;generalize a[k]=t at*;have D:=Z1 r;obtain⟨F,G⟩:=t;simp only at y z;have d:=b.alloc (.cells #[I F,.bool G] 393);have H:=b.le;clear r
   go_wp2_with (at_builtin;go_must (refine bZ lV zP rfl (.tmp 17) (.tmp 20) rfl rfl d.own d.le zS rfl rfl zV zO zU ?_);intro T w' s u)
   go_roundw
   case rel=>
    refine⟨k+1,zO,by go_num,?_⟩;have L:=d.app u s;rw[D.o];simpa[mm,i64s]using L
   case measure=>simp[intOf];omega
  ·have g:k=n:=zO;have e:a.take k=a:=OT (by have:=m.o;omega);rw[e,g]at b;clear e g;go_wp2;go_ret;exact⟨_,rfl,b⟩
def ry(q B:Nat)(ty:TypeId)(cs:Array Value)(sl:Value)(l:Lk)(b:Bool)(w:World)(h:bt w p q B ty cs sl l):
  C 294 #[Z p q,.bool b] w λe w'=>e=.returned (.bool (fL l b))/\w=w':=by
 have k:=h.c0;have m:=h.c1;have g:fL l b=(decide (l.w=0)&&(!b||decide (l.r=0))):=rfl;have a:=Z1 g;clear g h;generalize l.w=x at*;generalize l.r=y at*;by_cases c:x=0
 ·have i:((x:Int)==0)=true:=zT;by_cases f:y=0
  ·have j:((y:Int)==0)=true:=zT;have d:Hid (fL l b=true):=by show _=_;rw[a.o];simp[c,f]
   clear c f a
   cases b
   all_goals
    go_in
    go_wp2;go_ret;exact⟨cN d.o.symm,rfl⟩
  ·have j:((y:Int)==0)=false:=zT;have d:Hid (fL l b=!b):=by show _=_;rw[a.o];simp[c,f]
   clear c f a
   cases b
   all_goals
    go_in
    go_wp2;go_ret;exact⟨cN d.o.symm,rfl⟩
 ·have i:((x:Int)==0)=false:=zT;have d:Hid (fL l b=false):=by show _=_;rw[a.o];simp[c]
  clear c a
  go_in
  go_wp2;go_ret;exact⟨cN d.o.symm,rfl⟩
def gR(t:Int):List Int->Int->Int
 |[],_=> -1
 |x::r,k=>if x=t then k else gR t r (k+1)
def vU(l:List Int):∀(k:Int),0<=k->decide (0<=gR t l k)=decide (t∈l):=by
 induction l with
 |nil=>intro k _;rfl
 |cons x r ih=>
  intro k a;rw[gR];by_cases h:x=t
  ·rw[OB h];simp[h];exact a
  ·rw[Oz h,ih (k+1) zO];simp[Pc h]
def EF(l:List Int)(A:Option Addr)(c n:Nat)(t:Int)(w:World)(hr:an w w.heap.size 1 A n (i64s l))(hn:n<=100000):
  C 312 #[.slice A n c,I t] w λe w'=>e=.returned (I (gR t l 0))/\w=w':=by
 have h:n=l.length:=by have:=hr.1;simp[i64s]at this;omega
 have j:=Z1 h;clear h
 go_in
 go_wp2;go_loopw [8] (λi wr=>∃(k:Nat),k<=n/\i=I k/\w=wr/\Hid (gR t l 0=gR t (l.drop k) k)) (λi _=>n-(intOf i).toNat)
 case atStart=>exact⟨0,zO,rfl,rfl,Z1 zS⟩
 case round=>
  obtain⟨k,s,rfl,rfl,g⟩:=hrel;by_cases m:k<n
  ·have d:k<l.length:=by have:=j.o;omega
   obtain⟨v,u,rfl,_,f,y⟩:=hr.at_ m;obtain rfl:=ma f d;have p:=Pu d;generalize l[k]=x at*;have q:=Z1 p;clear p f;by_cases b:x=t
   ·subst b;have a:Hid (gR x l 0=k):=by show _=_;rw[g.o,q.o,gR,OB rfl]
    go_wp2;go_ret;exact⟨aC a.o.symm,rfl⟩
   ·have r:¬t=x:=λe=>b e.symm;have a:Hid (gR t l 0=gR t (l.drop (k+1)) (k+1)):=by show _=_;rw[g.o,q.o,gR,Oz b]
    clear b;go_wp2;go_roundw
    case rel=>exact⟨k+1,zO,by go_num,trivial,Z1 (by rw[a.o];push_cast;rfl)⟩
    case measure=>simp[intOf];omega
  ·have e:l.drop k=[]:=Pt (by have:=j.o;omega);have a:Hid (gR t l 0= -1):=by show _=_;rw[g.o,e];rfl
   clear e;go_wp2;go_ret;exact⟨aC a.o.symm,rfl⟩
def jN(l:List Int)(A:Option Addr)(c n:Nat)(t:Int)(w:World)(hr:an w w.heap.size 1 A n (i64s l))(hn:n<=100000):
  C 297 #[.slice A n c,I t] w λe w'=>e=.returned (.bool (decide (t∈l)))/\w=w':=by
 have a:=Z1 (vU t l 0 (Int.le_refl 0))
 go_in
 go_wp2_with fail;refine zY (EF l A c n t w hr hn) ?_;go_wp2;go_ret;exact⟨cN a.o,rfl⟩
def wW(q B:Nat)(ty:TypeId)(cs:Array Value)(sl:Value)(l:Lk)(x:Int×Bool)(w:World)(h:bt w p q B ty cs sl l)(hl:l.ok)(hne:393≠ty)(ht: -9223372036854775808<=x.1/\x.1<=9223372036854775807):
  C 295 #[Z p q,.agg #[I x.1,.bool x.2]] w λe w'=>e=.returned (.tuple #[])/\∃cs',bt w' p q B ty cs' sl (ei l x)/\bF q 3 cs cs'/\ag (λj=>j=p) w w':=by
 obtain⟨t,b⟩:=x;have f:=h.c0;have g:=h.c1;have i:=h.B0.frozen q;have k:=h.B0.frozen (q+1);have a:=iG t;have n:=EC l.w (bitN t) hl.w a;have u:=EC l.r (bitN t) hl.r a;simp only at ht ⊢;have c:=Z1 ht;clear ht hl;have v:=h.B0.lt
 cases b
 ·go_in
  go_wp2
  go_region_with ((go_at_call 280;refine(mj t _ c.o).mono ?_;rintro e d ⟨rfl,rfl⟩))
  all_goals
   go_wp2
   go_end0
   have hK:ag (λj=>j=p) w ((w.setCell {block:=p,off:=q} (Value.int IntKind.u32 ↑(l.r|||bitN t))).alloc (Obj.cells #[I t,Value.bool false] 393)).drew:=(((ag.refl (λj=>j=p) w).setCell (p:=Y p q) (.inl rfl) _).alloc _).drew;exact⟨rfl,_,h.D3 hne (((h.B0.B4 q (Value.int IntKind.u32 ↑(l.r|||bitN t))).alloc (Obj.cells #[I t,Value.bool false] 393)).drew) (cP h.r _) ((bf zO _).trans h.m) ((bf zO _).trans h.s) hK,(bF.refl q 3 cs).B4 (OA _) zO _,hK⟩
 ·go_in
  go_wp2
  go_region_with ((go_at_call 280;refine(mj t _ c.o).mono ?_;rintro e d ⟨rfl,rfl⟩))
  all_goals
   go_wp2
   go_end0
   have hK:ag (λj=>j=p) w ((w.setCell {block:=p,off:=q+1} (Value.int IntKind.u32 ↑(l.w|||bitN t))).alloc (Obj.cells #[I t,Value.bool true] 393)).drew:=(((ag.refl (λj=>j=p) w).setCell (p:=Y p (q+1)) (.inl rfl) _).alloc _).drew;exact⟨rfl,_,h.D3 hne (((h.B0.B4 (q+1) (Value.int IntKind.u32 ↑(l.w|||bitN t))).alloc (Obj.cells #[I t,Value.bool true] 393)).drew) ((bf zO _).trans h.r) (cP h.m _) ((bf zO _).trans h.s) hK,(bF.refl q 3 cs).B4 zO zO _,hK⟩
section
open Go.Shelf Go.WideShapes Go.ChangeShapes Go.Deep
set_option maxRecDepth 100000
structure cV(e:Ev):Prop where
 size:e.cs.size=34
 c0:e.cs[0]?=some (I e.kind)
 c1:e.cs[1]?=some (I e.task)
 c2:e.cs[2]?=some (I e.nth)
 Q7:e.cs[27]?=some (E e.hi)
 Q8:e.cs[28]?=some (E e.lo)
 one:∀u∈e.cs.toList,u.oneCell'=true
 S8:aq e.kind
 Q0:aq e.task
 nthIn:aq e.nth
 hiIn:0<=e.hi/\e.hi<=18446744073709551615
 loIn:0<=e.lo/\e.lo<=18446744073709551615
def cV.all{e:Ev}(h:cV e):e.cs.all (·.oneCell')=true:=Re.2 λu a=>h.one u (Array.mem_toList_iff.2 a)
def AD(l:List Ev)(h:∀e∈l,cV e):(evs l).length=l.length*34:=by
 unfold evs;induction l with
 |nil=>rfl
 |cons e l ih=>
  rw[Qy,OS,ih (λx a=>h x (by simp[a])),OC,QQ,(h e zS).size];omega
def JC(l:List Ev)(h:∀e∈l,cV e)(k j:Nat)(hk:k<l.length)(hj:j<34):(evs l)[k*34+j]?=l[k].cs[j]?:=by
 unfold evs;induction l generalizing k with
 |nil=>simp at hk
 |cons e l ih=>
  have b:=(h e zS).size;rw[Qy]
  cases k with
  |zero=>
   rw[Pk zT];simp
  |succ k=>
   rw[Ph zT];rw[show(k+1)*34+j-e.cs.toList.length=k*34+j by simp;omega];rw[ih (λx a=>h x (by simp[a])) k (by simpa using hk)];rfl
def kA{l:List Ev}(ho:∀e∈l,cV e)(h:an w B 34 A n (evs l)):n=l.length:=by
 have:=h.1;rw[AD l ho]at this;omega
def mw{l:List Ev}(ho:∀e∈l,cV e)(h:an w B 34 A n (evs l))(hk:k<l.length):
  ∃b o,A=some (Y b o)/\b<B/\∀j u,l[k].cs.toList[j]?=some u->w.cell? (Y b (o+k*34+j))=some u:=by
 have i:=kA ho h;obtain⟨b,o,rfl,c,d⟩:=h.J6 (k:=k) zP zO;refine⟨b,o,rfl,c,λj u a=>?_⟩;have f:=(ho _ (OR hk)).size;have g:j<34:=by have:=(OZ.1 a).1;simpa[f]using this
 rw[PQ];refine d _ u ?_;rw[JC l ho k j hk g]
 simpa using a
structure wh(w:World)(fid:FuncId)(lb:Array Value)(pr:Ev->Bool):Prop where
 enter:∀(args:Array Value) (w:World),(callFunc fid args).run prog w=.ok (.enter fid args) w
 call:∀(x:Ev) (W:World),cV x->M w W->C fid (#[.agg x.cs]++lb) W λe W'=>e=.returned (.bool (pr x))/\M W W'
def pL(l:List Ev)(A:Option Addr)(c n:Nat)(fid:FuncId)(lb:Array Value)(pr:Ev->Bool)(w:World)(ho:∀e∈l,cV e)(hr:an w w.heap.size 34 A n (evs l))(hl:n<=100000)(ha:wh w fid lb pr):
  C 67 #[.slice A n c,.func (.func fid) #[] lb] w λe w'=>∃v,e=.returned v/\aL 34 w w' 79 v (l.filter pr).length (evs (l.filter pr)):=by
 have U:=kA ho hr;have X:=Z1 U;have HO:=Z1 ho;have HA:=Z1 ha;have R:=ha.enter;obtain⟨z,hE⟩:=Lj;clear U ho ha
 go_in
 go_wp2;go_loopw [5,10] (λv i wr=>∃(k:Nat),k<=n/\i=I k/\∃(u:Option Addr) (y f:Nat),v=.slice u f y/\Hid (f=((l.take k).filter pr).length/\aL 34 w wr 79 v f (evs ((l.take k).filter pr)))) (λ_ i _=>n-(intOf i).toNat)
 case atStart=>exact⟨0,OK _,rfl,none,0,0,rfl,Z1 ⟨rfl,aL.F8 34 w _⟩⟩
 case round=>
  obtain⟨k,hk,rfl,u,y,f,rfl,h⟩:=hrel;by_cases ap:k<n
  ·have p:k<l.length:=by have:=X.o;omega
   obtain⟨b,o,rfl,_,hc⟩:=mw HO.o (hr.below h.o.2.below) p;have hx:=HO.o _ (OR p);have hs:=OG p;have a:=AC pr (l.take k) l[k];rw[<-hs]at a;have D:=Z1 a;have F:=Z1 hx;clear hs a hx hr;generalize l[k]=x at*;have G:=F.o.size;have q:=F.o.all;have H:=dw hc;have HC:=Z1 H;have d:=Z2 G q;clear hc H G q;have aj:(k:Int)<(n:Int):=zO
   go_wp2_with (first|(refine aG ba rfl (.tmp 12) rfl (Y b (o+k*34)) zF x.cs d.o.1 HC.o ?_)|(refine aS ba rfl rfl ?_)|(refine aT ba rfl (.tmp 7) (.tmp 13) rfl _ rfl zF x.cs _ zF _ d.o.1 ba.D6 d.o.2 ?_)|(refine aG ba rfl (.tmp 7) rfl (Y wr.heap.size 0) zF x.cs d.o.1 (ff _ _ _) ?_))
   refine zm (HA.o.call x _ F.o (ae h.o.2.below _)) λw1 j=>?_;have S:=Blk.later (Blk.A8 wr 79 x.cs rfl) j;have L:=(h.o.2.alloc _).later j;have r:=Z4 S L j (bQ S);have aq:f<=k:=by
    rw[h.o.1];exact OJ (PF _ _) (List.length_take_le _ _)
   clear S L j R;by_cases m:pr x=true
   ·rw[m];have a:=D.o;rw[OB m]at a;have s:=JB ((l.take k).filter pr) x;rw[<-a]at s;have g:=Z2 a s;clear a s m D
    go_wp2_with (first|(refine aG ba rfl (.tmp 7) rfl (Y wr.heap.size 0) zF x.cs d.o.1 r.o.2.2.2 ?_)|(refine pa ba zP zP rfl 35 (.tmp 18) rfl underlying35 x.cs zF d.o.1 ?_)|(at_builtin;refine d9 (w:=w1) (v:=.slice u f y) (n:=f) (xs:=evs ((l.take k).filter pr)) (B:=w.heap.size) hE zP rfl (.tmp 17) (.tmp 19) rfl zF r.o.2.1.own r.o.2.1.le rfl zF d.o.1 F.o.one zO zU ?_;intro v' w' t N O;obtain⟨A3,k3,rfl,_,_⟩:=ak t;have HG:=Z3 t N O;clear t N O))
    go_roundw
    case rel=>exact⟨k+1,zO,by go_num,A3,k3,f+1,rfl,Z1 ⟨by rw[g.o.1,OS,<-h.o.1];rfl,by rw[<-g.o.2];exact r.o.2.1.app HG.o.2.1 HG.o.1⟩⟩
    case measure=>simp[intOf];omega
   ·have P:pr x=false:=by simpa using m
    rw[P];have a:=D.o;rw[Oz m]at a;have g:=Z1 a;clear a m P D;go_wp2;go_roundw
    case rel=>exact⟨k+1,zO,by go_num,u,y,f,rfl,Z1 ⟨by rw[g.o];exact h.o.1,by rw[g.o];exact r.o.2.1⟩⟩
    case measure=>simp[intOf];omega
  ·obtain rfl:k=n:=zO;have a:l.take k=l:=OT (by have:=X.o;omega);have T:=h.o;rw[a]at T;have Q:=Z1 T;clear T a;go_wp2;go_ret;exact⟨_,rfl,by rw[<-Q.o.1];exact Q.o.2⟩
def JD(x:Ev)(t:Int)(p:Nat)(W:World)(hx:cV x)(hb:Blk W p 3 #[I t]):
  C 104 #[.agg x.cs,Z p 0] W λe W'=>e=.returned (.bool (x.task==t))/\M W W':=by
 have c:=eu (w:=W) (t:=79) hx.c1;have b:=(hb.alloc (.cells x.cs 79)).cell 0;simp at b;have a:=zh W (.cells x.cs 79)
 go_in
 go_wp2;go_ret;exact⟨rfl,a⟩
def Dc(x:Ev)(t:Int)(p:Nat)(W:World)(hx:cV x)(hb:Blk W p 3 #[I t]):
  C 103 #[.agg x.cs,Z p 0] W λe W'=>e=.returned (.bool (x.kind==t))/\M W W':=by
 have c:=eu (w:=W) (t:=79) hx.c0;have b:=(hb.alloc (.cells x.cs 79)).cell 0;simp at b;have a:=zh W (.cells x.cs 79)
 go_in
 go_wp2;go_ret;exact⟨rfl,a⟩
def JE(w:World):wh (w.alloc (.cells #[I t] 3)) 104 #[Z w.heap.size 0] (λx=>x.task==t):=
 ⟨enters_of func104 zR rfl,λx W a b=>JD x t w.heap.size W a (Blk.later (Blk.A8 w _ _ rfl) b)⟩
def Dd(w:World):wh (w.alloc (.cells #[I t] 3)) 103 #[Z w.heap.size 0] (λx=>x.kind==t):=
 ⟨enters_of func103 zR rfl,λx W a b=>Dc x t w.heap.size W a (Blk.later (Blk.A8 w _ _ rfl) b)⟩
def Mh(l:List Ev)(A:Option Addr)(c n:Nat)(t:Int)(w:World)(ho:∀e∈l,cV e)(hr:an w w.heap.size 34 A n (evs l))(hl:n<=100000):
  C 57 #[.slice A n c,I t] w λe w'=>∃v,e=.returned v/\aL 34 w w' 79 v (l.filter λx=>x.task==t).length (evs (l.filter λx=>x.task==t)):=by
 have a:=zh w (.cells #[I t] 3);have d:=Z1 (pL l A c n _ _ _ _ ho (hr.up a) hl (JE t w));clear hr
 go_in
 go_wp2_with fail;refine zX d.o λv g b=>?_;have f:=Z1 (b.lower a);clear b;go_wp2;go_ret;exact⟨_,rfl,f.o⟩
def FY(l:List Ev)(A:Option Addr)(c n:Nat)(t:Int)(w:World)(ho:∀e∈l,cV e)(hr:an w w.heap.size 34 A n (evs l))(hl:n<=100000):
  C 56 #[.slice A n c,I t] w λe w'=>∃v,e=.returned v/\aL 34 w w' 79 v (l.filter λx=>x.kind==t).length (evs (l.filter λx=>x.kind==t)):=by
 have a:=zh w (.cells #[I t] 3);have d:=Z1 (pL l A c n _ _ _ _ ho (hr.up a) hl (Dd t w));clear hr
 go_in
 go_wp2_with fail;refine zX d.o λv g b=>?_;have f:=Z1 (b.lower a);clear b;go_wp2;go_ret;exact⟨_,rfl,f.o⟩
end
def Mi{n:Int}(h:aq n):(Lit.int .i64 n).wf=true:=by
 have a:=h.1;have b:=h.2;simp[Lit.wf,IntKind.min,IntKind.max,IntKind.signed,IntKind.bits];omega
def cQ{t:TypeId}{n:Int}(hu:P.underlying t=some (.int .i64))(h:aq n):P.keyLits (d+1) t [.int .i64 n]=some [.int .i64 n]:=by
 simp[Program.keyLits,hu,Mi h]
def jT{t:TypeId}{fs:Array Field}{cs:List Value}{ls:List (List Lit)}(hu:P.underlying t=some (.struct fs))(hl:cs.length=P.cellsOf t)(hn:fs.all (·.name != "_")=true)(hm:(fs.toList.mapM λf=>P.keyLits d f.type ((cs.drop f.offset).take (P.cellsOf f.type)))=some ls):P.keyLits (d+1) t cs=some ls.flatten:=by
 simp only[Program.keyLits,hu];rw[OB ⟨hl,hn⟩,hm];rfl
def aK(x:Vt):Ev:=⟨x.arr,x.kind,x.task,x.nth,x.key.hi,x.key.lo⟩
def iL(l:List Vt):evs (l.map aK)=vts l:=by simp[evs,vts,aK,Vt.arr,List.flatMap_map]
def JF(l:List Vt)(x:Vt):vts l++x.cells=vts (l++[x]):=by simp[vts]
def oG(h:x.ok):cV (aK x):=by
 refine⟨rfl,rfl,rfl,rfl,rfl,rfl,λu a=>?_,h.kind,h.task,h.nth,h.key.hi,h.key.lo⟩;simp[aK,Vt.arr,Vt.cells,Cl.cells,Cl.arr,Rp.cells,St.cells,Adv.cells,K2.cells]at a
 rcases a with rfl|rfl|rfl|rfl|rfl|rfl|rfl|rfl|rfl|rfl|rfl|rfl|rfl|rfl|rfl|rfl|rfl|rfl|rfl|rfl|rfl|rfl|rfl|rfl|rfl|rfl|rfl|rfl|rfl|rfl|rfl|rfl|rfl|rfl<;>rfl
def jU{l:List Vt}(h:∀x∈l,x.ok):∀e∈l.map aK,cV e:=λe a=>by
 obtain⟨x,b,rfl⟩:=Pa.1 a;exact oG (h x b)
def JG(a:Adv)(h:a.ok)(d:Nat):prog.keyLits (d+2) 62 a.cells=some [.int .i64 a.tick,.int .i64 a.load,.int .i64 a.want,.int .i64 a.reps,.int .i64 a.I8]:=by
 have b:prog.cellsOf 3=1:=by kernel_rfl
 have c:prog.cellsOf 2=1:=by kernel_rfl
 have e:=cQ (t:=2) d underlying2 h.tick;have f:=cQ (t:=2) d underlying2 h.load;have g:=cQ (t:=2) d underlying2 h.want;have i:=cQ (t:=2) d underlying2 h.reps;have j:=cQ (t:=3) d underlying3 h.I8;have:=jT (P:=prog) (t:=62) (cs:=a.cells) (ls:=[[.int .i64 a.tick],[.int .i64 a.load],[.int .i64 a.want],[.int .i64 a.reps],[.int .i64 a.I8]]) (d+1) underlying62 (show 5=_ by kernel_rfl) (by kernel_rfl)
  (by simp only[Adv.cells,List.mapM_cons,List.mapM_nil,b,c,ON,OQ,OM,OO,e,f,g,i,j];rfl)
 simpa using this
def Mk(a:St)(h:a.ok)(d:Nat):prog.keyLits (d+2) 75 a.cells=some [.int .i64 a.count,.int .i64 a.sum,.int .i64 a.least,.int .i64 a.F5,.int .i64 a.F3]:=by
 have b:prog.cellsOf 3=1:=by kernel_rfl
 have c:prog.cellsOf 2=1:=by kernel_rfl
 have e:=cQ (t:=2) d underlying2 h.count;have f:=cQ (t:=2) d underlying2 h.sum;have g:=cQ (t:=2) d underlying2 h.least;have i:=cQ (t:=2) d underlying2 h.F5;have j:=cQ (t:=2) d underlying2 h.F3;have:=jT (P:=prog) (t:=75) (cs:=a.cells) (ls:=[[.int .i64 a.count],[.int .i64 a.sum],[.int .i64 a.least],[.int .i64 a.F5],[.int .i64 a.F3]]) (d+1) underlying75 (show 5=_ by kernel_rfl) (by kernel_rfl)
  (by simp only[St.cells,List.mapM_cons,List.mapM_nil,b,c,ON,OQ,OM,OO,e,f,g,i,j];rfl)
 simpa using this
def BA(h:r.ok):∃ls,prog.keyLits 4 77 r.arr.toList=some ls:=by
 have c:prog.cellsOf 3=1:=by kernel_rfl
 have d:prog.cellsOf 2=1:=by kernel_rfl
 have e:prog.cellsOf 28=1:=by kernel_rfl
 have f:prog.cellsOf 75=5:=by kernel_rfl
 have g:prog.cellsOf 62=5:=by kernel_rfl
 have i:=cQ (t:=28) 2 underlying28 h.err;have j:=cQ (t:=2) 2 underlying2 h.I9;have k:=cQ (t:=3) 2 underlying3 h.handle;have a:=Mk r.stat h.stat 1;have b:=JG r.E0 h.E0 1;simp only[St.cells,Adv.cells]at a b;refine⟨_,jT (P:=prog) (t:=77) (ls:=[[.int .i64 r.err],[.int .i64 r.I9],[.int .i64 r.handle],[.int .i64 r.stat.count,.int .i64 r.stat.sum,.int .i64 r.stat.least,.int .i64 r.stat.F5,.int .i64 r.stat.F3],[.int .i64 r.E0.tick,.int .i64 r.E0.load,.int .i64 r.E0.want,.int .i64 r.E0.reps,.int .i64 r.E0.I8]]) 3 underlying77 (show 13=_ by kernel_rfl) (by kernel_rfl) ?_⟩;simp only[Rp.arr,List.mapM_cons,List.mapM_nil,c,d,e,f,g,ON,OQ,OM,OO,i,j,k,a,b];rfl
def JI{m D:Nat}(hm:m<=10000){t:TypeId}(hk:prog.keyTypeAt m t=true)(hs:(match prog.underlying t with|some (.struct _)=>true|_=>false)=true)(cs:Array Value)(hC:cs.size=prog.cellsOf t){ls:List Lit}(hl:prog.keyLits D t cs.toList=some ls)(w:World):
  (binOp .eql t (.agg cs) (.agg cs)).run prog w=.ok (.bool true) w:=by
 have b:(Value.agg cs).formed prog t=true:=by
  unfold Value.formed
  cases hu:prog.underlying t with
  |none=>simp[hu]at hs
  |some d=>cases d<;>simp[hu]at hs ⊢;exact hC
 obtain⟨r,c,a⟩:=run_equalIn_deep (10000-m) m t hk w D D (.agg cs) (.agg cs) ls ls b b hl hl;have e:=a.2 rfl;subst e;rw[run_eql_struct];rw[show 10000-m+m=10000 by omega]at c;rw[c];rfl
def Ml{t:TypeId}(hb:Blk w g t x.arr){pre cs post:List Value}(he:x.cells=pre++(cs++post))(hk:pre.length=k):∀j v,cs[j]?=some v->w.cell? (((Y g k):Addr).add j)=some v:=by
 intro j v a;rw[show((Y g k):Addr).add j=(Y g (k+j)) by unfold Addr.add;split<;>simp_all];rw[hb.cell];show x.cells.toArray[k+j]?=some v;rw[PV,he,Ph zO,show k+j-pre.length=j by omega,Pk (OZ.1 a).1];exact a
def Nv{t:TypeId}(hb:Blk w g t x.arr):∀j v,x.rep.arr.toList[j]?=some v->w.cell? (((Y g 14):Addr).add j)=some v:=
 Ml hb (pre:=[I x.kind,I x.task,I x.nth]++x.call.cells) (post:=x.key.cells++x.E0.cells) rfl rfl
def Nw(h:r.ok)(w:World):(binOp .eql 77 (.agg r.arr) (.agg r.arr)).run prog w=.ok (.bool true) w:=
 JI (m:=4) zP zR zR r.arr (show 13=_ by kernel_rfl) (BA r h).choose_spec w
def FZ(h:r.ok)(w:World):(binOp .neq 77 (.agg r.arr) (.agg r.arr)).run prog w=.ok (.bool false) w:=
 wz (m:=4) zP zR zR r.arr (show 13=_ by kernel_rfl) (BA r h).choose_spec w
def SZ(a:Adv)(h:a.ok)(w:World):(binOp .neq 62 (.agg a.arr) (.agg a.arr)).run prog w=.ok (.bool false) w:=
 wz (m:=4) zP zR zR a.arr (show 5=_ by kernel_rfl) (JG a h 0) w
def fc(w:World)(o:Obj):(w.alloc o).drew=w.drew.alloc o:=rfl
def MC(w:World)(p q B:Nat)(ty:TypeId)(cs:Array Value)(sl:Value)(r:Lk×Bool×Int)(e:Ending)(w':World):Prop:=
 e=.returned (.tuple #[.bool r.2.1,I r.2.2])/\∃cs' sl',bt w' p q B ty cs' sl' r.1/\bF q 3 cs cs'/\ag (λj=>j=p\/sl.ownBlock=some j) w w'/\(sl'.ownBlock=sl.ownBlock\/∀k,sl'.ownBlock=some k->w.heap.size<=k)
def Vj{p k2:Nat}{ty:TypeId}{A2:Option Addr}{t:Int}{b:Bool}{w1:World}(h:bt w p q B ty cs (.slice A2 l.line.length k2) l)(hne:393≠ty)(hb1:M w w1)
  (hT':aQ w' B 393 2 v' (l.line.length+1) (eJ l.line++(#[I t,.bool b]:Array Value).toList))(hg':(w1.drew.alloc (.cells #[I t,.bool b] 393)).grownBy w' (Value.slice A2 l.line.length k2).ownBlock)
  (hbk':v'.ownBlock=(Value.slice A2 l.line.length k2).ownBlock\/∀k,v'.ownBlock=some k->(w1.drew.alloc (.cells #[I t,.bool b] 393)).heap.size<=k)(HX:gI l t b=({l with line:=l.line++[(t,b)]},false,0)):
  MC w p q B ty cs (.slice A2 l.line.length k2) (gI l t b) (.returned (.tuple #[.bool false,I 0])) (w'.setCell (Y p (q+2)) v'):=by
 obtain⟨a,c,rfl,_,_,_⟩:=hT'.form;have v:=hb1.size;have n:Blk (w1.drew.alloc (.cells #[I t,.bool b] 393)) p ty cs:=(h.up (ae hb1 (.cells #[I t,.bool b] 393))).B0;have d:=n.grown hg' (Pc (h.line.ne h.B0 hne));have f:(Value.slice a (l.line.length+1) c).ownBlock=(Value.slice A2 l.line.length k2).ownBlock\/∀k,(Value.slice a (l.line.length+1) c).ownBlock=some k->w.heap.size<=k:=hbk'.imp id λh k g=>by have:=h k g;have x:w1.heap.size<=(w1.drew.alloc (.cells #[I t,.bool b] 393)).heap.size:=(by show w1.heap.size<=(w1.alloc _).heap.size;simp);omega
 have o:ag (λj=>j=p\/(Value.slice A2 l.line.length k2).ownBlock=some j) w _:=dl (w1:=w1.drew.alloc (.cells #[I t,.bool b] 393)) ((ag.B5 (L:=λ_=>False) hb1).drew.alloc _) hg' (λ_ h=>h.elim) (λk e=>.inr e);refine⟨by rw[HX],_,.slice a (l.line.length+1) c,?_,(bF.refl q 3 cs).B4 (i:=q+2) zO zO (.slice a (l.line.length+1) c),?_,f⟩
 ·rw[HX];refine⟨d.B4 (q+2) (.slice a (l.line.length+1) c),?_,(bf zO _).trans h.r,(bf zO _).trans h.m,cP h.s _⟩;have u:=hT'.D3 (w':=w'.setCell (Y p (q+2)) (.slice a (l.line.length+1) c)) λk g=>Pd w' _ _ k λe=>hT'.ne d hne (by rw[g,e]);simpa[eJ,mN]using u
 ·exact o.setCell (p:=Y p (q+2)) (.inl (.inl rfl)) _
def ud(q B:Nat)(ty:TypeId)(cs:Array Value)(sl:Value)(l:Lk)(t:Int)(b:Bool)(w:World)(h:bt w p q B ty cs sl l)(hl:l.ok)(hne:393≠ty)(hn:l.line.length<=900)(hB:B<=w.heap.size)(ht: -9223372036854775808<=t/\t<=9223372036854775807):
  C 281 #[Z p q,I t,.bool b] w (MC w p q B ty cs sl (gI l t b)):=by
 have an:=mj t w ht;have hh:=ml p q B ty cs sl l t w h hl ht;have ha:gI l t b=if bitN t=0 then(l,false,1)else if eD l t≠0\/t∈mm l.line then(l,false,15)else if l.line=[]/\fL l b=true then(ei l (t,b),true,0)else({l with line:=l.line++[(t,b)]},false,0):=rfl
 have N:=Z1 an;have HH:=Z1 hh;have HA:=Z1 ha;clear an hh ha;have P:∀Q,M w Q->ag (λj=>j=p\/sl.ownBlock=some j) w Q:=λQ H=>ag.B5 H;by_cases H:bitN t=0
 ·have r:Hid (gI l t b=(l,false,1)):=by show _=_;rw[HA.o,OB H]
  have d1:((bitN t:Int)==0)=true:=zT;generalize bitN t=bb at*;clear H
  go_in
  go_wp2_with fail;refine zY N.o ?_;go_wp2
  go_ret2
  exact⟨by rw[r.o];rfl,cs,sl,by rw[r.o];exact h,bF.refl _ _ _,P _ (Oy _ _),.inl rfl⟩
 have d1:((bitN t:Int)==0)=false:=zT;by_cases hd:eD l t≠0
 ·have r:Hid (gI l t b=(l,false,15)):=by show _=_;rw[HA.o,Oz H,OB (.inl hd)]
  have d2:(eD l t !=0)=true:=by simpa using hd
  generalize bitN t=bb at*;generalize eD l t=hv at*;clear H hd
  go_in
  go_wp2_with fail;refine zY N.o ?_;go_wp2_with fail;refine zY HH.o ?_;go_wp2
  go_ret2
  exact⟨by rw[r.o];rfl,cs,sl,by rw[r.o];exact h,bF.refl _ _ _,P _ (Oy _ _),.inl rfl⟩
 have ah:eD l t=0:=zO;have d2:(eD l t !=0)=false:=by simp[ah]
 by_cases hi:t∈mm l.line
 ·have r:Hid (gI l t b=(l,false,15)):=by show _=_;rw[HA.o,Oz H,OB (.inr hi)]
  have HC:Hid (decide (t∈mm l.line)=true):=Z1 (by simpa using hi);generalize bitN t=bb at*;generalize eD l t=hv at*;clear H hd ah hi
  go_in
  go_wp2_with fail;refine zY N.o ?_;go_wp2_with fail;refine zY HH.o ?_;go_wp2_with fail;refine zX (kN p q B ty cs sl l w h (OJ hn zP)) λv k x=>?_;obtain⟨A,c,rfl,_,_,L⟩:=x.form;go_wp2_with fail;refine zY (jN _ A c l.line.length t k L zO) ?_;rw[HC.o];go_wp2
  go_ret2
  exact⟨by rw[r.o];rfl,cs,sl,by rw[r.o];exact h.up x.below,bF.refl _ _ _,P _ x.below,.inl rfl⟩
 have HC:Hid (decide (t∈mm l.line)=false):=Z1 (by simpa using hi);have ao:gI l t b=if l.line=[]/\fL l b=true then(ei l (t,b),true,0)else({l with line:=l.line++[(t,b)]},false,0):=by
  rw[HA.o,Oz H,Oz λe=>e.elim hd hi]
 have ap:=Z1 ao;generalize bitN t=bb at*;generalize eD l t=hv at*;clear H hd ah hi ao HA;by_cases R:l.line.length=0/\fL l b=true
 ·obtain⟨R,hf⟩:=R;have r:Hid (gI l t b=(ei l (t,b),true,0)):=by show _=_;rw[ap.o,OB ⟨OU R,hf⟩]
  have HF:=Z1 hf;have HZ:=Z1 R;clear hf R
  go_in
  go_wp2_with fail;refine zY N.o ?_;go_wp2_with fail;refine zY HH.o ?_;go_wp2_with fail;refine zX (kN p q B ty cs sl l w h (OJ hn zP)) λv k x=>?_;obtain⟨A,c,rfl,_,_,L⟩:=x.form;have a:=x.below;clear x;go_wp2_with fail;refine zY (jN _ A c l.line.length t k L zO) ?_;rw[HC.o];clear L;have O:=ae a (.cells #[I t,.bool b] 393);have u:=h.up O;have c2:=(h.up a).c2;have aq:=(h.up a).B0.lt;have ar:=a.size;obtain⟨S,T,rfl,_,_,_⟩:=u.line.form;rw[HZ.o]at*;go_wp2_with fail;refine zY (ry p q B ty cs _ l b _ u) ?_;rw[HF.o];go_wp2_with fail;refine(wW p q B ty cs _ l (t,b) _ u hl hne ht).mono ?_;rintro e w4 ⟨rfl,a2,h4,a3,a4⟩;go_wp2
  go_ret2
  exact⟨by rw[r.o];rfl,a2,_,by rw[r.o];exact h4,a3,(ag.B5 O).trans (ag.C3 a4 λ_ h=>.inl h),.inl rfl⟩
 ·have r:Hid (gI l t b=({l with line:=l.line++[(t,b)]},false,0)):=by
   show _=_;rw[ap.o,Oz λe=>R ⟨by rw[e.1];rfl,e.2⟩]
  by_cases U:l.line.length=0
  ·have hf:fL l b=false:=by
    cases hfb:fL l b
    ·rfl
    ·exact absurd ⟨U,hfb⟩ R
   have HF:=Z1 hf;have HZ:=Z1 U;clear hf R U
   go_in
   go_wp2_with fail;refine zY N.o ?_;go_wp2_with fail;refine zY HH.o ?_;go_wp2_with fail;refine zX (kN p q B ty cs sl l w h (OJ hn zP)) λv k x=>?_;obtain⟨A,c,rfl,_,_,L⟩:=x.form;have a:=x.below;clear x;go_wp2_with fail;refine zY (jN _ A c l.line.length t k L zO) ?_;rw[HC.o];clear L;have O:=ae a (.cells #[I t,.bool b] 393);have u:=h.up O;have c2:=(h.up a).c2;have aq:=(h.up a).B0.lt;have ar:=a.size;obtain⟨S,T,rfl,_,_,_⟩:=u.line.form;have d3:((l.line.length:Int)==0)=true:=by rw[HZ.o];rfl
   go_wp2_with fail;refine zY (ry p q B ty cs _ l b _ u) ?_;rw[HF.o];go_wp2;have y:=u.line;have z:Blk (k.drew.alloc (.cells #[I t,.bool b] 393)) p ty _:=u.B0;have D:=u.line.ne u.B0 hne;have a5:l.line.length<=900:=hn;have F:B<=(k.drew.alloc (.cells #[I t,.bool b] 393)).heap.size:=by show B<=(k.alloc _).heap.size;rw[World.size_alloc];omega
   refine pq zR ?_;simp only[zD,zE,Nat.reduceAdd,zG];refine zx 0 ?_;refine zx 1 ?_;refine zx 2 ?_;refine zx 3 ?_;refine zv [4,5] ?_;refine zu (λK hK=>?_) ?_
   ·skip
    go_simp;refine hK _ _ ?_;clear hK;refine zn ?_;refine zr 5 ?_;refine zr 6 ?_;refine zw 7 λK hK=>?_;try simp only[fc]
    refine fx (w:=k.drew.alloc (.cells #[I t,.bool b] 393)) (n:=l.line.length) (xs:=eJ l.line) (B:=B) (g:=k.heap.size+1) (v:=.slice S l.line.length T) jt zP (.tmp 49) (.tmp 51) rfl zF y F zS zF rfl zV zO zU ?_;intro v' Q d f G m;obtain⟨A3,k3,rfl,_,_,_⟩:=d.form;refine hK _ _ ?_;have i:=z.grown f (Pc D);have f2:=i.frozen (q+2);have X:=(i.cell (q+2)).trans h.s;clear hK;refine zn ?_;refine zx 8 ?_;refine zx 9 ?_;refine zr 10 ?_;refine gF zR ?_;go_wp2
    go_ret2
    exact Vj h hne a d f m r.o
   refine zu (λK hK=>?_) ?_
   ·skip
    go_simp;refine hK _ _ ?_;clear hK;refine zn ?_;refine zv [4,6] ?_;refine zu (λK hK=>?_) ?_
    ·skip
     go_simp;refine hK _ _ ?_;clear hK;refine zn ?_;refine zr 6 ?_;refine zw 7 λK hK=>?_;try simp only[fc]
     refine fx (w:=k.drew.alloc (.cells #[I t,.bool b] 393)) (n:=l.line.length) (xs:=eJ l.line) (B:=B) (g:=k.heap.size+1) (v:=.slice S l.line.length T) jt zP (.tmp 49) (.tmp 51) rfl zF y F zS zF rfl zV zO zU ?_;intro v' Q d f G m;obtain⟨A3,k3,rfl,_,_,_⟩:=d.form;refine hK _ _ ?_;have i:=z.grown f (Pc D);have f2:=i.frozen (q+2);have X:=(i.cell (q+2)).trans h.s;clear hK;refine zn ?_;refine zx 8 ?_;refine zx 9 ?_;refine zr 10 ?_;refine gF zR ?_;go_wp2
     go_ret2
     exact Vj h hne a d f m r.o
    refine zu (λK hK=>?_) ?_
    ·skip
     go_simp;refine hK _ _ ?_;clear hK;refine zn ?_;refine zr 4 ?_;refine zw 7 λK hK=>?_;try simp only[fc]
     refine fx (w:=k.drew.alloc (.cells #[I t,.bool b] 393)) (n:=l.line.length) (xs:=eJ l.line) (B:=B) (g:=k.heap.size+1) (v:=.slice S l.line.length T) jt zP (.tmp 49) (.tmp 51) rfl zF y F zS zF rfl zV zO zU ?_;intro v' Q d f G m;obtain⟨A3,k3,rfl,_,_,_⟩:=d.form;refine hK _ _ ?_;have i:=z.grown f (Pc D);have f2:=i.frozen (q+2);have X:=(i.cell (q+2)).trans h.s;clear hK;refine zn ?_;refine zx 8 ?_;refine zx 9 ?_;refine zr 10 ?_;refine gF zR ?_;go_wp2
     go_ret2
     exact Vj h hne a d f m r.o
    exact AllReady.nil
   exact AllReady.nil
  ·have au:l.line.length≠0:=λe=>U e;have d3:((l.line.length:Int)==0)=false:=by revert au;generalize l.line.length=n9;intro au;simp;omega
   clear R U
   go_in
   go_wp2_with fail;refine zY N.o ?_;go_wp2_with fail;refine zY HH.o ?_;go_wp2_with fail;refine zX (kN p q B ty cs sl l w h (OJ hn zP)) λv k x=>?_;obtain⟨A,c,rfl,_,_,L⟩:=x.form;have a:=x.below;clear x;go_wp2_with fail;refine zY (jN _ A c l.line.length t k L zO) ?_;rw[HC.o];clear L;have O:=ae a (.cells #[I t,.bool b] 393);have u:=h.up O;have c2:=(h.up a).c2;have aq:=(h.up a).B0.lt;have ar:=a.size;obtain⟨S,T,rfl,_,_,_⟩:=u.line.form;go_wp2;have y:=u.line;have z:Blk (k.drew.alloc (.cells #[I t,.bool b] 393)) p ty _:=u.B0;have D:=u.line.ne u.B0 hne;have a5:l.line.length<=900:=hn;have F:B<=(k.drew.alloc (.cells #[I t,.bool b] 393)).heap.size:=by show B<=(k.alloc _).heap.size;rw[World.size_alloc];omega
   refine pq zR ?_;simp only[zD,zE,Nat.reduceAdd,zG];refine zx 0 ?_;refine zx 1 ?_;refine zx 2 ?_;refine zx 3 ?_;refine zv [4,5] ?_;refine zu (λK hK=>?_) ?_
   ·skip
    go_simp;refine hK _ _ ?_;clear hK;refine zn ?_;refine zr 5 ?_;refine zr 6 ?_;refine zw 7 λK hK=>?_;try simp only[fc]
    refine fx (w:=k.drew.alloc (.cells #[I t,.bool b] 393)) (n:=l.line.length) (xs:=eJ l.line) (B:=B) (g:=k.heap.size+1) (v:=.slice S l.line.length T) jt zP (.tmp 49) (.tmp 51) rfl zF y F zS zF rfl zV zO zU ?_;intro v' Q d f G m;obtain⟨A3,k3,rfl,_,_,_⟩:=d.form;refine hK _ _ ?_;have i:=z.grown f (Pc D);have f2:=i.frozen (q+2);have X:=(i.cell (q+2)).trans h.s;clear hK;refine zn ?_;refine zx 8 ?_;refine zx 9 ?_;refine zr 10 ?_;refine gF zR ?_;go_wp2
    go_ret2
    exact Vj h hne a d f m r.o
   refine zu (λK hK=>?_) ?_
   ·skip
    go_simp;refine hK _ _ ?_;clear hK;refine zn ?_;refine zv [4,6] ?_;refine zu (λK hK=>?_) ?_
    ·skip
     go_simp;refine hK _ _ ?_;clear hK;refine zn ?_;refine zr 6 ?_;refine zw 7 λK hK=>?_;try simp only[fc]
     refine fx (w:=k.drew.alloc (.cells #[I t,.bool b] 393)) (n:=l.line.length) (xs:=eJ l.line) (B:=B) (g:=k.heap.size+1) (v:=.slice S l.line.length T) jt zP (.tmp 49) (.tmp 51) rfl zF y F zS zF rfl zV zO zU ?_;intro v' Q d f G m;obtain⟨A3,k3,rfl,_,_,_⟩:=d.form;refine hK _ _ ?_;have i:=z.grown f (Pc D);have f2:=i.frozen (q+2);have X:=(i.cell (q+2)).trans h.s;clear hK;refine zn ?_;refine zx 8 ?_;refine zx 9 ?_;refine zr 10 ?_;refine gF zR ?_;go_wp2
     go_ret2
     exact Vj h hne a d f m r.o
    refine zu (λK hK=>?_) ?_
    ·skip
     go_simp;refine hK _ _ ?_;clear hK;refine zn ?_;refine zr 4 ?_;refine zw 7 λK hK=>?_;try simp only[fc]
     refine fx (w:=k.drew.alloc (.cells #[I t,.bool b] 393)) (n:=l.line.length) (xs:=eJ l.line) (B:=B) (g:=k.heap.size+1) (v:=.slice S l.line.length T) jt zP (.tmp 49) (.tmp 51) rfl zF y F zS zF rfl zV zO zU ?_;intro v' Q d f G m;obtain⟨A3,k3,rfl,_,_,_⟩:=d.form;refine hK _ _ ?_;have i:=z.grown f (Pc D);have f2:=i.frozen (q+2);have X:=(i.cell (q+2)).trans h.s;clear hK;refine zn ?_;refine zx 8 ?_;refine zx 9 ?_;refine zr 10 ?_;refine gF zR ?_;go_wp2
     go_ret2
     exact Vj h hne a d f m r.o
    exact AllReady.nil
   exact AllReady.nil
def qS{B' s' n':Nat}{e e':TypeId}{xs':List Value}(h:aQ w B e s v n xs)(h':w.ownsRow B' e' s' v' n' xs')(hne:e≠e'):∀k,v.ownBlock=some k->some k≠v'.ownBlock:=by
 intro k b a
 rcases h'.2 with⟨rfl,_⟩|⟨c,f,g,rfl,_,d,_⟩
 ·simp[Value.ownBlock]at a
 ·have:k=c:=by simpa[Value.ownBlock]using a
  subst this;exact h.ne d hne b
def bt.drew{p:Nat}{t:TypeId}{sl:Value}(h:bt w p q B t cs sl l):bt w.drew p q B t cs sl l:=⟨h.B0,h.line.D3 λ_ _=>rfl,h.r,h.m,h.s⟩
def bt.shift{p:Nat}{t:TypeId}{sl:Value}(h:bt w p q B t cs sl l)(hne:393≠t)
  (hT:aQ w B 393 2 sl2 ln.length (eJ ln)):bt (w.setCell (Y p (q+2)) sl2) p q B t (cs.setIfInBounds (q+2) sl2) sl2 ⟨l.r,l.w,ln⟩:=
 ⟨h.B0.B4 (q+2) sl2,hT.D3 λk a=>Pd w _ _ k λe=>hT.ne h.B0 hne (by rw[a,e]),(bf zO _).trans h.r,(bf zO _).trans h.m,cP h.s _⟩
def bt.Q4{p:Nat}{t:TypeId}{sl:Value}(h:bt w p q B t cs sl l)(hne:393≠t)
  (hT:aQ w B 393 2 sl2 ln.length (eJ ln))(t2:TypeId)(c2:Array Value):bt ((w.setCell (Y p (q+2)) sl2).alloc (.cells c2 t2)) p q B t (cs.setIfInBounds (q+2) sl2) sl2 ⟨l.r,l.w,ln⟩/\Blk ((w.setCell (Y p (q+2)) sl2).alloc (.cells c2 t2)) w.heap.size t2 c2:=
 ⟨(h.shift hne hT).up (ae (Oy _ _) _),Blk.A8 _ _ _ (by simp[World.setCell])⟩
def bt.grown{p B':Nat}{t:TypeId}{sl:Value}(h:bt w p q B t cs sl l)(hg:w.grownBy w' v.ownBlock)(ho:w.ownsRow B' 3 s v n xs)(hp:p<B'):bt w' p q B t cs sl l:=
 ⟨h.B0.grown hg (λe=>p8 ho hp e.symm),h.line.D3 λk a=>hg.block k (h.line.lt k a).2 (qS h.line ho zP k a),h.r,h.m,h.s⟩
def vX{p:Nat}{w0:World}{e:TypeId}(h:ag (λj=>j=p) w0 w)(hg:w.grownBy w' v.ownBlock)(ho:w.ownsRow w0.heap.size e s v n xs):ag (λj=>j=p) w0 w':=
 ⟨hg.os.trans h.os,hg.tape.trans h.tape,hg.output.trans h.output,OJ h.size hg.size,λk a b=>(hg.block k (OV a h.size) λe=>by have:=(ho.lt k e.symm).1;omega).trans (h.block k a b)⟩
def Kb(w:World)(p q B:Nat)(ty:TypeId)(cs:Array Value)(sl:Value)(l:Lk)(out:List Int)(e:Ending)(w':World):Prop:=
 ∃v,e=.returned (.tuple #[v,I 0])/\w'.ownsRow w.heap.size 3 1 v out.length (i64s out)/\∃cs' sl',bt w' p q B ty cs' sl' l/\bF q 3 cs cs'/\ag (λj=>j=p) w w'/\sl'.ownBlock=sl.ownBlock
def rP(q B:Nat)(ty:TypeId)(cs:Array Value)(sl:Value)(l:Lk)(t:Int)(w:World)(h:bt w p q B ty cs sl l)(hl:l.ok)(hne:393≠ty)(hn:l.line.length<=900)(ht: -9223372036854775808<=t/\t<=9223372036854775807)(hz:eD l t≠0):
  C 277 #[Z p q,I t] w (Kb w p q B ty cs sl (mO l t).1 (mO l t).2):=by
 have D:=mj t;have HT:=Z1 ht;have hh:=ml p q B ty cs sl l t w h hl ht;have T:=iG t;have a1:=u32_andNot_nat l.r (bitN t) hl.r T;have a2:=u32_andNot_nat l.w (bitN t) hl.w T;have ao:mO l t=eX l.line (clr l.r (bitN t)) (clr l.w (bitN t)):=rfl;have d1:(eD l t==0)=false:=by simpa using hz
 have l1:=wU (bitN t) hl.r;have l2:=wU (bitN t) hl.w;have e1:l.r&&& (4294967295-bitN t)=clr l.r (bitN t):=rfl;have e2:l.w&&& (4294967295-bitN t)=clr l.w (bitN t):=rfl;rw[e1]at a1;rw[e2]at a2;generalize mO l t=bi at*;generalize eD l t=hv at*;generalize clr l.r (bitN t)=U at*;generalize clr l.w (bitN t)=X at*;have ap:=Z1 ao;have HH:=Z1 hh;clear ao hh hz e1 e2;have c0:=h.c0;have c1:=h.c1;have f0:=h.B0.frozen q;have f1:=h.B0.frozen (q+1);have hp:=h.B0.lt
 go_in
 go_wp2_with fail;refine zY HH.o ?_;go_wp2;refine zb 9 ?_;repeat still_step
 still_call ((D _ HT.o).mono λe w1 h=>⟨h.1,h.2.symm⟩);repeat still_step
 refine wpStill_nil ?_;go_wp2;refine zb 9 ?_;repeat still_step
 still_call ((D _ HT.o).mono λe w1 h=>⟨h.1,h.2.symm⟩);repeat still_step
 refine wpStill_nil ?_;go_wp2;go_loopg [6] l.line.length (λk v wr=>∃(l':Lk) (R:Array Value) (aa:Value) (x:List Int),k=l'.line.length/\bt wr p q B ty R aa l'/\l'.ok/\x.length+l'.line.length<=900/\wr.ownsRow w.heap.size 3 1 v x.length (i64s x)/\ag (λj=>j=p) w wr/\
  Hid (bi=((eX l'.line l'.r l'.w).1,x++(eX l'.line l'.r l'.w).2)/\bF q 3 cs R/\aa.ownBlock=sl.ownBlock))
 case atStart=>
  refine⟨⟨U,X,l.line⟩,_,sl,[],rfl,?_,⟨l1,l2,hl.line⟩,by simpa using hn,Pn _ _ _ _,?_,Z1 ⟨by rw[ap.o];rfl,((bF.refl q 3 cs).B4 (i:=q) zO zO (.int .u32 U)).B4 (i:=q+1) zO zO (.int .u32 X),rfl⟩⟩
  ·have k1:ag (λj=>j=p) w ((w.setCell (Y p q) (.int .u32 U)).setCell (Y p (q+1)) (.int .u32 X)):=((ag.refl (λj=>j=p) w).setCell (p:=Y p q) (.inl rfl) _).setCell (p:=Y p (q+1)) (.inl rfl) _;refine bt.drew (bt.drew ?_);exact h.D3 (w':=(w.setCell (Y p q) (.int .u32 U)).setCell (Y p (q+1)) (.int .u32 X)) hne ((h.B0.B4 q (.int .u32 U)).B4 (q+1) (.int .u32 X)) ((bf zO _).trans (cP h.r _)) (cP ((bf zO _).trans h.m) _) ((bf zO _).trans ((bf zO _).trans h.s)) k1
  ·exact(((ag.refl (λj=>j=p) w).setCell (p:=Y p q) (.inl rfl) _).setCell (p:=Y p (q+1)) (.inl rfl) _).drew.drew
 case round=>
  obtain⟨⟨r,m,a⟩,R,aa,x,aq,f,ar,ab,z,hK,ac⟩:=hrel;have HR:=Z1 ac.o.1;have F:=Z1 ac.o.2;clear ac;have g2:=f.c2;have co:=f.B0.lt;have k2:=f.B0.frozen (q+2);have HG:=Z1 aq;have N:=Z1 ar;have Q:=Z1 ab;clear aq ar ab h hl hn HH ap D T d1 a1 a2 l1 l2 c0 c1 f0 f1
  rcases a with _|⟨⟨b,d⟩,a⟩
  ·obtain⟨A,c,rfl,_,_,_⟩:=f.line.form;have HL:=Z1 f;have HK:=Z1 hK;have HO:=Z1 z;clear f hK z;simp only[OE]at g2;go_wp2
   go_ret2
   rw[HR.o];exact⟨u6,rfl,by simpa[eX]using HO.o,_,_,HL.o,F.o.1,HK.o,F.o.2⟩
  ·obtain⟨g,au,O,bn,a4,a5,hrest⟩:=aQ.rest (n:=a.length) f.line;subst bn;obtain⟨A,c,G,_,_,av⟩:=f.line.form;obtain⟨bl,o,hA,_,q0,q1⟩:=Bo (k:=0) av zS;have aw:A=some (Y g au):=by injection G with h1 _ _;exact h1.symm
   have bp:((Y bl o):Addr)=(Y g au):=by rw[aw]at hA;injection hA with hA;exact hA.symm
   injection bp with bq br;subst bq br;simp only[Rz,Qt,QW]at q0 q1;have ae:=ry p q B ty R _ _ d wr f;have H:=Z1 ae;clear G av hA aw ae;have L:=Z1 hrest;clear hrest;try simp only[OC]at g2
   have cp:a.length<=900:=by have:=Q.o;simp only[OC]at this;omega
   have cj:O<9223372036854775807:=by simpa[maxLen]using a5
   by_cases S:fL ⟨r,m,(b,d)::a⟩ d=true
   ·have P:eX ((b,d)::a) r m=((eX a (ei ⟨r,m,a⟩ (b,d)).r (ei ⟨r,m,a⟩ (b,d)).w).1,b::(eX a (ei ⟨r,m,a⟩ (b,d)).r (ei ⟨r,m,a⟩ (b,d)).w).2):=by
     rw[eX];exact OB S
    have af:=Z1 P;rw[S]at H;have ah:=IB (b,d) N.o;have a6:=Z1 ah;have ai: -9223372036854775808<=b/\b<=9223372036854775807:=by have:=N.o.line (b,d) zS;simp only at this;omega
    have a7:=Z1 ai;have a8:Hid (Lk.ok ⟨r,m,a⟩):=Z1 ⟨N.o.r,N.o.w,λy hy=>N.o.line y (by simp[hy])⟩;have cq:x.length<=899:=by have:=Q.o;simp only[OC]at this;omega
    have G:∃o2,Hid (O=0/\o2=o\/O≠0/\o2=o+2)/\Hid (aQ wr B 393 2 (V bl o2 a.length O) a.length (eJ a)):=by
     by_cases h0:O=0
     ·exact⟨o,Z1 (.inl ⟨h0,rfl⟩),by have:=L.o;rw[OB zO]at this;exact this⟩
     ·exact⟨o+2,Z1 (.inr ⟨h0,rfl⟩),by have:=L.o;rw[Oz zO]at this;exact this⟩
    obtain⟨o2,bs,bu⟩:=G;clear S ah ai P L;have cl:=hK.size;have bv:=Z1 hK;have bw:=Z1 z;have bx:=Z1 f;clear f z hK
    rcases bs.o with⟨h0,h1⟩|⟨h0,h1⟩
    all_goals
     subst h1;try (subst h0;clear a4)
     obtain⟨ax,D⟩:=bx.o.Q4 hne bu.o 393 #[I b,.bool d];have bz:=Z1 ax;have b0:=Z1 D;clear ax D;go_wp2_with fail;refine zY H.o ?_;go_wp2_with fail;refine(wW p q B ty _ _ ⟨r,m,a⟩ (b,d) _ bz.o a8.o hne a7.o).mono ?_;rintro e w4 ⟨rfl,cr,h4,ay,ak⟩;have b2:=Z1 ay;clear ay;have az:=ak.B0 b0.o zO;have i0:=az.cell 0;simp at i0;have u:=(((ag.refl (λj=>j=p) wr).setCell (p:=Y p (q+2)) (.inl rfl) _).alloc _).trans ak;have al:=u.own bw.o hp;have ct:=u.size;have H4:=Z1 h4;have b3:=Z1 u;clear h4 ak az u
     go_wp2_with (at_builtin;go_must (refine bZ lV zP rfl (.tmp 64) (.tmp 67) rfl rfl al zO zS rfl rfl zV zO zU ?_);intro v' w' b4 a0)
     go_roundg a.length
     case measure=>rw[HG.o];simp
     case rel=>
      refine⟨ei ⟨r,m,a⟩ (b,d),_,_,x++[b],by rw[lN],H4.o.grown a0 al hp,a6.o,?_,?_,?_,?_⟩
      ·rw[lN];have:=Q.o;simp only[OC]at this;simp;omega
      ·simpa[i64s]using b4
      ·exact vX (bv.o.trans b3.o) a0 al
      ·exact Z1 ⟨by rw[HR.o,af.o,lN];simp,(F.o.1.B4 (i:=q+2) zO zO _).trans b2.o,F.o.2⟩
   ·have b5:fL ⟨r,m,(b,d)::a⟩ d=false:=by simpa using S
    rw[b5]at H;have P:eX ((b,d)::a) r m=(⟨r,m,(b,d)::a⟩,[]):=by rw[eX];exact Oz S
    have af:=Z1 P;clear S P;go_wp2_with fail;refine zY H.o ?_;go_wp2
    go_ret2
    rw[HR.o,af.o];exact⟨u6,rfl,by simpa using z,_,_,f,F.o.1,hK,F.o.2⟩
def pO{w:World}{B B' s s' n n':Nat}{e e':TypeId}{v v':Value}{xs xs':List Value}(h:aQ w B e s v n xs)(h':aQ w B' e' s' v' n' xs')(hne:e≠e'):∀k,v.ownBlock=some k->some k≠v'.ownBlock:=by
 intro k b a
 rcases h'.2 with⟨rfl,_⟩|⟨c,f,g,i,rfl,_,d,_⟩
 ·simp[Value.ownBlock]at a
 ·have:k=c:=by simpa[Value.ownBlock]using a
  subst this;exact h.ne d hne b
def ag.U3{L:Nat->Prop}{w w':World}(h:ag L w w'){B s n:Nat}{e:TypeId}{v:Value}{xs:List Value}(hv:w.ownsRow B e s v n xs)(hL:∀k,v.ownBlock=some k->¬L k):w'.ownsRow B e s v n xs:=by
 refine⟨hv.1,?_⟩
 rcases hv.2 with a|⟨g,b,c,rfl,d,a,f⟩
 ·exact .inl a
 ·exact .inr ⟨g,b,c,rfl,d,(h.block g (Blk.lt a) (hL g rfl)).trans a,f⟩
def Gh{w:World}{B g:Nat}{e:TypeId}{s:Nat}(h:Blk w g e #[])(hB:B<=g):w.ownsRow B e s (V g 0 0 0) 0 []:=by
 have:=eI (s:=s) (n:=0) h hB zS (by simp[maxLen])
 simpa using this
def Gi(xs:List Int)(A:Option Addr)(c n:Nat)(w:World)(hr:an w w.heap.size 1 A n (i64s xs))(hn:n<=100000):
  C 313 #[.slice A n c] w λe w'=>∃v,e=.returned v/\aL 1 w w' 3 v n (i64s xs):=by
 rcases A with _|b
 ·have a:n=0:=by
   rcases PR n with a|a
   ·exact a
   ·obtain⟨b,h,_⟩:=hr.2 a
    cases h
  subst a;have p:=OU (by simpa using hr.1);rw[p];have q:∀w,(binOp .eql 25 (.slice none 0 c) (.slice none 0 0)).run prog w=.ok (.bool true) w:=λw=>zR
  go_in
  go_wp2;go_ret;exact⟨_,rfl,aL.F8 1 w 3⟩
 ·have r:=Blk.A8 w 3 #[] (g:=w.heap.size) rfl;have d:=Gh (B:=w.heap.size) (s:=1) r (OA _);have f:=hr.alloc (OA _) (.cells #[] 3);obtain⟨i,t,u,j,l⟩:=info_parts lV.info;have x:=Ho xs;have q:∀w,(binOp .eql 25 (.slice (some b) n c) (.slice none 0 0)).run prog w=.ok (.bool false) w:=λw=>zR
  go_in
  go_wp2_with (at_builtin;go_must (refine bP (w.alloc (.cells #[] 3)) rfl (.tmp 5) (.tmp 6) _ rfl w.heap.size 3 i (I 0) 1 8 lV.under t u j l rfl zP _ 0 [] rfl d w.heap.size (some b) n c (i64s xs) rfl f x zU zO zS ?_);intro y w' m o _)
  go_ret;refine⟨y,rfl,by simpa using m,?_⟩;exact(ae (Oy _ w) (.cells #[] 3)).grown o zS λk z=>(d.lt k z).1
structure cF(w:World)(p q B:Nat)(t:TypeId)(cs:Array Value)(sl al:Value)(l:Lk)(zs:List Int):Prop where
 lock:bt w p q B t cs sl l
 B3:aQ w B 3 1 al zs.length (i64s zs)
 a:cs[q+3]?=some al
structure oQ(t:TypeId):Prop where
 want:393≠t
 int:3≠t
section
variable {w w':World} {p q B:Nat} {t:TypeId} {cs cs':Array Value} {sl sl' al al2:Value} {l l':Lk} {zs zs2:List Int}
def cF.c3(h:cF w p q B t cs sl al l zs):w.cell? (Y p (q+3))=some al:=(h.lock.B0.cell (q+3)).trans h.a
def cF.up(h:cF w p q B t cs sl al l zs)(hb:M w w'):cF w' p q B t cs sl al l zs:=⟨h.lock.up hb,h.B3.later hb,h.a⟩
def cF.F7(h:cF w p q B t cs sl al l zs)(ht:oQ t):al.ownBlock≠some p:=h.B3.ne h.lock.B0 ht.int
def cF.R6(h:bt w p q B t cs sl l)(ht:oQ t)(ha:cs[q+3]?=some al)(hT:aQ w B 3 1 al2 zs2.length (i64s zs2)):cF (w.setCell (Y p (q+3)) al2) p q B t (cs.setIfInBounds (q+3) al2) sl al2 l zs2:=
 ⟨⟨h.B0.B4 (q+3) al2,h.line.D3 λk a=>Pd w _ _ k λe=>h.line.ne h.B0 ht.want (by rw[a,e]),(bf zO _).trans h.r,(bf zO _).trans h.m,(bf zO _).trans h.s⟩,
  hT.D3 λk a=>Pd w _ _ k λe=>hT.ne h.B0 ht.int (by rw[a,e]),cP ha _⟩
def cF.grown(h:cF w p q B t cs sl al l zs)(ht:oQ t)(hg:w.grownBy w' al.ownBlock):bt w' p q B t cs sl l:=
 ⟨h.lock.B0.grown hg λe=>h.F7 ht e.symm,h.lock.line.D3 λk a=>hg.block k (h.lock.line.lt k a).2 (pO h.lock.line h.B3 zP k a),h.lock.r,h.lock.m,h.lock.s⟩
def cF.dropped(h:cF w p q B t cs sl al l zs)(ht:oQ t)(h2:bt w' p q B t cs' sl' l')(hK:ag (λj=>j=p) w w')(ho:bF q 3 cs cs'):cF w' p q B t cs' sl' al l' zs:=
 ⟨h2,h.B3.D3 λk b=>hK.block k (h.B3.lt k b).2 λe=>h.F7 ht (by rw[b,e]),(ho.2 _ zO).trans h.a⟩
def cF.asked(h:cF w p q B t cs sl al l zs)(ht:oQ t)(h2:bt w' p q B t cs' sl' l')(hK:ag (λj=>j=p\/sl.ownBlock=some j) w w')(ho:bF q 3 cs cs'):cF w' p q B t cs' sl' al l' zs:=
 ⟨h2,h.B3.D3 λk b=>hK.block k (h.B3.lt k b).2 λe=>e.elim (λe=>h.F7 ht (by rw[b,e])) λe=>pO h.B3 h.lock.line zP k b e.symm,(ho.2 _ zO).trans h.a⟩
end
def Gj(p q B:Nat)(ty:TypeId)(cs:Array Value)(sl al:Value)(l:Lk)(zs:List Int)(t:Int)(w:World)(h:cF w p q B ty cs sl al l zs)(hty:oQ ty)(hl:l.ok)(hn:l.line.length<=900)(has:zs.length<=900)(hBw:B<=w.heap.size)(ht: -9223372036854775808<=t/\t<=9223372036854775807)(hz:eD l t=2):
  C 357 #[Z p q,I t] w λe w'=>
   (∃v,e=.returned (.tuple #[v,I 0]))/\∃cs' sl' al',cF w' p q B ty cs' sl' al' (mO l t).1 (zs++[t])/\bF q 4 cs cs'/\ag (λj=>j=p\/al.ownBlock=some j) w w'/\sl'.ownBlock=sl.ownBlock/\(al'.ownBlock=al.ownBlock\/∀k,al'.ownBlock=some k->w.heap.size<=k):=by
 have u:=ml p q B _ _ sl l t w h.lock hl ht;rw[hz]at u;have G:=Z1 u;have H:=Z1 hz;have L:=Z1 ht;have S:=h.c3;have R:=h.F7 hty;have T:=h.lock.B0.lt;obtain⟨A,c,rfl,_,_,_⟩:=h.B3.form
 go_in
 go_wp2_with fail;refine zY G.o ?_;have N:=h.B3
 go_wp2_with (at_builtin;go_must (refine rK lV zP rfl (.tmp 20) (.tmp 22) rfl rfl N hBw rfl rfl rfl zV zO zU ?_);intro U w' f g O b;obtain⟨r,s,rfl,_,_,_⟩:=f.form;have m:w.grownBy w' (Value.slice A zs.length c).ownBlock:=g;clear g;have x:=Z1 b;clear b;have d:=cF.grown h hty m;have X:=d.B0.frozen (q+3);have q3:w'.cell? (Y p (q+3))=some (Value.slice A zs.length c):=(d.B0.cell (q+3)).trans h.a)
 have y:cF (w'.setCell (Y p (q+3)) (Value.slice r (zs.length+1) s)) p q B ty (cs.setIfInBounds (q+3) (Value.slice r (zs.length+1) s)) sl (Value.slice r (zs.length+1) s) l (zs++[t]):=cF.R6 d hty h.a (by simpa[i64s]using f);refine(rP p q B _ _ sl l t _ y.lock hl hty.want hn L.o (by rw[H.o];decide)).mono ?_;rintro e w2 ⟨v,rfl,_,z,D,P,n,hK,F⟩;go_wp2
 go_ret2
 have Q:ag (λj=>j=p\/(Value.slice A zs.length c).ownBlock=some j) w w':=dl (ag.refl (λ_=>False) w) m (λ_ h=>h.elim) λk e=>.inr e;exact⟨⟨v,rfl⟩,z,D,_,y.dropped hty P hK n,((bF.refl q 4 cs).B4 (i:=q+3) zO zO _).trans (n.more (OA _) zO),(Q.setCell (p:=Y p (q+3)) (.inl (.inl rfl)) _).trans (hK.C3 λk e=>.inl e),F,x.o⟩
def aQ.R7{w:World}{B:Nat}{v:Value}{t:Int}{zs:List Int}(h:aQ w B 3 1 v (t::zs).length (i64s (t::zs))):
  ∃g off cap o2,v=V g off (zs.length+1) (cap+1)/\zs.length<=cap/\cap<maxLen/\w.cell? (Y g off)=some (I t)/\(cap=0/\o2=off\/cap≠0/\o2=off+1)/\
   aQ w B 3 1 (V g o2 zs.length cap) zs.length (i64s zs):=by
 obtain⟨g,off,cap,d,f,i,a⟩:=aQ.rest (n:=zs.length) h;have j:w.cell? (Y g off)=some (I t):=by
  obtain⟨A,c,e,_,_,m⟩:=h.form;obtain⟨b,o,p,_,q⟩:=m.J6 (k:=0) zP zS;have:=q 0 (I t) (by simp[i64s]);rw[d]at e;injection e with e _ _;rw[p]at e;injection e with e;injection e with r s;subst r s
  simpa using this
 by_cases l:cap=0
 ·refine⟨g,off,cap,off,d,f,i,j,.inl ⟨l,rfl⟩,?_⟩;rw[OB zO]at a;exact a
 ·refine⟨g,off,cap,off+1,d,f,i,j,.inr ⟨l,rfl⟩,?_⟩;rw[Oz zO]at a;exact a
def Gk(p q B:Nat)(ty:TypeId)(cs:Array Value)(sl al:Value)(l:Lk)(w:World)(h:cF w p q B ty cs sl al l []):
  C 279 #[Z p q] w λe w'=>e=.returned (.tuple #[I (-1),.bool false])/\w=w':=by
 have a:=h.c3;obtain⟨A,c,rfl,_,_,_⟩:=h.B3.form;simp only[OE]at a
 go_in
 go_wp2
 go_ret2
 exact⟨rfl,rfl⟩
def xV(p q B:Nat)(ty:TypeId)(cs:Array Value)(sl al:Value)(l:Lk)(t:Int)(zs:List Int)(w:World)(h:cF w p q B ty cs sl al l (t::zs))(hty:oQ ty)(hl:l.ok)(hn:l.line.length<=900)(has:zs.length<=900)(hBw:B<=w.heap.size)(ht: -9223372036854775808<=t/\t<=9223372036854775807):
  C 279 #[Z p q] w λe w'=>
   e=.returned (.tuple #[I t,.bool (gI l t true).2.1])/\∃cs' sl' al',cF w' p q B ty cs' sl' al' (gI l t true).1 zs/\bF q 4 cs cs'/\ag (λj=>j=p\/sl.ownBlock=some j) w w'/\al'.ownBlock=al.ownBlock/\(sl'.ownBlock=sl.ownBlock\/∀k,sl'.ownBlock=some k->w.heap.size<=k):=by
 have z:=Z1 ht;have Q:=h.c3;have N:=h.F7 hty;have R:=h.lock.B0.lt;have S:=h.lock.B0.frozen (q+3);obtain⟨g,O,c,A,rfl,b,f,P,m,D⟩:=aQ.R7 h.B3;have F:c<9223372036854775807:=by simpa[maxLen]using f
 have G:=cF.R6 h.lock hty h.a D;have n:=Z1 G;have T:=Z1 h;have r:ag (λj=>j=p\/sl.ownBlock=some j) w (w.setCell (Y p (q+3)) (V g A zs.length c)):=(ag.refl _ w).setCell (p:=Y p (q+3)) (.inl (.inl rfl)) _;have H:=Z1 r;have U:=Z1 b
 rcases m with⟨s,u⟩|⟨s,u⟩
 all_goals
  subst u;try (subst s;clear b)
  go_in
  go_wp2_with fail;refine(ud p q B _ _ sl l t true _ n.o.lock hl hty.want hn (by simpa[World.setCell]using hBw) z.o).mono ?_;rintro e X ⟨rfl,v,x,L,d,hK,y⟩;go_wp2
  go_ret2
  exact⟨rfl,v,x,_,n.o.asked hty L hK d,((bF.refl q 4 cs).B4 (i:=q+3) zO zO _).trans (d.more (OA _) zO),H.o.trans hK,rfl,by simpa[World.setCell]using y⟩
def xW(p q B:Nat)(ty:TypeId)(cs:Array Value)(sl al:Value)(l:Lk)(zs:List Int)(w:World)(h:cF w p q B ty cs sl al l zs)(hn:zs.length<=900):
  C 299 #[Z p q] w λe w'=>∃v,e=.returned v/\aL 1 w w' 3 v zs.length (i64s zs):=by
 have d:=h.c3;obtain⟨A,c,rfl,_,_,a⟩:=h.B3.form
 go_in
 go_wp2_with fail;refine zX (Gi zs A c zs.length w a zO) λv f b=>?_;go_wp2;go_ret;exact⟨v,rfl,b⟩
def Dt(f:Lk->Int->Lk)(l:Lk)(a:List Int)(t:Int):(a++[t]).foldl f l=f (a.foldl f l) t:=zS
def cF.O0{w w':World}{p q B B' n:Nat}{ty:TypeId}{cs:Array Value}{sl al v:Value}{l:Lk}{zs:List Int}{xs:List Value}(h:cF w p q B ty cs sl al l zs)(hg:w.grownBy w' v.ownBlock)(ho:w.ownsRow B' 3 1 v n xs)(hp:p<B')(hal:∀k,al.ownBlock=some k->k<B'):cF w' p q B ty cs sl al l zs:=
 ⟨h.lock.grown hg ho hp,h.B3.D3 λk b=>hg.block k (h.B3.lt k b).2 λe=>by have:=(ho.lt k e.symm).1;have:=hal k b;omega,h.a⟩
def AH(p q B:Nat)(ty:TypeId)(cs:Array Value)(sl al:Value)(l:Lk)(zs:List Int)(w:World)(h:cF w p q B ty cs sl al l zs)(hty:oQ ty)(hl:l.ok)(hn:l.line.length<=100)(hz:zs.length<=100)(hBw:B<=w.heap.size)(ht:rZ zs):
  C 284 #[Z p q] w λe w'=>(∃v,e=.returned v)/\∃cs' sl' al',cF w' p q B ty cs' sl' al' (kM l zs) []/\bF q 4 cs cs'/\ag (λj=>j=p\/sl.ownBlock=some j) w w'/\al'.ownBlock=al.ownBlock/\(sl'.ownBlock=sl.ownBlock\/∀k,sl'.ownBlock=some k->w.heap.size<=k):=by
 have Q:=Z1 (xW p q B ty cs sl al l zs w h zO);have R:∀k,al.ownBlock=some k->k<w.heap.size:=λk a=>(h.B3.lt k a).2;have hp:=h.lock.B0.lt;have S:=Z1 R;have HL:=Z1 hl;have HT:=Z1 ht;have HN:=Z1 hn;generalize T:zs.length=n at*;have r:=Z1 T
 go_in
 go_wp2_with fail;refine zX Q.o λv1 w1 x=>?_;obtain⟨A1,c1,rfl,_,_,_⟩:=x.form;have y:=h.up x.below;have U:=x.below;go_wp2;go_loopw [3,9] (λv i wr=>∃(k:Nat) (cs':Array Value) (sl' al':Value),k<=n/\i=I k/\wr.ownsRow w.heap.size 3 1 v k (i64s (zs.take k))/\cF wr p q B ty cs' sl' al' (kM l (zs.take k)) (zs.drop k)/\ag (λj=>j=p\/sl.ownBlock=some j) w wr/\Hid (al'.ownBlock=al.ownBlock/\bF q 4 cs cs'/\(sl'.ownBlock=sl.ownBlock\/∀k,sl'.ownBlock=some k->w.heap.size<=k))) (λ_ i _=>n-(intOf i).toNat)
 case atStart=>
  exact⟨0,cs,sl,al,zO,rfl,Pn _ _ _ _,by simpa[kM]using y,ag.B5 U,Z1 ⟨rfl,bF.refl _ _ _,.inl rfl⟩⟩
 case round=>
  obtain⟨k,cs',sl',al',a,rfl,L,hM,hK,c⟩:=hrel;have X:=Z1 hM;have N:=Z1 L;have g:=Z1 hK;have a3:=hK.size;by_cases a8:k<n
  ·have z:k<zs.length:=by have:=r.o;omega
   have aa:=Pu z;have ab:=OG z;have ac:=HT.o k z;generalize zs[k]=t at*;have HD:=Z1 aa;have G:=Z1 ab;have ad:=Z1 ac;obtain⟨ae,O⟩:=IE (zs.take k) HL.o;have af:=Z1 ae;have ah:(kM l (zs.take k)).line.length<=900:=by have:=HN.o;simp at O;omega
   have ai:=Z1 ah;have aj:(zs.drop (k+1)).length<=900:=by have:=r.o;simp;omega
   have ak:=Z1 aj;have H:Hid (cF wr p q B ty cs' sl' al' (kM l (zs.take k)) (t::zs.drop (k+1))):=by rw[<-HD.o];exact X
   go_wp2_with fail;refine(xV p q B ty cs' sl' al' _ t _ wr H.o hty af.o ai.o ak.o zO ad.o).mono ?_;rintro e w2 ⟨rfl,am,an,ao,ap,P,A,aq,ar⟩;have D:=A.U3 N.o λk a e=>e.elim (λe=>by have:=(N.o.lt k a).1;omega) λe=>qS H.o.lock.line N.o zP k e a.symm;have a9:=A.size;have au:=Z1 ap;have d:=Z1 A;have s:=Z3 aq P ar
   go_wp2_with (at_builtin;go_must (refine bZ lV zP rfl (.tmp 16) (.tmp 18) rfl rfl D zO zS rfl rfl zV zO zU ?_);intro v' w' av b)
   go_roundw
   case rel=>
    have aw:=au.o.O0 b D hp λk a=>by rw[s.o.1,c.o.1]at a;exact S.o k a
    have u:ag (λj=>j=p\/sl.ownBlock=some j) w w2:=⟨d.o.os.trans g.o.os,d.o.tape.trans g.o.tape,d.o.output.trans g.o.output,OJ g.o.size d.o.size,λj F f=>(d.o.block j (OV F g.o.size) λe=>e.elim (λe=>f (.inl e)) λe=>by
     rcases c.o.2.2 with m|m
     ·exact f (.inr (m▸e))
     ·have:=m j e;omega).trans (g.o.block j F f)⟩
    refine⟨k+1,am,an,ao,zO,by go_num,?_,?_,?_,Z1 ⟨by rw[s.o.1,c.o.1],c.o.2.1.trans s.o.2.1,?_⟩⟩
    ·rw[G.o];simpa[i64s]using av
    ·rw[G.o];unfold kM;rw[Dt];exact aw
    ·exact⟨b.os.trans u.os,b.tape.trans u.tape,b.output.trans u.output,OJ u.size b.size,λj F f=>(b.block j (OV F u.size) λe=>by have:=(D.lt j e.symm).1;omega).trans (u.block j F f)⟩
    ·rcases s.o.2.2 with m|m
     ·rw[m];exact c.o.2.2
     ·exact .inr λk a=>by have:=m k a;omega
   case measure=>simp[intOf];omega
  ·have ax:k=n:=zO;subst ax;go_wp2;go_ret;have e1:zs.take k=zs:=OT (by have:=r.o;omega);have e2:zs.drop k=[]:=Pt (by have:=r.o;omega);have y:=X.o;rw[e1]at y;rw[e2]at y;exact⟨⟨_,rfl⟩,cs',sl',al',y,c.o.2.1,g.o,c.o.1,c.o.2.2⟩
def hit(x:Ev)(kd t n:Int):Bool:=x.kind==kd&&x.task==t&&x.nth==n
def Ev.rep(e:Ev):Array Value:=((e.cs.toList.drop 14).take 13).toArray
def reps(l:List Ev):List Value:=l.flatMap λe=>e.rep.toList
def Hd(l:List Ev)(e:Ev):reps l++e.rep.toList=reps (l++[e]):=by simp[reps]
section
open Go.Shelf Go.WideShapes Go.ChangeShapes Go.Deep
set_option maxRecDepth 100000
def Oj:∃z,cE prog 41 77 z 13 104:=by
 have h:(prog.info? 77).map (λi=>(i.zero.isSome,i.size,i.bytes))=some (true,13,104):=zR;have a:=oF.zero
 cases hi:prog.info? 77 with
 |none=>simp[hi]at h
 |some i=>
  cases hzz:i.zero with
  |none=>simp[hi,hzz]at h
  |some z=>
   simp[hi,hzz]at h a;exact⟨z,underlying41,by simp[hi,hzz,h],a⟩
def cV.K6{e:Ev}(h:cV e):e.rep.size=13:=by
 unfold Ev.rep;simp[h.size]
def cV.P1{e:Ev}(h:cV e)(hu:e.rep.toList[j]?=some u):e.cs.toList[14+j]?=some u:=by
 unfold Ev.rep at hu;simp only at hu;rw[QX]at hu;split at hu
 ·rwa [PM]at hu
 ·cases hu
def cV.P2{e:Ev}(h:cV e):∀u∈e.rep.toList,u.oneCell'=true:=λu a=>h.one u (by
 unfold Ev.rep at a;exact PN (Qb a))
def yG(l:List Ev)(A:Option Addr)(c n:Nat)(t:Int)(w:World)(ho:∀e∈l,cV e)(hr:an w w.heap.size 34 A n (evs l))(hl:n<=100000):
  C 13 #[.slice A n c,I t] w λe w'=>∃v,e=.returned v/\aL 13 w w' 77 v ((l.filter λx=>x.task==t).filter λx=>x.kind==3).length (reps ((l.filter λx=>x.task==t).filter λx=>x.kind==3)):=by
 have hn:=kA ho hr;have g:(l.filter λx=>x.task==t).length<=100000:=OJ (PF _ _) zO;have a2:((l.filter λx=>x.task==t).filter λx=>x.kind==3).length<=100000:=OJ (PF _ _) g;have h:∀e∈(l.filter λx=>x.task==t),cV e:=λe T=>ho e (Pp.1 T).1;have H:∀e∈((l.filter λx=>x.task==t).filter λx=>x.kind==3),cV e:=λe T=>h e (Pp.1 T).1;have y:=Z3 ho h H;obtain⟨z,hE⟩:=Oj;clear hn ho h H
 go_in
 go_wp2_with fail;refine zX (Mh l A c n t _ y.o.1 hr hl) λv1 w1 f=>?_;obtain⟨A1,c1,rfl,_,_,r1⟩:=f.form;have b1:=f.below;clear f hr;go_wp2_with fail;refine zX (FY _ A1 c1 _ 3 _ y.o.2.1 r1 g) λv2 D m=>?_;obtain⟨A2,c2,rfl,_,_,U⟩:=m.form;have b2:=af b1 m.below;clear m b1 r1;have L:=Z1 y.o.2.2;clear y g;generalize N:((l.filter λx=>x.task==t).filter λx=>x.kind==3)=d at*;have ad:=Z1 N;clear N;have ag:=Z1 b2;clear b2;go_wp2;go_loopw [5,13] (λv i wr=>∃(k:Nat),k<=d.length/\i=I k/\∃(F:Option Addr) (G:Nat),v=.slice F k G/\Hid (aL 13 D wr 77 v k (reps (d.take k)))) (λ_ i _=>d.length-(intOf i).toNat)
 case atStart=>exact⟨0,OK _,rfl,none,0,rfl,Z1 (aL.F8 13 D _)⟩
 case round=>
  obtain⟨k,hk,rfl,F,G,rfl,p⟩:=hrel;by_cases q:k<d.length
  ·obtain⟨b,o,rfl,_,hc⟩:=mw L.o (U.below p.o.below) q;have hx:=L.o _ (OR q);have hs:=OG q;have r:=Hd (d.take k) d[k];rw[<-hs]at r;have al:=Z1 r;have s:=Z1 hx;have a3:=Z1 U;clear hs r hx U;generalize d[k]=x at*;have f:(wr.alloc (.cells x.cs 79)).ownsRow D.heap.size 77 13 (.slice F k G) k (reps (d.take k)):=p.o.own.alloc _;have O:=Z1 f;have P:=Z1 p.o.le;have Q:∀j v,x.rep.toList[j]?=some v->(wr.alloc (.cells x.cs 79)).cell? (((Y wr.heap.size 14):Addr).add j)=some v:=λj v hv=>by
    have h1:=ff wr 79 x.cs (14+j) v (s.o.P1 hv);rw[show((Y wr.heap.size 14):Addr).add j=(Y wr.heap.size (14+j)) by unfold Addr.add;split<;>simp_all]
    rwa [show((Y wr.heap.size 0):Addr).add (14+j)=(Y wr.heap.size (14+j)) by unfold Addr.add;split<;>simp_all]at h1
   have a:=Z6 s.o.size s.o.all (dw hc) s.o.K6 s.o.P2 Q;clear hc f Q;have ay:(k:Int)<(d.length:Int):=zO
   go_wp2_with (first|(refine aG ba rfl (.tmp 15) rfl (Y b (o+k*34)) zF x.cs a.o.1 a.o.2.2.1 ?_)|(refine aS ba rfl rfl ?_)|(refine aT ba rfl (.tmp 7) (.tmp 16) rfl _ rfl zF x.cs _ zF _ a.o.1 ba.D6 a.o.2.1 ?_)|(refine aG oF rfl (.tmp 18) rfl (Y wr.heap.size 14) zF x.rep a.o.2.2.2.1 a.o.2.2.2.2.2 ?_)|(refine pa oF zP zP rfl 41 (.tmp 19) rfl underlying41 x.rep zF a.o.2.2.2.1 ?_)|(at_builtin;refine d9 (w:=wr.alloc (.cells x.cs 79)) (v:=.slice F k G) (n:=k) (xs:=reps (d.take k)) (B:=D.heap.size) hE zP rfl (.tmp 17) (.tmp 20) rfl zF O.o (OJ P.o zS) rfl zF a.o.2.2.2.1 a.o.2.2.2.2.1 zO zU ?_;intro v' w' u R S;obtain⟨A3,k3,rfl,_,_⟩:=ak u;have HG:=Z3 u R S;clear u R S))
   go_roundw
   case rel=>exact⟨k+1,zO,by go_num,A3,k3,rfl,Z1 ⟨by rw[<-al.o];exact HG.o.1,(ae p.o.below _).grown HG.o.2.1 (OJ P.o zS) λj hj=>(O.o.lt j hj).1⟩⟩
   case measure=>simp[intOf];omega
  ·obtain rfl:k=d.length:=zO;have hf:d.take d.length=d:=OT (OA _);have X:=p.o;rw[hf]at X;have ap:=Z1 (X.lower ag.o);clear X hf;go_wp2;go_ret;exact⟨_,rfl,by rw[ad.o];exact ap.o⟩
end
end Go.Fw
