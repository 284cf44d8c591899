/- Lemmas of this claim. Conditions: as each says. -/
import Derived.Test.YtpfmpaolgmoajaaGreatL12
import Derived.Test.YtpfmpaolgmoajaaGreatL13
import Derived.Test.YtpfmpaolgmoajaaGreatL11
set_option linter.unusedVariables false
set_option linter.unusedSimpArgs false
set_option maxHeartbeats 4000000
set_option maxRecDepth 20000
set_option linter.defProp false
open Go.Proofs.Tryz
namespace Go.Fw
open Go.RowKit open Go.Proofs hiding intOf
variable {L:Nat->Prop}{n p k B q j used:Nat}{vo' vp vo vw:Value}{T:Nat->Tg}{W w':World}{g':Gs}{xs:Array Value}{A:Option Addr}{ps:List (List Cl)}{pcs pws:List Nat}(w:World)(wp:Nat)(c:Cg)(e:En)(t:Int)(r:Nat->Bool)(x:Cl)(vs:Value)(v:Vt)(pick:Int)(l:List Ev)(g:Gs)(a:Addr)
structure Ci.ok(c:Cg)(x:Ci):Prop where
 prog:∀y∈x.prog,y.ok
 len:x.prog.length<=1000
 task:0<=x.task/\x.task<32
 nth:x.nth<=x.prog.length
 at_:x.at_<(aF c x.call).length
 B8:x.B8= -1\/∃n:Nat,x.B8=n/\n<c.st+2
 rep:x.rep.ok
def Ci.ok.call{c:Cg}{x:Ci}(h:x.ok c)(ho:x.over=false):x.nth<x.prog.length/\x.call∈x.prog/\x.call.ok:=by
 have a:x.nth<x.prog.length:=by
  unfold Ci.over at ho
  simpa using ho
 have b:x.call∈x.prog:=by
  unfold Ci.call;rw[OP,OL a];exact OR a
 exact⟨a,b,h.prog _ b⟩
def bv(wp:Nat)(vp vo:Value)(x:Ci):Array Value:=#[Z wp 0,vp,vo,I x.task,I (x.nth:Int),I (x.at_:Int),I x.B8,I x.rep.err,I x.rep.I9,I x.rep.handle,I x.rep.stat.count,I x.rep.stat.sum,I x.rep.stat.least,I x.rep.stat.F5,I x.rep.stat.F3,I x.rep.E0.tick,I x.rep.E0.load,I x.rep.E0.want,I x.rep.E0.reps,I x.rep.E0.I8]
def iM{w:World}{p wp:Nat}{t:TypeId}{vp vo:Value}{x:Ci}(h:Blk w p t (bv wp vp vo x)):w.cell? (Y p 0)=some (Z wp 0):=h.cell 0
def wj{w:World}{p wp:Nat}{t:TypeId}{vp vo:Value}{x:Ci}(h:Blk w p t (bv wp vp vo x)):w.cell? (Y p 1)=some vp:=h.cell 1
def s9{w:World}{p wp:Nat}{t:TypeId}{vp vo:Value}{x:Ci}(h:Blk w p t (bv wp vp vo x)):w.cell? (Y p 2)=some vo:=h.cell 2
def tc{w:World}{p wp:Nat}{t:TypeId}{vp vo:Value}{x:Ci}(h:Blk w p t (bv wp vp vo x)):w.cell? (Y p 3)=some (I x.task):=h.cell 3
def mZ{w:World}{p wp:Nat}{t:TypeId}{vp vo:Value}{x:Ci}(h:Blk w p t (bv wp vp vo x)):w.cell? (Y p 4)=some (I (x.nth:Int)):=h.cell 4
def wm{w:World}{p wp:Nat}{t:TypeId}{vp vo:Value}{x:Ci}(h:Blk w p t (bv wp vp vo x)):w.cell? (Y p 5)=some (I (x.at_:Int)):=h.cell 5
def td{w:World}{p wp:Nat}{t:TypeId}{vp vo:Value}{x:Ci}(h:Blk w p t (bv wp vp vo x)):w.cell? (Y p 6)=some (I x.B8):=h.cell 6
def Ln{w:World}{p wp:Nat}{t:TypeId}{vp vo:Value}{x:Ci}(h:Blk w p t (bv wp vp vo x)):w.cell? (Y p 7)=some (I x.rep.err):=h.cell 7
structure cI(w:World)(c:Cg)(T:Nat->Tg)(wp p:Nat)(x:Ci)(vp vo:Value):Prop where
 B0:Blk w p 201 (bv wp vp vo x)
 tp:T p=.free
 prog:w.ownsRow 0 73 11 vp x.prog.length (cls x.prog)
 I5:∀b,vp.ownBlock=some b->T b=.free
 ops:(vo=.slice none 0 0/\x.at_=0)\/w.ownsRow 0 250 2 vo (aF c x.call).length (d7 (aF c x.call))
 G4:∀b,vo.ownBlock=some b->T b=.free
def cY(w:World)(c:Cg)(T:Nat->Tg)(wp p:Nat)(x:Ci):Prop:=∃vp vo,cI w c T wp p x vp vo
def bp(w w':World)(c:Cg)(T:Nat->Tg)(wp:Nat)(g':Gs)(p:Nat)(x':Ci):Prop:=∃T',aW T T' w.heap.size/\GAt w' c T' wp g'/\cY w' c T' wp p x'/\ag (λb=>eN (T b)\/b=p) w w'
section
variable {w w' w'' W:World} {c:Cg} {T T':Nat→Tg} {wp p:Nat} {g g':Gs} {x x':Ci} {vp vo:Value}
def cI.B7(h:cI w c T wp p x vp vo)(hK:ag L w w')(hL:∀b,T b=.free->¬L b)(hT:∀b,b<w.heap.size->T b=.free->T' b=.free):cI w' c T' wp p x vp vo:=
 ⟨hK.B0 h.B0 (hL _ h.tp),hT _ h.B0.lt h.tp,hK.C8 h.prog λb e=>hL _ (h.I5 b e),λb e=>hT _ (h.prog.lt b e).2 (h.I5 b e),h.ops.imp id λa=>hK.C8 a λb e=>hL _ (h.G4 b e),λb e=>by
  rcases h.ops with a|a
  ·rw[a.1]at e;cases e
  ·exact hT _ (a.lt b e).2 (h.G4 b e)⟩
def cI.up(h:cI w c T wp p x vp vo)(hb:M w w'):cI w' c T wp p x vp vo:=h.B7 (ag.B5 hb) (λ_ _ e=>e) λ_ _ e=>e
def cI.more(h:cI w c T wp p x vp vo)(hT:∀b,b<w.heap.size->T' b=T b):cI w c T' wp p x vp vo:=h.B7 (ag.refl (λ_=>False) w) (λ_ _ e=>e) λb a e=>(hT b a).trans e
def cY.up(h:cY w c T wp p x)(hb:M w w'):cY w' c T wp p x:=by
 obtain⟨a,b,h⟩:=h;exact⟨a,b,h.up hb⟩
def bp.F4(h:cY w c T wp p x)(hg:bj w w' c T wp g'):bp w w' c T wp g' p x:=by
 obtain⟨g,a,i,d⟩:=hg;obtain⟨j,l,h⟩:=h;exact⟨g,a,i,⟨j,l,h.B7 d (λb e f=>by rw[e]at f;exact f) λb m e=>(a.keepT m (by rw[e];intro k f;cases f)).trans e⟩,d.C3 λb e=>.inl e⟩
def bp.trans(h1:aW T T' w.heap.size)(hK:ag (λb=>eN (T b)\/b=p) w w')(h2:bp w' w'' c T' wp g' p x'):bp w w'' c T wp g' p x':=by
 obtain⟨d,f,g,h,i⟩:=h2;refine⟨d,h1.trans f hK.size,g,h,bL hK i λb j e=>?_⟩
 rcases e with e|e
 ·rcases h1 b j with a|⟨k,a,l⟩
  ·rw[a]at e;exact .inl e
  ·rw[l]at e;exact e.elim
 ·exact .inr e
def bp.after(hb:M w w')(h2:bp w' w'' c T wp g' p x'):bp w w'' c T wp g' p x':=bp.trans (aW.refl _ _) (ag.B5 hb) h2
def bp.later(h1:bp w w' c T wp g p x)(hb:Below w'.heap.size w' w''):bp w w'' c T wp g p x:=by
 obtain⟨a,b,d,e,f⟩:=h1;exact⟨a,b,d.up hb,e.up hb,f.trans (ag.B5 hb)⟩
def bp.box(hn:n=w.heap.size)(hb:M w W)(h:bp W w' c (ext T n .free) wp g' p x'):bp w w' c T wp g' p x':=by
 subst hn;obtain⟨f,g,i,j,k⟩:=h;refine⟨f,λb a=>?_,i,j,bL (ag.B5 hb) k λb a e=>?_⟩
 ·have l:=g b (OV a hb.size)
  rwa [br T _ a]at l
 ·rcases e with e|e
  ·have d:=e;rw[br T _ a]at d;exact .inl d
  ·exact .inr e
def bp.own(hg:GAt w c T wp g)(h:cI w c T wp p x vp vo)(hO:aI p w w')(hb:Blk w' p 201 (bv wp vp vo' x'))(hp:x'.prog=x.prog)
  (ho:(vo'=.slice none 0 0/\x'.at_=0)\/w.ownsRow 0 250 2 vo' (aF c x'.call).length (d7 (aF c x'.call)))(ht:∀b,vo'.ownBlock=some b->T b=.free):bp w w' c T wp g p x':=by
 have hK:=hO.B7;refine⟨T,aW.refl _ _,hg.only h.tp hO,⟨vp,vo',hb,h.tp,?_,h.I5,ho.imp id λa=>hK.C8 a λb e f=>?_,ht⟩,hK.C3 λb e=>.inr e⟩
 ·rw[hp];exact hK.C8 h.prog λb e f=>aB h.prog h.B0 zP (f▸e)
 ·exact aB a h.B0 zP (f▸e)
end
def cI.own{w w':World}{c:Cg}{T:Nat->Tg}{wp p:Nat}{x x':Ci}{vp vo:Value}(h:cI w c T wp p x vp vo)(hO:aI p w w'){vo':Value}(hb:Blk w' p 201 (bv wp vp vo' x'))(hp:x'.prog=x.prog)
  (ho:(vo'=.slice none 0 0/\x'.at_=0)\/w.ownsRow 0 250 2 vo' (aF c x'.call).length (d7 (aF c x'.call)))(ht:∀b,vo'.ownBlock=some b->T b=.free):cI w' c T wp p x' vp vo':=by
 have hK:=hO.B7;refine⟨hb,h.tp,?_,h.I5,ho.imp id λa=>hK.C8 a λb e f=>?_,ht⟩
 ·rw[hp];exact hK.C8 h.prog λb e f=>aB h.prog h.B0 zP (f▸e)
 ·exact aB a h.B0 zP (f▸e)
def cI.F4{w w':World}{c:Cg}{T:Nat->Tg}{wp p:Nat}{g':Gs}{x:Ci}{vp vo:Value}(h:cI w c T wp p x vp vo)(hg:bj w w' c T wp g'):bc (λW T=>cI W c T wp p x vp vo) w w' c T wp g' p:=by
 obtain⟨g,a,i,d⟩:=hg;exact⟨g,a,i,h.B7 d (λb e f=>by rw[e]at f;exact f) λb j e=>(a.keepT j (by rw[e];intro k f;cases f)).trans e,d.C3 λb e=>.inl e⟩
def oT(w:World)(c:Cg)(T:Nat->Tg)(wp p:Nat)(x:Ci)(h:cY w c T wp p x)(hx:x.ok c):C 257 #[Z p 0] w (J (.bool x.over) w):=by
 obtain⟨b,j,h⟩:=h;have l:w.cell? (Y p 4)=some (I (x.nth:Int)):=h.B0.cell 4;have m:w.cell? (Y p 1)=some b:=h.B0.cell 1;obtain⟨A,k,rfl,f,g⟩:=ak h.prog;have a:decide (x.prog.length<=x.nth)=x.over:=rfl;have d:=Z1 a;have i:M w w.drew:=(zi w);generalize x.prog.length=n at*;clear h hx a
 go_in
 go_wp2;go_quiet (fail);go_wp2;go_ret;refine⟨?_,fd (Oy _ w) _⟩;show Ending.returned (.bool (decide (n<=x.nth)))=_;rw[d.o]
def ue(a:Int):(a !=0)=decide (a≠0):=by by_cases h:a=0<;>simp[h]
def qU(w:World)(c:Cg)(hc:c.ok)(T:Nat->Tg)(wp p:Nat)(g:Gs)(x:Ci)(hg:GAt w c T wp g)(h:cY w c T wp p x)(hx:x.ok c):C 258 #[Z p 0] w (J (.bool (x.ready g)) w):=by
 have j:=Z1 (λU k=>oT U c T wp p x (h.up k) hx);have s:=Z1 (λU (k:M w U)=>vC U c hc T wp g (hg.up k));obtain⟨l,m,h⟩:=h;have d:=And.intro ((zi w)) h.B0.drew;have q:x.ready g=(!x.over&&(decide (x.B8<0)||decide (g.held x.B8 x.task≠0))):=rfl;have t:aq x.task:=by have:=hx.task;constructor<;>omega
 have f:=hx.B8;generalize x.over=u at*;rw[q];clear h hg hx q
 cases u with
 |true=>
  go_in
  go_upto_region 1 with fail
  refine zH (S:=λU=>M w U/\Blk U p 201 (bv wp l m x)) d ?_;refine zo 1 λK hK=>?_;go_simp;refine zm (j.o _ d.1) λr b=>?_;have a:=And.intro (af d.1 b) (d.2.later b);refine zJ hK a ?_;go_wp2;go_ret;exact⟨rfl,a.1⟩
 |false=>
  rcases f with f|⟨n,f,v⟩
  ·rw[f]
   go_in
   go_upto_region 1 with fail
   refine zH (S:=λU=>M w U/\Blk U p 201 (bv wp l m x)) d ?_;refine zo 1 λK hK=>?_;go_simp;refine zm (j.o _ d.1) λr b=>?_;have a:=And.intro (af d.1 b) (d.2.later b);refine zJ hK a ?_;refine zQ 7 _ ?_ (hy:=λW hW=>by have i:=td hW.2;rw[f]at i;exact zf);go_wp2;go_ret;exact⟨rfl,a.1⟩
  ·rw[f]
   go_in
   go_upto_region 1 with fail
   refine zH (S:=λU=>M w U/\Blk U p 201 (bv wp l m x)) d ?_;refine zo 1 λK hK=>?_;go_simp;refine zm (j.o _ d.1) λr b=>?_;have a:=And.intro (af d.1 b) (d.2.later b);refine zJ hK a ?_;refine zQ 7 _ ?_ (hy:=λW hW=>by have i:=td hW.2;rw[f]at i;exact zf);refine zQ 13 _ ?_ (hy:=λW hW=>by have y:=iM hW.2;exact zf);refine zQ 17 _ ?_ (hy:=λW hW=>by have i:=td hW.2;rw[f]at i;exact zf);refine zq 21 _ ?_ (hy:=λW hW=>by have z:=tc hW.2;exact zf);refine zo 22 λK hK=>?_;go_simp;refine zY (s.o _ a.1 n v _ t) ?_;refine zJ hK a ?_;go_wp2;go_ret;refine⟨?_,a.1⟩;show Ending.returned (.bool (decide ((n:Int)<0)||(g.held n x.task !=0)))=_;rw[ue];rfl
def cI.K4{w:World}{c:Cg}{wp:Nat}{x:Ci}(h:cI w c T wp p x vp vo)(hlt:x.nth<x.prog.length):∃b o k,vp=V b o x.prog.length k/\∀U,M w U->∀j v,x.call.arr.toList[j]?=some v->U.cell? (((Y b (o+x.nth*11)):Addr).add j)=some v:=by
 obtain⟨A,k,rfl,r,s⟩:=ak h.prog;have d:=an.C4 h.prog;obtain⟨b,o,rfl,t,y⟩:=sf d hlt;refine⟨b,o,k,rfl,λU i j v f=>?_⟩;obtain⟨z,B,e,_,g⟩:=sf (d.up i) hlt;injection e with e;injection e with l m;subst l m;have a:x.call=x.prog[x.nth]:=by
  unfold Ci.call;rw[OP,OL hlt];rfl
 rw[a]at f;refine dw (b:=b) (o:=o+x.nth*11) (cs:=x.prog[x.nth].arr) (λj u n=>?_) j v f;have q:=g j u n;rw[PQ];exact q
def Gp{w:World}{wp:Nat}{t:TypeId}{x:Ci}(h:Blk w p t (bv wp vp vo x)):∀j v,x.rep.arr.toList[j]?=some v->w.cell? (((Y p 7):Addr).add j)=some v:=by
 refine dw (b:=p) (o:=7) (cs:=x.rep.arr) λj v a=>?_;have e:j<13:=by
  have c:=OZ.1 a;obtain⟨d,_⟩:=c;exact d
 rw[h.cell];rw[<-a]
 rcases j with _|_|_|_|_|_|_|_|_|_|_|_|_|j<;>first|rfl|omega
def iN{n:Int}(h:0<=n/\n<=1000000):aq n:=⟨zO,zO⟩
def DB:(⟨0,0⟩:K2).ok:=⟨⟨zP,zP⟩,zP,zP⟩
def nT:az.ok:=⟨aD,aD,aD,aD,aD⟩
def ym:Rp.zero.ok:=⟨aD,aD,aD,⟨aD,aD,aD,aD,aD⟩,nT⟩
def mE:v.arr.all (·.oneCell')=true:=by simp[Vt.arr,Vt.cells,Cl.cells,Cl.arr,Rp.cells,Rp.arr,St.cells,St.arr,Adv.cells,K2.cells,Value.oneCell']
def kF:v.arr.size=34:=rfl
def bj.E8{c:Cg}{wp:Nat}{t:TypeId}(h:bj W w' c (ext T n .free) wp g')(hb:Blk W p t xs)(hp:p<n)(ht:T p=.free):Blk w' p t xs:=by
 obtain⟨b,d,f,a⟩:=h;refine a.B0 hb λe=>?_;rw[br T _ hp,ht]at e;exact e
def mF:x.arr.all (·.oneCell')=true:=by simp[Cl.arr,Value.oneCell']
def Gq(hc:c.ok)(T:Nat->Tg)(wp p:Nat)(g:Gs)(x:Ci)(hg:GAt w c T wp g)(h:cY w c T wp p x)(hx:x.ok c)(ho:x.over=false)(hn:g.ev.length<=70000):C 265 #[Z p 0,I 1] w λe w'=>e=.returned (.tuple #[])/\bj w w' c T wp (g.note (x.event 1)):=by
 obtain⟨F,_,f⟩:=hx.call ho;have i:(x.event 1).ok:=⟨iN (n:=1) zO,iN (n:=x.task) (by have:=hx.task;omega),iN (n:=(x.nth:Int)) (by have:=hx.nth;have:=hx.len;omega),f,ym,DB,nT⟩;have O:=Z1 (λU (P:M w U)=>lB U c (ext T w.heap.size .free) wp g (hg.free.up P) (x.event 1) i hn);obtain⟨vp,j,h⟩:=h;obtain⟨b,o,k,rfl,l⟩:=h.K4 F;have Q:=Z1 l;have a:=And.intro ((zi w)) h.B0.drew;have m:=h.B0.lt;have G:=Z1 h.tp;have R:Hid (x.event 1=⟨1,x.task,x.nth,x.call,.zero,⟨0,0⟩,az⟩):=Z1 rfl;generalize H:x.event 1=ev at*;clear h hg hx l i ho H f
 go_in
 go_upto_region 0 with fail
 refine zH (S:=λU=>M w U/\Blk U p 201 (bv wp (V b o x.prog.length k) j x)) a ?_;refine zQ 4 _ ?_ (hy:=λW hW=>by have q3:=tc hW.2;exact zf);refine zQ 8 _ ?_ (hy:=λW hW=>by have X:=mZ hW.2;exact zf);refine zo 10 λK hK=>?_;go_simp;have d:M w (w.drew.alloc (.cells (⟨0,0,0,.zero,.zero,⟨0,0⟩,az⟩:Vt).arr 79))/\Blk (w.drew.alloc (.cells (⟨0,0,0,.zero,.zero,⟨0,0⟩,az⟩:Vt).arr 79)) p 201 (bv wp (V b o x.prog.length k) j x):=⟨ae a.1 _,a.2.alloc _⟩;have B:=Blk.A8 w.drew 79 (⟨0,0,0,.zero,.zero,⟨0,0⟩,az⟩:Vt).arr rfl;refine zJ hK d ?_;refine zo 11 λK hK=>?_;refine bX ba (.tmp 4) (.tmp 14) rfl w.drew.heap.size 0 zF (⟨1,x.task,x.nth,.zero,.zero,⟨0,0⟩,az⟩:Vt).arr zF B rfl zP (mE _) ?_;intro w2 q r;have s:=And.intro (r.below d.1 (OA _)) (r.B0 d.2 (PP m));refine zJ hK s ?_;rw[show bH (⟨0,0,0,.zero,.zero,⟨0,0⟩,az⟩:Vt).arr 0 (⟨1,x.task,x.nth,.zero,.zero,⟨0,0⟩,az⟩:Vt).arr.toList=(⟨1,x.task,x.nth,.zero,.zero,⟨0,0⟩,az⟩:Vt).arr by kernel_rfl]at q;have A:=Z2 s q;clear a d s B r q;go_upto_region 2 with fail
 have a:=And.intro A.o.1.1.drew A.o.1.2.drew;refine zH (S:=λU=>M w U/\Blk U p 201 (bv wp (V b o x.prog.length k) j x)) a ?_;refine zQ 3 _ ?_ (hy:=λW hW=>by have q1:=wj hW.2;exact zf);refine zQ 7 _ ?_ (hy:=λW hW=>by have X:=mZ hW.2;exact zf);refine zQ 9 _ ?_ (hy:=λW hW=>by refine bE gV (.tmp 25) ?_ (Y b (o+x.nth*11)) ?_ x.call.arr rfl ?_;exact rfl;exact rfl;exact Q.o _ hW.1);refine zo 11 λK hK=>?_;refine bX gV (.tmp 27) (.tmp 26) rfl w.drew.heap.size 3 zF x.call.arr zF A.o.2.drew rfl (by rw[kF];decide) (mF _) ?_;intro L t u;have v:=And.intro (u.below a.1 (OA _)) (u.B0 a.2 (PP m));refine zJ hK v ?_;rw[show bH (⟨1,x.task,x.nth,.zero,.zero,⟨0,0⟩,az⟩:Vt).arr 3 x.call.arr.toList=(⟨1,x.task,x.nth,x.call,.zero,⟨0,0⟩,az⟩:Vt).arr by kernel_rfl]at t;have y:=Z2 v t;clear a v u t A;go_upto_region 5 with fail
 have D:=y.o.1.1.drew;have a:Blk L.drew p 201 (bv wp (V b o x.prog.length k) j x)/\Blk L.drew w.drew.heap.size 79 ev.arr:=⟨y.o.1.2.drew,by rw[R.o];exact y.o.2.drew⟩;refine zH (S:=λU=>Blk U p 201 (bv wp (V b o x.prog.length k) j x)/\Blk U w.drew.heap.size 79 ev.arr) a ?_;refine(zp 3 ?_);refine zq 4 _ ?_ (hy:=λW hW=>by refine bE ba (.tmp 4) ?_ (Y w.drew.heap.size 0) ?_ ev.arr rfl ?_;exact rfl;exact rfl;exact bQ hW.2);refine zo 5 λK hK=>?_;go_simp;refine zm (O.o _ D) λw5 z=>?_;have N:=And.intro (z.E8 a.1 m G.o) (z.B0 a.2 (OA _));refine zJ hK N ?_;go_wp2;refine zt ?_;exact⟨rfl,bj.box rfl D z⟩
def Gr(hc:c.ok)(T:Nat->Tg)(wp p:Nat)(g:Gs)(x:Ci)(hg:GAt w c T wp g)(h:cY w c T wp p x)(hx:x.ok c)(ho:x.over=false)(hn:g.ev.length<=70000):C 265 #[Z p 0,I 2] w λe w'=>e=.returned (.tuple #[])/\bj w w' c T wp (g.note (x.event 2)):=by
 obtain⟨O,_,k⟩:=hx.call ho;have l:(x.event 2).ok:=⟨iN (n:=2) zO,iN (n:=x.task) (by have:=hx.task;omega),iN (n:=(x.nth:Int)) (by have:=hx.nth;have:=hx.len;omega),k,hx.rep,DB,nT⟩;have HN:=Z1 (λU (hU:M w U)=>lB U c (ext T w.heap.size .free) wp g (hg.free.up hU) (x.event 2) l hn);obtain⟨vp,m,h⟩:=h;obtain⟨b,o,q,rfl,r⟩:=h.K4 O;have HC:=Z1 r;have a:=And.intro ((zi w)) h.B0.drew;have i:=h.B0.lt;have P:=Z1 h.tp;have HE:Hid (x.event 2=⟨2,x.task,x.nth,x.call,x.rep,⟨0,0⟩,az⟩):=Z1 rfl;generalize Q:x.event 2=ev at*;clear h hg hx r l ho Q k
 go_in
 go_upto_region 0 with fail
 refine zH (S:=λU=>M w U/\Blk U p 201 (bv wp (V b o x.prog.length q) m x)) a ?_;refine zQ 4 _ ?_ (hy:=λW hW=>by have q3:=tc hW.2;exact zf);refine zQ 8 _ ?_ (hy:=λW hW=>by have q4:=mZ hW.2;exact zf);refine zo 10 λK hK=>?_;go_simp;have j:M w (w.drew.alloc (.cells (⟨0,0,0,.zero,.zero,⟨0,0⟩,az⟩:Vt).arr 79))/\Blk (w.drew.alloc (.cells (⟨0,0,0,.zero,.zero,⟨0,0⟩,az⟩:Vt).arr 79)) p 201 (bv wp (V b o x.prog.length q) m x):=⟨ae a.1 _,a.2.alloc _⟩;have d:=Blk.A8 w.drew 79 (⟨0,0,0,.zero,.zero,⟨0,0⟩,az⟩:Vt).arr rfl;refine zJ hK j ?_;refine zo 11 λK hK=>?_;refine bX ba (.tmp 4) (.tmp 14) rfl w.drew.heap.size 0 zF (⟨2,x.task,x.nth,.zero,.zero,⟨0,0⟩,az⟩:Vt).arr zF d rfl zP (mE _) ?_;intro w2 s t;have u:=And.intro (t.below j.1 (OA _)) (t.B0 j.2 (PP i));refine zJ hK u ?_;rw[show bH (⟨0,0,0,.zero,.zero,⟨0,0⟩,az⟩:Vt).arr 0 (⟨2,x.task,x.nth,.zero,.zero,⟨0,0⟩,az⟩:Vt).arr.toList=(⟨2,x.task,x.nth,.zero,.zero,⟨0,0⟩,az⟩:Vt).arr by kernel_rfl]at s;have F:=Z2 u s;clear a j u d t s;go_upto_region 2 with fail
 have a:=And.intro F.o.1.1.drew F.o.1.2.drew;refine zH (S:=λU=>M w U/\Blk U p 201 (bv wp (V b o x.prog.length q) m x)) a ?_;refine zQ 3 _ ?_ (hy:=λW hW=>by have q1:=wj hW.2;exact zf);refine zQ 7 _ ?_ (hy:=λW hW=>by have q4:=mZ hW.2;exact zf);refine zQ 9 _ ?_ (hy:=λW hW=>by refine bE gV (.tmp 25) ?_ (Y b (o+x.nth*11)) ?_ x.call.arr rfl ?_;exact rfl;exact rfl;exact HC.o _ hW.1);refine zo 11 λK hK=>?_;refine bX gV (.tmp 27) (.tmp 26) rfl w.drew.heap.size 3 zF x.call.arr zF F.o.2.drew rfl (by rw[kF];decide) (mF _) ?_;intro w3 v y;have z:=And.intro (y.below a.1 (OA _)) (y.B0 a.2 (PP i));refine zJ hK z ?_;rw[show bH (⟨2,x.task,x.nth,.zero,.zero,⟨0,0⟩,az⟩:Vt).arr 3 x.call.arr.toList=(⟨2,x.task,x.nth,x.call,.zero,⟨0,0⟩,az⟩:Vt).arr by kernel_rfl]at v;have f:=Z2 z v;clear a z y v F;have G:=Gp f.o.1.2;have H:=f.o.2
 go_wp2_with (first|refine aG aA rfl (.tmp 32) rfl (Y p 7) zF x.rep.arr rfl G ?_|(refine dW aA rfl (.tmp 34) (.tmp 33) rfl w.drew.heap.size 14 zF x.rep.arr zF H rfl (by rw[kF];decide) (dy _) ?_;intro R d A))
 have L:=And.intro (A.below f.o.1.1 (OA _)) (A.B0 f.o.1.2 (PP i));rw[show bH (⟨2,x.task,x.nth,x.call,.zero,⟨0,0⟩,az⟩:Vt).arr 14 x.rep.arr.toList=(⟨2,x.task,x.nth,x.call,x.rep,⟨0,0⟩,az⟩:Vt).arr by kernel_rfl]at d;have B:=Z2 L d;clear L A d G H f;go_upto_region 5 with fail
 have N:=B.o.1.1.drew;have a:Blk R.drew p 201 (bv wp (V b o x.prog.length q) m x)/\Blk R.drew w.drew.heap.size 79 ev.arr:=⟨B.o.1.2.drew,by rw[HE.o];exact B.o.2.drew⟩;refine zH (S:=λU=>Blk U p 201 (bv wp (V b o x.prog.length q) m x)/\Blk U w.drew.heap.size 79 ev.arr) a ?_;refine(zp 3 ?_);refine zq 4 _ ?_ (hy:=λW hW=>by refine bE ba (.tmp 4) ?_ (Y w.drew.heap.size 0) ?_ ev.arr rfl ?_;exact rfl;exact rfl;exact bQ hW.2);refine zo 5 λK hK=>?_;go_simp;refine zm (HN.o _ N) λw5 D=>?_;have X:=And.intro (D.E8 a.1 i P.o) (D.B0 a.2 (OA _));refine zJ hK X ?_;go_wp2;refine zt ?_;exact⟨rfl,bj.box rfl N D⟩
def Gt(hc:c.ok)(T:Nat->Tg)(wp p:Nat)(g:Gs)(x:Ci)(hg:GAt w c T wp g)(h:cY w c T wp p x)(hx:x.ok c)(ho:x.over=false)(hn:g.ev.length<=70000):C 265 #[Z p 0,I 3] w λe w'=>e=.returned (.tuple #[])/\bj w w' c T wp (g.note (x.event 3)):=by
 obtain⟨G,_,F⟩:=hx.call ho;have i:(x.event 3).ok:=⟨iN (n:=3) zO,iN (n:=x.task) (by have:=hx.task;omega),iN (n:=(x.nth:Int)) (by have:=hx.nth;have:=hx.len;omega),Cl.I2,hx.rep,DB,nT⟩;have P:=Z1 (λU (Q:M w U)=>lB U c (ext T w.heap.size .free) wp g (hg.free.up Q) (x.event 3) i hn);obtain⟨X,v,h⟩:=h;obtain⟨b,o,y,rfl,j⟩:=h.K4 G;have HC:=Z1 j;have d:=And.intro ((zi w)) h.B0.drew;have k:=h.B0.lt;have H:=Z1 h.tp;have R:Hid (x.event 3=⟨3,x.task,x.nth,.zero,x.rep,⟨0,0⟩,az⟩):=Z1 rfl;generalize L:x.event 3=ev at*;clear h hg hx j i ho L F
 go_in
 go_upto_region 0 with fail
 refine zH (S:=λU=>M w U/\Blk U p 201 (bv wp (V b o x.prog.length y) v x)) d ?_;refine zQ 4 _ ?_ (hy:=λW hW=>by have q3:=tc hW.2;exact zf);refine zQ 8 _ ?_ (hy:=λW hW=>by have q4:=mZ hW.2;exact zf);refine zo 10 λK hK=>?_;go_simp;have f:M w (w.drew.alloc (.cells (⟨0,0,0,.zero,.zero,⟨0,0⟩,az⟩:Vt).arr 79))/\Blk (w.drew.alloc (.cells (⟨0,0,0,.zero,.zero,⟨0,0⟩,az⟩:Vt).arr 79)) p 201 (bv wp (V b o x.prog.length y) v x):=⟨ae d.1 _,d.2.alloc _⟩;have a:=Blk.A8 w.drew 79 (⟨0,0,0,.zero,.zero,⟨0,0⟩,az⟩:Vt).arr rfl;refine zJ hK f ?_;refine zo 11 λK hK=>?_;refine bX ba (.tmp 4) (.tmp 14) rfl w.drew.heap.size 0 zF (⟨3,x.task,x.nth,.zero,.zero,⟨0,0⟩,az⟩:Vt).arr zF a rfl zP (mE _) ?_;intro w2 l m;have q:=And.intro (m.below f.1 (OA _)) (m.B0 f.2 (PP k));refine zJ hK q ?_;rw[show bH (⟨0,0,0,.zero,.zero,⟨0,0⟩,az⟩:Vt).arr 0 (⟨3,x.task,x.nth,.zero,.zero,⟨0,0⟩,az⟩:Vt).arr.toList=(⟨3,x.task,x.nth,.zero,.zero,⟨0,0⟩,az⟩:Vt).arr by kernel_rfl]at l;have r:=Z2 q l;clear d f q a m l;have z:=Gp r.o.1.2;have A:=r.o.2
 go_wp2_with (first|refine aG aA rfl (.tmp 32) rfl (Y p 7) zF x.rep.arr rfl z ?_|(refine dW aA rfl (.tmp 34) (.tmp 33) rfl w.drew.heap.size 14 zF x.rep.arr zF A rfl (by rw[kF];decide) (dy _) ?_;intro N a s))
 have B:=And.intro (s.below r.o.1.1 (OA _)) (s.B0 r.o.1.2 (PP k));rw[show bH (⟨3,x.task,x.nth,.zero,.zero,⟨0,0⟩,az⟩:Vt).arr 14 x.rep.arr.toList=(⟨3,x.task,x.nth,.zero,x.rep,⟨0,0⟩,az⟩:Vt).arr by kernel_rfl]at a;have t:=Z2 B a;clear B s a z A r;go_upto_region 5 with fail
 have D:=t.o.1.1.drew;have d:Blk N.drew p 201 (bv wp (V b o x.prog.length y) v x)/\Blk N.drew w.drew.heap.size 79 ev.arr:=⟨t.o.1.2.drew,by rw[R.o];exact t.o.2.drew⟩;refine zH (S:=λU=>Blk U p 201 (bv wp (V b o x.prog.length y) v x)/\Blk U w.drew.heap.size 79 ev.arr) d ?_;refine(zp 3 ?_);refine zq 4 _ ?_ (hy:=λW hW=>by refine bE ba (.tmp 4) ?_ (Y w.drew.heap.size 0) ?_ ev.arr rfl ?_;exact rfl;exact rfl;exact bQ hW.2);refine zo 5 λK hK=>?_;go_simp;refine zm (P.o _ D) λw5 u=>?_;have O:=And.intro (u.E8 d.1 k H.o) (u.B0 d.2 (OA _));refine zJ hK O ?_;go_wp2;refine zt ?_;exact⟨rfl,bj.box rfl D u⟩
def MG:aq (aH x):=by
 unfold aH
 repeat' split
 all_goals first|exact⟨zP,zP⟩|skip
 all_goals first|unfold bG|unfold idE
 all_goals repeat' split
 all_goals exact⟨zP,zP⟩
def MH{n:Int}(h:aq n):(Rp.of n).ok:=⟨h,aD,aD,⟨aD,aD,aD,aD,aD⟩,⟨aD,aD,aD,aD,aD⟩⟩
def Ci.ok.U4{c:Cg}{x:Ci}(h:x.ok c){r:Rp}(hr:r.ok):Ci.ok c {x with rep:=r}:=⟨h.prog,h.len,h.task,h.nth,h.at_,h.B8,hr⟩
def BH(vp vo:Value)(x:Ci)(r:Rp):bH (bv wp vp vo x) 7 r.arr.toList=bv wp vp vo {x with rep:=r}:=zR
def kX(k:Int)(hk:k=1\/k=2\/k=3)(w:World)(c:Cg)(hc:c.ok)(T:Nat->Tg)(wp p:Nat)(g:Gs)(x:Ci)(hg:GAt w c T wp g)(h:cY w c T wp p x)(hx:x.ok c)(ho:x.over=false)(hn:g.ev.length<=70000):C 265 #[Z p 0,I k] w λe w'=>e=.returned (.tuple #[])/\bj w w' c T wp (g.note (x.event k)):=by
 rcases hk with rfl|rfl|rfl
 ·exact Gq w c hc T wp p g x hg h hx ho hn
 ·exact Gr w c hc T wp p g x hg h hx ho hn
 ·exact Gt w c hc T wp p g x hg h hx ho hn
def AK(hc:c.ok)(T:Nat->Tg)(wp p:Nat)(g:Gs)(x:Ci)(vp vo:Value)(hg:GAt w c T wp g)(h:cI w c T wp p x vp vo)(hx:x.ok c)(ho:x.over=false)(hn:g.ev.length<=69000)(y:Ci)(hy:y={x with rep:=.of (aH x.call)}):
  C 262 #[Z p 0] w λe w'=>e=.returned (.tuple #[])/\bc (λW T=>cI W c T wp p y vp vo) w w' c T wp (if aH x.call=0 then g.note (y.event 1)else(g.note (y.event 1)).note (y.event 2)) p:=by
 obtain⟨ah,_,m⟩:=hx.call ho;have d:y.ok c:=by rw[hy];exact hx.U4 (MH (MG _))
 have n:y.over=false:=by rw[hy];exact ho
 have L:=Z1 (λU f (R:GAt U c f wp g) (X:cY U c f wp p y)=>kX 1 (.inl rfl) U c hc f wp p g y R X d n zO);have ai:=Z1 (λU f (R:GAt U c f wp (g.note (y.event 1))) (X:cY U c f wp p y)=>kX 2 (.inr (.inl rfl)) U c hc f wp p _ y R X d n (by show(g.ev++[_]).length<=_;rw[OS];simp;omega));have aj:=Z1 (λW=>oy x.call m.L7 W);obtain⟨b,o,A,rfl,q⟩:=h.K4 ah;have HC:=Z1 q;have HG:=Z2 hg h;have B:=And.intro ((zi w)) h.B0.drew;have al:=h.B0.lt;have D:=Z1 hy;generalize az:aH x.call=F at*;clear h hg hx q ho m d n hn hy
 go_in
 go_upto_region 0 with fail
 refine zH (S:=λU=>M w U/\Blk U p 201 (bv wp (V b o x.prog.length A) vo x)) B ?_;refine zQ 3 _ ?_ (hy:=λW hW=>by have q1:=wj hW.2;exact zf);refine zQ 7 _ ?_ (hy:=λW hW=>by have q4:=mZ hW.2;exact zf);refine zq 9 _ ?_ (hy:=λW hW=>by refine bE gV (.tmp 11) ?_ (Y b (o+x.nth*11)) ?_ x.call.arr rfl ?_;exact rfl;exact rfl;exact HC.o _ hW.1);refine zo 10 λK hK=>?_;go_simp;have i:M w (w.drew.alloc (.cells Cl.zero.arr 73))/\Blk (w.drew.alloc (.cells Cl.zero.arr 73)) p 201 (bv wp (V b o x.prog.length A) vo x):=⟨ae B.1 _,B.2.alloc _⟩;have a:=Blk.A8 w.drew 73 Cl.zero.arr rfl;refine zJ hK i ?_;refine zo 11 λK hK=>?_;refine bX gV (.tmp 2) (.tmp 12) rfl w.drew.heap.size 0 zF x.call.arr zF a rfl zP (mF _) ?_;intro w2 j r;have s:=And.intro (r.below i.1 (OA _)) (r.B0 i.2 (PP al));refine zJ hK s ?_;rw[show bH Cl.zero.arr 0 x.call.arr.toList=x.call.arr by kernel_rfl]at j;have HB:=Z2 s j;have an:=bQ j;clear B i s a r j
 go_wp2_with (refine aG gV rfl (.tmp 2) rfl (Y w.drew.heap.size 0) zF x.call.arr rfl an ?_)
 refine zm (aj.o _) λw3 t=>?_;have k:=af HB.o.1.1 t;have N:=HB.o.1.2.later t
 go_wp2_with (refine dW aA rfl (.tmp 18) (.tmp 16) rfl p 7 zF (Rp.of F).arr zF N rfl (by show 7+13<=20;decide) (dy _) ?_;intro w4 a l)
 have a:Blk w4 p 201 (bv wp (V b o x.prog.length A) vo y):=by
  rw[D.o];rw[BH]at a;exact a
 have u:cI w3 c (ext T w.heap.size .free) wp p x (V b o x.prog.length A) vo:=(HG.o.2.more λb hb=>br T _ hb).up k;have h9:=u.own l a (by rw[D.o]) (by rw[D.o];exact u.ops) u.G4;have a1:=aW.refl (ext T w.heap.size .free) w.heap.size;have a2:=(HG.o.1.free.up k).only u.tp l;have a4:ag (λb=>eN (ext T w.heap.size .free b)\/b=p) w w4:=(ag.B5 k).trans (l.B7.C3 λb e=>.inr e);refine zm (L.o _ _ a2 ⟨_,_,h9⟩) λw5 O=>?_;have v:=Z1 (bc.trans a1 a4 (h9.F4 O));clear a1 a2 a4 O h9 u a l N k t L;obtain⟨T5,b1,b2,G,b4⟩:=v.o;have q7:=Ln G.B0;rw[show y.rep.err=F by rw[D.o];rfl]at q7;by_cases H:F=0
 ·subst H;clear b1 b2 b4 G;go_wp2_with fail;refine zt ?_;exact⟨rfl,by first|exact bc.box rfl (Oy _ w) v.o|(rw[OB rfl];exact bc.box rfl (Oy _ w) v.o)⟩
 ·have au:=Z1 H;have a0:(F !=0)=true:=by simpa using H
  have z:=Z4 b1 b2 G b4;clear b1 b2 b4 G H;go_wp2_with fail;refine zm (ai.o _ _ z.o.2.1 ⟨_,_,z.o.2.2.1⟩) λw6 P=>?_;have Q:=Z1 (bc.trans z.o.1 z.o.2.2.2 (z.o.2.2.1.F4 P));clear P;go_wp2;refine zt ?_;exact⟨rfl,by first|exact bc.box rfl (Oy _ w) Q.o|(rw[Oz au.o];exact bc.box rfl (Oy _ w) Q.o)⟩
def NA(wp:Nat)(vp vo:Value)(x:Ci)(a:Int):Array Value:=#[Z wp 0,vp,vo,I x.task,I (x.nth:Int),I a,I x.B8,I x.rep.err,I x.rep.I9,I x.rep.handle,I x.rep.stat.count,I x.rep.stat.sum,I x.rep.stat.least,I x.rep.stat.F5,I x.rep.stat.F3,I x.rep.E0.tick,I x.rep.E0.load,I x.rep.E0.want,I x.rep.E0.reps,I x.rep.E0.I8]
structure NB(w:World)(c:Cg)(T:Nat->Tg)(wp p:Nat)(x:Ci)(a:Int)(vp vo:Value):Prop where
 B0:Blk w p 201 (NA wp vp vo x a)
 tp:T p=.free
 prog:w.ownsRow 0 73 11 vp x.prog.length (cls x.prog)
 I5:∀b,vp.ownBlock=some b->T b=.free
 ops:(vo=.slice none 0 0/\a= -1)\/w.ownsRow 0 250 2 vo (aF c x.call).length (d7 (aF c x.call))
 G4:∀b,vo.ownBlock=some b->T b=.free
def nA(w w':World)(c:Cg)(T:Nat->Tg)(wp:Nat)(g':Gs)(p:Nat)(x':Ci)(a:Int):Prop:=∃T' vp vo,aW T T' w.heap.size/\GAt w' c T' wp g'/\NB w' c T' wp p x' a vp vo/\ag (λb=>eN (T b)\/b=p) w w'
section
variable {w w' w'' W:World} {c:Cg} {T T':Nat→Tg} {wp p:Nat} {g g':Gs} {x x':Ci} {vp vo:Value} {a:Int}
def nA.trans(h1:aW T T' w.heap.size)(hK:ag (λb=>eN (T b)\/b=p) w w')(h2:nA w' w'' c T' wp g' p x' a):nA w w'' c T wp g' p x' a:=by
 obtain⟨f,g,h,i,j,l,m⟩:=h2;refine⟨f,g,h,h1.trans i hK.size,j,l,bL hK m λb n e=>?_⟩
 rcases e with e|e
 ·rcases h1 b n with d|⟨k,d,o⟩
  ·rw[d]at e;exact .inl e
  ·rw[o]at e;exact e.elim
 ·exact .inr e
def nA.own(hg:GAt w c T wp g)(h:cI w c T wp p x vp vo)(hO:aI p w w')(hb:Blk w' p 201 (NA wp vp vo' x' a))(hp:x'.prog=x.prog)
  (ho:(vo'=.slice none 0 0/\a= -1)\/w.ownsRow 0 250 2 vo' (aF c x'.call).length (d7 (aF c x'.call)))(ht:∀b,vo'.ownBlock=some b->T b=.free):nA w w' c T wp g p x' a:=by
 have hK:=hO.B7;refine⟨T,vp,vo',aW.refl _ _,hg.only h.tp hO,⟨hb,h.tp,?_,h.I5,ho.imp id λd=>hK.C8 d λb e f=>?_,ht⟩,hK.C3 λb e=>.inr e⟩
 ·rw[hp];exact hK.C8 h.prog λb e f=>aB h.prog h.B0 zP (f▸e)
 ·exact aB d h.B0 zP (f▸e)
end
def Gu(w:World)(c:Cg)(hc:c.ok)(T:Nat->Tg)(wp p:Nat)(g:Gs)(x:Ci)(hg:GAt w c T wp g)(h:cY w c T wp p x)(hx:x.ok c)(ho:x.over=false)(hn:g.ev.length<=69000):
  C 270 #[Z p 0] w λe w'=>e=.returned (.tuple #[])/\nA w w' c T wp (g.note (x.event 3)) p {x with nth:=x.nth+1} (-1):=by
 have m:=Z1 (kX 3 (.inr (.inr rfl)) w c hc T wp p g x hg h hx ho zO);have n:=Z1 h;have t:=OJ hx.nth hx.len;have u:IntKind.i64.wrap ((x.nth:Int)+1)=(x.nth:Int)+1:=by rw[OX];omega
 clear h hg hx ho hn
 go_in
 go_wp2_with fail;refine zm m.o λi f=>?_;obtain⟨v,j,k,q,l⟩:=bp.F4 n.o f;obtain⟨y,z,a⟩:=q;have d:=Z4 j k a l;have A:=mZ a.B0;have B:=wm a.B0;have D:=s9 a.B0;have F:=a.B0.frozen 4;have G:=a.B0.frozen 5;have H:=a.B0.frozen 2;clear f j k a l;go_wp2;refine zt ?_;have r:aI p i (((i.setCell (Y p 4) (I ((x.nth:Int)+1))).setCell (Y p 5) (I (-1))).setCell (Y p 2) (.slice none 0 0)):=((aI.B4 _ _ _ _).trans (aI.B4 _ _ _ _)).trans (aI.B4 _ _ _ _);have s:=((d.o.2.2.1.B0.B4 4 (I ((x.nth:Int)+1))).B4 5 (I (-1))).B4 2 (.slice none 0 0);exact⟨rfl,nA.trans d.o.1 d.o.2.2.2 (nA.own d.o.2.1 d.o.2.2.1 r s rfl (.inl ⟨rfl,rfl⟩) (λb e=>by cases e))⟩
def vG(wp:Nat)(vp vo:Value)(x:Ci)(n:Int):(bv wp vp vo x).setIfInBounds 6 (I n)=bv wp vp vo {x with B8:=n}:=rfl
def vH(w:World)(c:Cg)(hc:c.ok)(T:Nat->Tg)(wp p:Nat)(g:Gs)(x:Ci)(hg:GAt w c T wp g)(h:cY w c T wp p x)(hx:x.ok c)(kd:Int)(n:Nat)(hn:n<c.st+2)(hf:(g.lock n).line.length<=900):
  C 263 #[Z p 0,.agg #[I kd,I n]] w λe w'=>e=.returned (.tuple #[])/\bp w w' c T wp (g.ask n x.task (decide (kd=3))).1 p {x with B8:=if(g.ask n x.task (decide (kd=3))).2=true then x.B8 else n}:=by
 have H:aq x.task:=by have:=hx.task;constructor<;>omega
 have i:=zh w (.cells #[I kd,I (n:Int)] 250);have q:=Blk.A8 w 250 #[I kd,I (n:Int)] rfl;have L:=Z1 (λU (N:M w U)=>yf U c hc (ext T w.heap.size .free) wp g (hg.free.up N) n hn x.task H (kd==3) hf);obtain⟨v,y,h⟩:=h;have O:=Z1 h;have z:=h.B0.lt;have A:=Z1 h.tp;have s:=h.B0.alloc (.cells #[I kd,I (n:Int)] 250);have t:decide (kd=3)=(kd==3):=by by_cases e:kd=3<;>simp[e]
 rw[t];generalize P:(g.ask n x.task (kd==3)).2=r at*;generalize (g.ask n x.task (kd==3)).1=g1 at*;clear h hg hx t P hf
 go_in
 go_upto_region 1 with fail
 generalize Q:w.alloc (.cells #[I kd,I (n:Int)] 250)=V at*;have HB:=Z1 i;have d:=i.drew;have k:=And.intro s.drew q.drew;clear Q i q s;refine za (S:=λU=>Blk U p 201 (bv wp v y x)/\Blk U w.heap.size 250 #[I kd,I (n:Int)]) k ?_;refine zo 13 λK hK=>?_;go_simp
 (refine(L.o _ d).mono ?_)
 rintro e5 w5 ⟨⟨er,rfl⟩,f⟩;have j:=And.intro (f.E8 k.1 z A.o) (f.B0 k.2 (OA _));refine zk hK j ?_;have B:cI V.drew c (ext T w.heap.size .free) wp p x v y:=(O.o.more λb l=>br T _ l).up d;have u:=Z1 (bp.F4 ⟨v,y,B⟩ f);obtain⟨T5,D,F,⟨R,X,m⟩,G⟩:=u.o;have a:=Z4 D F m G;have q6:=td m.B0;have f6:=m.B0.frozen 6;have o1:=j.2.cell 1;clear f D F m G B k j
 cases r with
 |true=>
  go_wp2_with fail;refine zt ?_;exact⟨rfl,bp.box rfl d u.o⟩
 |false=>
  go_wp2;refine zt ?_;have l:=a.o.2.2.1.B0.B4 6 (I (n:Int));rw[vG]at l;exact⟨rfl,bp.box rfl d (bp.trans a.o.1 a.o.2.2.2 (bp.own a.o.2.1 a.o.2.2.1 (aI.B4 _ _ _ _) l rfl a.o.2.2.1.ops a.o.2.2.1.G4))⟩
def be(c:Cg)(x:Ci)(a:Nat):Int×Int:=(aF c x.call).getD a (0,0)
def skF(c:Cg)(x:Ci):Nat:=if x.rep.err≠0/\(be c x (x.at_+1)).2=lineN c then x.at_+3 else x.at_
def wo{w:World}{l:List (Int×Int)}(h:an w B 2 A n (d7 l))(hn:n=l.length)(hk:k<l.length):
  ∃b o,A=some (Y b o)/\w.cell? (Y b (o+k*2))=some (I (l.getD k (0,0)).1)/\w.cell? (Y b (o+k*2+1))=some (I (l.getD k (0,0)).2):=by
 obtain⟨b,o,rfl,c,a⟩:=h.elem Dx zP hn hk;have e:l.getD k (0,0)=l[k]:=by rw[OP,OL hk];rfl
 rw[e];exact⟨b,o,rfl,a 0 _ rfl,a 1 _ rfl⟩
def NC(vp vo:Value)(x:Ci)(n:Nat):(bv wp vp vo x).setIfInBounds 5 (I (n:Int))=bv wp vp vo {x with at_:=n}:=rfl
def cI.R9{w:World}{c:Cg}{wp:Nat}{x:Ci}(h:cI w c T wp p x vp vo)(h0:x.at_≠0):∃A k,vo=.slice A (aF c x.call).length k/\(aF c x.call).length<=k/\an w w.heap.size 2 A (aF c x.call).length (d7 (aF c x.call)):=by
 rcases h.ops with a|a
 ·exact absurd a.2 h0
 ·obtain⟨A,k,rfl,b,d⟩:=ak a;exact⟨A,k,rfl,b,an.C4 a⟩
structure SkI(w wr:World)(c:Cg)(T:Nat->Tg)(wp p:Nat)(g:Gs)(x:Ci)(vp vo:Value)(a:Nat):Prop where
 a_:a=x.at_\/(a=x.at_+3/\x.rep.err≠0/\(be c x (x.at_+1)).2=lineN c)
 I1:cI wr c T wp p {x with at_:=a} vp vo
 g_:GAt wr c T wp g
 B7:ag (λb=>b=p) w wr
def DC(hc:c.ok)(T:Nat->Tg)(wp p:Nat)(g:Gs)(x:Ci)(hg:GAt w c T wp g)(h:cY w c T wp p x)(h0:x.at_≠0)(hL:(aF c x.call).length<=1000)(h1:x.at_+1<(aF c x.call).length)(h2:(be c x (x.at_+1)).2=lineN c->x.at_+4<(aF c x.call).length/\(be c x (x.at_+4)).2≠lineN c):
  Calls prog 267 #[.pointer (some ⟨p,0,none⟩)] w λe w'=>e=.returned (.tuple #[])/\bp w w' c T wp g p {x with at_:=skF c x}:=by
 obtain⟨l,vo,h⟩:=h;obtain⟨A,k,rfl,a0,hr⟩:=h.R9 h0;have ac:Hid (SkI w w c T wp p g x l (.slice A (aF c x.call).length k) x.at_):=Z1 ⟨.inl rfl,h,hg,ag.refl _ _⟩;have HO:Hid (∀wr a,SkI w wr c T wp p g x l (.slice A (aF c x.call).length k) a->a+1<(aF c x.call).length/\∃b o,A=some ⟨b,o,none⟩/\wr.cell? ⟨b,o+(a+1)*2+1,none⟩=some (.int .i64 (be c x (a+1)).2)):=Z1 λwr a f=>by
  have v:a+1<(aF c x.call).length:=by
   rcases f.a_ with e|⟨e,_,m⟩
   ·omega
   ·have:=h2 m;omega
  refine⟨v,?_⟩
  rcases f.I1.ops with n|n
  ·have:(aF c x.call).length=0:=by injection n.1
   omega
  ·obtain⟨b,o,P,_,m⟩:=wo (k:=a+1) (an.C4 n) rfl v;exact⟨b,o,P,m⟩
 have Q:Hid (∀wr a,SkI w wr c T wp p g x l (.slice A (aF c x.call).length k) a->(x.rep.err=0\/(be c x (a+1)).2≠lineN c)->bp w wr c T wp g p {x with at_:=skF c x}):=Z1 λwr a f t=>by
  have z:a=skF c x:=by
   unfold skF
   rcases f.a_ with e|⟨e,R,m⟩
   ·subst e;rw[Oz];rintro⟨f1,f2⟩
    rcases t with t|t
    ·exact f1 t
    ·exact t f2
   ·rw[OB ⟨R,m⟩,e]
  subst z;exact⟨T,aW.refl _ _,f.g_,⟨_,_,f.I1⟩,f.B7.C3 λb e=>.inr e⟩
 have HX:Hid (∀wr a,SkI w wr c T wp p g x l (.slice A (aF c x.call).length k) a->x.rep.err≠0->(be c x (a+1)).2=lineN c->a=x.at_):=Z1 λwr a f t i=>by
  rcases f.a_ with e|⟨e,_,m⟩
  ·exact e
  ·subst e;exact absurd i (h2 m).2
 have a1:x.at_<=1000:=by omega
 generalize ah:(aF c x.call).length=L at*;clear hg h h1 h2 hr ah
 go_in
 go_wp2;refine wp_scope_straight ?_;go_wp2;apply wp_label;go_wp2;go_loopw [] (λwr=>∃a:Nat,Hid (SkI w wr c T wp p g x l (.slice A L k) a)) (λwr=>x.at_+10-(intOf ((wr.cell? ⟨p,5,none⟩).getD undef)).toNat)
 case atStart=>exact⟨_,ac.o⟩
 case round=>
  obtain⟨a,d⟩:=hrel;have B:=d.o.I1.B0;have X:=Ln B;rw[show({x with at_:=a}:Ci).rep.err=x.rep.err from rfl]at X;by_cases u:x.rep.err=0
  ·have HE:=Z1 (Q.o wr a d.o (.inl u));rw[u]at X;clear u B HO Q HX;go_wp2;rw[Exit.noGoto_normal];refine Pf (Pb (by kernel_rfl) _ _ _) rfl ?_;exact⟨rfl,HE.o⟩
  ·have a2:(x.rep.err !=0)=true:=by simpa using u
   obtain⟨v,b,o,rfl,q⟩:=HO.o wr a d.o;have HZ:=Z1 u;clear u;have hw:IntKind.i64.wrap ((a:Int)+1)=((a+1:Nat):Int):=by rw[OX];have:=d.o.a_;omega
   have aj:(0:Int)<=(a:Int)+1:=by omega
   have ak:(a:Int)+1<(L:Int):=by omega
   go_upto_region 1 with fail
   have hS:=And.intro B.drew q;refine ay (S:=λU=>Blk U p 201 (bv wp l (.slice (some ⟨b,o,none⟩) L k) {x with at_:=a})/\U.cell? ⟨b,o+(a+1)*2+1,none⟩=some (.int .i64 (be c x (a+1)).2)) (by kernel_rfl) hS ?_;simp only[zD,zE,Nat.reduceAdd,zG];refine zp 0 ?_;refine zp 1 ?_;refine zp 2 ?_;refine zq 3 _ ?_ (hy:=λW hW=>by have q2:=s9 hW.1;exact zf);refine zp 4 ?_;refine zp 5 ?_;refine zp 6 ?_;refine zq 7 _ ?_ (hy:=λW hW=>by have q5:=wm hW.1;exact zf);refine zp 8 ?_;refine zp 9 ?_;refine zp 10 ?_;refine zq 11 _ ?_ (hy:=λW hW=>by have q9:=hW.2;exact zf);refine zd ?_;have D:=(Oy wr.heap.size wr).drew;have F:=Z1 (λU (hU:Below wr.heap.size wr U)=>kW U c T wp g (d.o.g_.up hU));have am:=Z1 (λU=>ju c hc U);have q0:=iM hS.1;clear q B aj ak;go_wp2_with fail;refine zm (F.o _ D) λw5 G=>?_;have H:=Z1 (af D G);clear G;unfold Cg.val;go_wp2_with fail;refine zm (am.o _) λw6 N=>?_;have hB:=af H.o N;have r:=Z1 hB;have y:=d.o.I1.up hB;have q5:=wm y.B0;have f5:=y.B0.frozen 5;clear hB y N H F q0 X;by_cases i:(be c x (a+1)).2=lineN c
   ·have ap:((be c x (a+1)).2==(c.st:Int)+1)=true:=by simpa[lineN]using i
    have s:=Z1 i;have a3:IntKind.i64.wrap ((a:Int)+3)=((a+3:Nat):Int):=by rw[OX];have:=d.o.a_;omega
    clear i;go_wp2_with fail;have j:=d.o.I1.up r.o;have O:=j.B0.B4 5 (.int .i64 ((a:Int)+3));have hO:=aI.B4 p w6 5 (.int .i64 ((a:Int)+3));have z:=HX.o wr a d.o HZ.o s.o;have P:(w6.setCell ⟨p,5,none⟩ (.int .i64 ((a:Int)+3))).cell? ⟨p,5,none⟩=some (.int .i64 ((a:Int)+3)):=O.cell 5;have R:wr.cell? ⟨p,5,none⟩=some (.int .i64 (a:Int)):=wm d.o.I1.B0;refine⟨⟨a+3,Z1 ⟨.inr ⟨by rw[z],HZ.o,by rw[<-z];exact s.o⟩,j.own hO (NC wp l (.slice (some ⟨b,o,none⟩) L k) {x with at_:=a} (a+3)▸O) rfl (.inr ?_) j.G4,(d.o.g_.up r.o).only j.tp hO,((d.o.B7.trans (ag.B5 r.o)).trans hO.B7)⟩⟩,?_⟩
    ·rcases j.ops with n|n
     ·have:(some ⟨b,o,none⟩:Option Addr)=none:=by injection n.1
      cases this
     ·exact n
    ·rw[P,R];simp[intOf];omega
   ·have ap:((be c x (a+1)).2==(c.st:Int)+1)=false:=by simpa[lineN]using i
    have s:=Z1 i;clear i;go_wp2_with fail;rw[Exit.noGoto_normal];refine Pf (Pb (by kernel_rfl) _ _ _) rfl ?_;exact⟨rfl,(Q.o wr a d.o (.inr s.o)).later r.o⟩
def Of:cU prog 250 2:=⟨zR,zR,zR⟩
def bp.wrap{w:World}{c:Cg}{wp:Nat}{x':Ci}(hK:ag (λb=>b=p) w W)(h:bp W w' c (ext T w.heap.size .free) wp g' p x'):bp w w' c T wp g' p x':=by
 obtain⟨f,g,i,j,k⟩:=h;refine⟨f,λb a=>?_,i,j,bL (hK.C3 λb e=>.inr e) k λb a e=>?_⟩
 ·have l:=g b (OV a hK.size)
  rwa [br T _ a]at l
 ·rcases e with e|e
  ·have d:=e;rw[br T _ a]at d;exact .inl d
  ·exact .inr e
def nA.fin{w:World}{c:Cg}{wp:Nat}{g:Gs}{x:Ci}{a:Int}(hg:GAt w c T wp g)(h:NB w c T wp p x a vp vo)(hO:aI p w w')(hb:Blk w' p 201 (bv wp vp vo {x with at_:=n}))(hn:a= -1->n=0):bp w w' c T wp g p {x with at_:=n}:=by
 have hK:=hO.B7;refine⟨T,aW.refl _ _,hg.only h.tp hO,⟨vp,vo,hb,h.tp,hK.C8 h.prog λb e f=>aB h.prog h.B0 zP (f▸e),h.I5,?_,h.G4⟩,hK.C3 λb e=>.inr e⟩
 rcases h.ops with d|d
 ·exact .inl ⟨d.1,hn d.2⟩
 ·exact .inr (hK.C8 d λb e f=>aB d h.B0 zP (f▸e))
def MI(x:Ci)(h1:x.at_+1<(aF c x.call).length)(h2:(be c x (x.at_+1)).2=lineN c->x.at_+4<(aF c x.call).length/\(be c x (x.at_+4)).2≠lineN c):jP c (aF c x.call) (aF c x.call).length x.at_=if(be c x (x.at_+1)).2=lineN c then x.at_+3 else x.at_:=by
 obtain⟨f,a⟩:∃f,(aF c x.call).length=f+1:=⟨(aF c x.call).length - 1,zO⟩;rw[a];unfold jP;by_cases e:(be c x (x.at_+1)).2=lineN c
 ·rw[OB e];have b:((aF c x.call).getD (x.at_+1) (0,0)).2=lineN c:=e;rw[OB b]
  cases f with
  |zero=>omega
  |succ f=>
   unfold jP;have d:¬((aF c x.call).getD (x.at_+3+1) (0,0)).2=lineN c:=(h2 e).2;rw[Oz d]
 ·rw[Oz e];exact Oz e
structure StI(w W:World)(c:Cg)(T:Nat->Tg)(wp p:Nat)(g:Gs)(x:Ci)(vp vo:Value)(b2 b3:Nat):Prop where
 I1:cI W c (ext T w.heap.size .free) wp p {x with B8:= -1} vp vo
 g_:GAt W c (ext T w.heap.size .free) wp g
 B7:ag (λb=>b=p) w W
 call:Blk W b2 73 x.call.arr
 op:Blk W b3 250 #[I (be c x x.at_).1,I (be c x x.at_).2]
 n2:w.heap.size<=b2
 n3:w.heap.size<=b3
 pl:p<w.heap.size
 tp:T p=.free
structure ND(w U:World)(c:Cg)(T:Nat->Tg)(wp p:Nat)(g:Gs)(x:Ci)(b2:Nat)(vp:Value)(L:Nat):Prop where
 ex:∃bo oo k,cI U c (ext T w.heap.size .free) wp p x vp (V bo oo L k)/\U.ownsRow 0 250 2 (V bo oo L k) L (d7 (aF c x.call))
 g_:GAt U c (ext T w.heap.size .free) wp g
 B7:ag (λb=>b=p) w U
 call:Blk U b2 73 x.call.arr
structure Lo(c:Cg)(g:Gs)(x:Ci):Prop where
 kind:1<=(be c x x.at_).1/\(be c x x.at_).1<=7
 zero:(be c x x.at_).1≠1->x.at_≠0
 Q6:(be c x x.at_).1=1->g.ev.length<=69000
 ask:(be c x x.at_).1=2\/(be c x x.at_).1=3->∃n:Nat,(be c x x.at_).2=n/\n<c.st+2/\(g.lock n).line.length<=900
 E6:(be c x x.at_).1=4->g.E5/\(g.E6 c x.call).2.ok/\(g.E6 c x.call).1.ev.length<=70000
 drop:(be c x x.at_).1=5->∃n:Nat,(be c x x.at_).2=n/\n<c.st+2/\g.held n x.task≠0/\(g.lock n).line.length<=900/\x.at_+1<(aF c x.call).length/\((be c x (x.at_+1)).2=lineN c->x.at_+4<(aF c x.call).length/\(be c x (x.at_+4)).2≠lineN c)
 add:(be c x x.at_).1=6->g.E5/\bd x.call.id=true/\(av x.call.id).ok
 end_:(be c x x.at_).1=7->g.ev.length<=69000
def rQ{w:World}{c:Cg}{wp L bo oo:Nat}{x:Ci}(h:cI w c T wp p x vp (V bo oo L k))(hL:(aF c x.call).length=L):w.ownsRow 0 250 2 (V bo oo L k) L (d7 (aF c x.call)):=by
 rcases h.ops with a|a
 ·have:(some (Y bo oo):Option Addr)=none:=by injection a.1
  cases this
 ·subst hL;exact a
def DD(hc:c.ok)(T:Nat->Tg)(wp p:Nat)(g:Gs)(x:Ci)(hg:GAt w c T wp g)(h:cY w c T wp p x)(hx:x.ok c)(hrd:x.ready g=true)(hL:(aF c x.call).length<=1000)(hy:Lo c g x):Calls prog 259 #[.pointer (some ⟨p,0,none⟩)] w λe w'=>e=.returned (.tuple #[])/\bp w w' c T wp (bT c g x).1 p (bT c g x).2:=by
 have r:x.over=false:=by
  unfold Ci.ready at hrd
  cases h9:x.over with
  |false=>rfl
  |true=>rw[h9]at hrd;cases hrd
 obtain⟨e8,_,cd⟩:=hx.call r;have HR:=Z1 (qU w c hc T wp p g x hg h hx);rw[hrd]at HR;obtain⟨vp,vo,h⟩:=h;obtain⟨b,o,B,rfl,cv⟩:=h.K4 e8;have HC:=Z1 cv;have HY:=Z1 hy;have cw:Hid (∀(U:World) (f i k:Nat),(U.ownsRow 0 250 2 (.slice (some ⟨f,i,none⟩) (aF c x.call).length k) (aF c x.call).length (d7 (aF c x.call)))->U.cell? ⟨f,i+x.at_*2,none⟩=some (.int .i64 (be c x x.at_).1)/\U.cell? ⟨f,i+x.at_*2+1,none⟩=some (.int .i64 (be c x x.at_).2)):=Z1 λU f i k hU=>by
  obtain⟨b9,o9,e,e1,e2⟩:=wo (k:=x.at_) (an.C4 hU) rfl hx.at_;injection e with e;injection e with e3 e4;subst e3 e4;exact⟨e1,e2⟩
 have ey:=Z1 (λU=>yk c hc x.call cd U);have gc:=hx.at_;have HG:=Z2 hg h;have cy:=h.B0.lt;have d1:=h.B0;have t:=Z1 hx;have d2:=Z1 cd;have cz:=Z1 r;have ge:(aF c x.call).length<=maxLen:=by unfold maxLen;omega
 generalize Q:(aF c x.call).length=L at*;clear h hg hx cv r cd hrd hy
 go_in
 go_wp2_with fail;refine zm HR.o λw1 bd=>?_;go_upto_region 1 with fail
 have d3:=bd.drew;have F:Below w.heap.size w w1.drew/\Blk w1.drew p 201 (bv wp (.slice (some ⟨b,o,none⟩) x.prog.length B) vo x):=⟨d3,(d1.later bd).drew⟩;refine ay (S:=λU=>Below w.heap.size w U/\Blk U p 201 (bv wp (.slice (some ⟨b,o,none⟩) x.prog.length B) vo x)) (by kernel_rfl) F ?_;simp only[zD,zE,Nat.reduceAdd,zG];refine zp 0 ?_;refine zp 1 ?_;refine zp 2 ?_;refine zq 3 _ ?_ (hy:=λW hW=>by have q1:=wj hW.2;exact zf);refine zp 4 ?_;refine zp 5 ?_;refine zp 6 ?_;refine zq 7 _ ?_ (hy:=λW hW=>by have q4:=mZ hW.2;exact zf);refine zp 8 ?_;refine zq 9 _ ?_ (hy:=λW hW=>by refine bE gV (.tmp 15) ?_ ⟨b,o+x.nth*11,none⟩ ?_ x.call.arr rfl ?_;exact rfl;exact rfl;exact HC.o _ hW.1);refine zo 10 λK hK=>?_;go_simp;have a1:Below w.heap.size w (w1.drew.alloc (.cells Cl.zero.arr 73))/\Blk (w1.drew.alloc (.cells Cl.zero.arr 73)) p 201 (bv wp (.slice (some ⟨b,o,none⟩) x.prog.length B) vo x):=⟨ae F.1 _,F.2.alloc _⟩;have ap:=Blk.A8 w1.drew 73 Cl.zero.arr rfl;refine hK _ _ a1 ?_;clear hK;refine zn ?_;refine zo 11 λK hK=>?_;refine bX gV (.tmp 2) (.tmp 16) rfl w1.drew.heap.size 0 (by rfl) x.call.arr (by rfl) ap rfl (by decide) (mF _) ?_;intro w2 bs c0;have ci:Below w.heap.size w w2/\Blk w2 p 201 (bv wp (.slice (some ⟨b,o,none⟩) x.prog.length B) vo x):=⟨c0.below a1.1 bd.size,c0.B0 a1.2 (PP (OV cy bd.size))⟩;refine hK _ _ ci ?_;clear hK;refine zn ?_;refine zd ?_;rw[show bH Cl.zero.arr 0 x.call.arr.toList=x.call.arr by kernel_rfl]at bs;have c5:w.heap.size<=w1.heap.size:=bd.size;have bs:Blk w2 w1.heap.size 73 x.call.arr:=bs;generalize gf:w1.heap.size=X at*;have HB:=Z3 ci bs c5;have cj:=Z1 c5;have q2:=s9 ci.2;obtain⟨bz,he,c6⟩:∃bz:Bool,(∀w,(binOp .eql 194 vo (.slice none 0 0)).run prog w=.ok (.bool bz) w)/\∀w,(eqGuard .eql 194 (.tmp 20) (.const (.slice none 0 0)) vo (.slice none 0 0)).run prog w=.ok () w:=by
  rcases HG.o.2.ops with r|r
  ·rw[r.1];exact⟨true,λw=>by kernel_rfl,λw=>by kernel_rfl⟩
  ·obtain⟨A,k,rfl,_,_⟩:=ak r
   cases A with
   |none=>exact⟨true,λw=>by kernel_rfl,λw=>by kernel_rfl⟩
   |some a=>exact⟨false,λw=>by kernel_rfl,λw=>by kernel_rfl⟩
 have HE:=Z1 he;clear F a1 ci ap c0 bs d3 bd c5 d1
 go_upto_if 21 with fail
 go_cut [] (λwx=>ND w wx c T wp p g x X (.slice (some ⟨b,o,none⟩) x.prog.length B) L)
 case first=>
  have ab:cI w2 c (ext T w.heap.size .free) wp p x (.slice (some ⟨b,o,none⟩) x.prog.length B) vo:=(HG.o.2.more λb hb=>br T _ hb).up HB.o.1.1
  rcases ab.ops with⟨rfl,d4⟩|cf
  ·have c7:bz=true:=by
    have G:=HE.o w2;have h2:(binOp .eql 194 (.slice none 0 0) (.slice none 0 0)).run prog w2=.ok (.bool true) w2:=by kernel_rfl
    rw[h2]at G;injection G with G;injection G with G;exact G.symm
   subst c7;clear he c6 q2;go_upto_region 3 with fail
   have d5:Below w2.heap.size w2 w2.drew:=(Oy w2.heap.size w2).drew;have ad:=Z3 ab d5 d4;have F:w2.drew.cell? ⟨p,0,none⟩=some (.pointer (some ⟨wp,0,none⟩))/\Blk w2.drew X 73 x.call.arr:=⟨iM ab.B0.drew,HB.o.2.1.drew⟩;clear ab d5 d4;refine ay (S:=λU=>U.cell? ⟨p,0,none⟩=some (.pointer (some ⟨wp,0,none⟩))/\Blk U X 73 x.call.arr) (by kernel_rfl) F ?_;simp only[zD,zE,Nat.reduceAdd,zG];refine zp 0 ?_;refine zp 1 ?_;refine zp 2 ?_;refine zp 3 ?_;refine zp 4 ?_;refine zp 5 ?_;refine zq 7 _ ?_ (hy:=λW hW=>by refine bE gV (.tmp 2) ?_ ⟨X,0,none⟩ ?_ x.call.arr rfl ?_;exact rfl;exact rfl;exact bQ hW.2);refine zo 6 λK hK=>?_;go_simp;refine zm (kW _ c _ wp g ((HG.o.1.free.up HB.o.1.1).up ad.o.2.1)) λs d6=>?_;have aq:=af ad.o.2.1 d6;have d8:s.cell? ⟨p,0,none⟩=some (.pointer (some ⟨wp,0,none⟩))/\Blk s X 73 x.call.arr:=⟨iM (ad.o.1.B0.later aq),HB.o.2.1.later aq⟩;refine hK _ _ d8 ?_;clear hK;refine zn ?_;refine zo 8 λK hK=>?_;go_simp;refine zX (ey.o _) λv4 w4 bf=>?_;rw[Q]at bf;have ap:=bf.below;have a3:=af aq ap;have ar:=ad.o.1.B0.later a3;have c9:w4.cell? ⟨p,0,none⟩=some (.pointer (some ⟨wp,0,none⟩))/\Blk w4 X 73 x.call.arr:=⟨iM ar,HB.o.2.1.later a3⟩;refine hK _ _ c9 ?_;clear hK;obtain⟨A4,k4,rfl,_,_,d9⟩:=bf.form;obtain⟨f,i,rfl,_,_⟩:=wo (k:=0) d9 Q.symm (by omega);have da:=aP bf.own (OK _);have db:=λb e=>(bf.own.lt b e).1;have ea:w.heap.size<=s.heap.size:=OJ HB.o.1.1.size aq.size;have HZ:=Z4 (And.intro ar c9.2) da a3 (show ∀b,(Value.slice (some ⟨f,i,none⟩) L k4).ownBlock=some b->w.heap.size<=b from λb e=>OJ ea (db b e));have q2:=s9 ar;have q5:w4.cell? ⟨p,5,none⟩=some (.int .i64 (x.at_:Int)):=ar.cell 5;have f2:=ar.frozen 2;have f5:=ar.frozen 5;have dc:p≠X:=λe=>by have:=cj.o;omega
   clear da db ea d9 bf aq a3 d6 ap;refine zn ?_;refine zp 9 ?_;refine zp 10 ?_;refine zo 11 λK hK=>?_;go_simp;have bg:(w4.setCell ⟨p,2,none⟩ (.slice (some ⟨f,i,none⟩) L k4)).cell? ⟨p,0,none⟩=some (.pointer (some ⟨wp,0,none⟩))/\Blk (w4.setCell ⟨p,2,none⟩ (.slice (some ⟨f,i,none⟩) L k4)) X 73 x.call.arr:=⟨(ar.B4 2 (.slice (some ⟨f,i,none⟩) L k4)).cell 0,(aI.B4 p w4 2 _).B0 HZ.o.1.2 dc.symm⟩;refine hK _ _ bg ?_;clear hK;refine zn ?_;refine zp 12 ?_;refine zp 13 ?_;refine zo 14 λK hK=>?_;go_simp;have O:((w4.setCell ⟨p,2,none⟩ (.slice (some ⟨f,i,none⟩) L k4)).setCell ⟨p,5,none⟩ (.int .i64 0)).cell? ⟨p,0,none⟩=some (.pointer (some ⟨wp,0,none⟩))/\Blk ((w4.setCell ⟨p,2,none⟩ (.slice (some ⟨f,i,none⟩) L k4)).setCell ⟨p,5,none⟩ (.int .i64 0)) X 73 x.call.arr:=⟨((ar.B4 2 (.slice (some ⟨f,i,none⟩) L k4)).B4 5 (.int .i64 0)).cell 0,(aI.B4 p _ 5 _).B0 bg.2 dc.symm⟩;refine hK _ _ O ?_;clear hK;refine zn ?_;refine zd ?_;clear F d8 c9 bg O q2 q5 f2 f5;go_wp2;go_meet;have fc:({x with at_:=0}:Ci)=x:=by
    have:=ad.o.2.2
    cases x
    simp_all
   have hO:aI p w4 ((w4.setCell ⟨p,2,none⟩ (.slice (some ⟨f,i,none⟩) L k4)).setCell ⟨p,5,none⟩ (.int .i64 0)):=(aI.B4 _ _ _ _).trans (aI.B4 _ _ _ _);have H:=(HZ.o.1.1.B4 2 (.slice (some ⟨f,i,none⟩) L k4)).B4 5 (.int .i64 0);have dd:Blk ((w4.setCell ⟨p,2,none⟩ (.slice (some ⟨f,i,none⟩) L k4)).setCell ⟨p,5,none⟩ (.int .i64 0)) p 201 (bv wp (.slice (some ⟨b,o,none⟩) x.prog.length B) (.slice (some ⟨f,i,none⟩) L k4) {x with at_:=0}):=H;rw[fc]at dd;have eb:=ad.o.1.up HZ.o.2.2.1;have ec:=eb.own hO dd rfl (.inr (by rw[Q];exact HZ.o.2.1)) λb e=>cC T _ (HZ.o.2.2.2 b e);exact⟨⟨f,i,k4,ec,rQ ec Q⟩,((HG.o.1.free.up HB.o.1.1).up HZ.o.2.2.1).only eb.tp hO,(ag.B5 (af HB.o.1.1 HZ.o.2.2.1)).trans hO.B7,hO.B0 HZ.o.1.2 (by have:=cj.o;omega)⟩
  ·obtain⟨A,k,rfl,ed,fd⟩:=ak cf;obtain⟨f,i,rfl,_,_⟩:=wo (k:=0) (an.C4 cf) rfl (by omega);have c7:bz=false:=by
    have G:=HE.o w2;have h2:∀n k:Nat,(binOp .eql 194 (.slice (some ⟨f,i,none⟩) n k) (.slice none 0 0)).run prog w2=.ok (.bool false) w2:=λn k=>by kernel_rfl
    rw[h2]at G;injection G with G;injection G with G;exact G.symm
   subst c7;have ad:=Z1 ab;rw[Q]at ad;clear he c6 ab cf ed fd q2;go_wp2;go_meet;exact⟨⟨f,i,k,ad.o,rQ ad.o Q⟩,HG.o.1.free.up HB.o.1.1,ag.B5 HB.o.1.1,HB.o.2.1⟩
 case rest=>
  obtain⟨⟨f,i,k,ab,ck⟩,ee,cl,ef⟩:=hcut;have aj:=Z4 ab ee cl ef;have q6:=td ab.B0;have f6:=ab.B0.frozen 6;have ed:L<=k:=by
   obtain⟨A9,k9,e9,h9,_⟩:=ak ck;injection e9 with _ _ gg;omega
  clear ab ee cl ef ck HB he c6 q2 HE;go_upto_region 5 with fail
  have bu:=aI.B4 p wc 6 (.int .i64 (-1));have cm:cI (wc.setCell ⟨p,6,none⟩ (.int .i64 (-1))) c (ext T w.heap.size .free) wp p {x with B8:= -1} (.slice (some ⟨b,o,none⟩) x.prog.length B) (.slice (some ⟨f,i,none⟩) L k):=aj.o.1.own bu (vG wp _ _ x (-1)▸aj.o.1.B0.B4 6 (.int .i64 (-1))) rfl aj.o.1.ops aj.o.1.G4;have eg:=aj.o.2.1.only aj.o.1.tp bu;have eh:ag (λb=>b=p) w (wc.setCell ⟨p,6,none⟩ (.int .i64 (-1))):=aj.o.2.2.1.trans bu.B7;have de:=bu.B0 aj.o.2.2.2 (by have:=cj.o;omega);have df:=aj.o.1.tp;rw[br T _ cy]at df;generalize wc.setCell ⟨p,6,none⟩ (.int .i64 (-1))=s at*;have bm:s.ownsRow 0 250 2 (.slice (some ⟨f,i,none⟩) L k) L (d7 (aF c x.call)):=rQ (x:={x with B8:= -1}) cm Q;have dg:=Z1 bm;have HZ:=Z5 cm eg eh de df;have F:Blk s.drew p 201 (bv wp (.slice (some ⟨b,o,none⟩) x.prog.length B) (.slice (some ⟨f,i,none⟩) L k) {x with B8:= -1})/\s.drew.cell? ⟨f,i+x.at_*2,none⟩=some (.int .i64 (be c x x.at_).1)/\s.drew.cell? ⟨f,i+x.at_*2+1,none⟩=some (.int .i64 (be c x x.at_).2):=⟨cm.B0.drew,cw.o s _ _ _ bm⟩;clear bu cm eg eh de df bm q6 f6;refine ay (S:=λU=>Blk U p 201 (bv wp (.slice (some ⟨b,o,none⟩) x.prog.length B) (.slice (some ⟨f,i,none⟩) L k) {x with B8:= -1})/\U.cell? ⟨f,i+x.at_*2,none⟩=some (.int .i64 (be c x x.at_).1)/\U.cell? ⟨f,i+x.at_*2+1,none⟩=some (.int .i64 (be c x x.at_).2)) (by kernel_rfl) F ?_;simp only[zD,zE,Nat.reduceAdd,zG];refine zp 0 ?_;refine zp 1 ?_;refine zp 2 ?_;refine zq 3 _ ?_ (hy:=λW hW=>by have q2:=s9 hW.1;exact zf);refine zp 4 ?_;refine zp 5 ?_;refine zp 6 ?_;refine zq 7 _ ?_ (hy:=λW hW=>by have q5:W.cell? ⟨p,5,none⟩=some (.int .i64 (x.at_:Int)):=hW.1.cell 5;exact zf);refine zp 8 ?_;refine zp 9 ?_;refine zo 10 λK hK=>?_;go_simp;have a1:Blk (s.drew.alloc (.cells #[.int .i64 0,.int .i64 0] 250)) p 201 (bv wp (.slice (some ⟨b,o,none⟩) x.prog.length B) (.slice (some ⟨f,i,none⟩) L k) {x with B8:= -1})/\(s.drew.alloc (.cells #[.int .i64 0,.int .i64 0] 250)).cell? ⟨f,i+x.at_*2,none⟩=some (.int .i64 (be c x x.at_).1)/\(s.drew.alloc (.cells #[.int .i64 0,.int .i64 0] 250)).cell? ⟨f,i+x.at_*2+1,none⟩=some (.int .i64 (be c x x.at_).2):=⟨F.1.alloc _,cw.o _ _ _ _ ((aN dg.o ((Oy s.heap.size s).drew)).alloc _)⟩;have ap:=Blk.A8 s.drew 250 #[.int .i64 0,.int .i64 0] rfl;refine hK _ _ a1 ?_;clear hK;refine zn ?_;refine zo 11 λK hK=>?_;refine bX Of (.tmp 3) (.tmp 47) rfl s.drew.heap.size 0 (by rfl) #[.int .i64 (be c x x.at_).1,.int .i64 (be c x x.at_).2] (by rfl) ap rfl (by decide) (by simp[Value.oneCell']) ?_;intro m ei ej;have aq:Below s.heap.size s s.drew:=(Oy s.heap.size s).drew;have a3:Below s.heap.size s (s.drew.alloc (.cells #[.int .i64 0,.int .i64 0] 250)):=ae aq _;have a4:Below s.heap.size s m:=ej.below a3 (OA _);have bg:Blk m p 201 (bv wp (.slice (some ⟨b,o,none⟩) x.prog.length B) (.slice (some ⟨f,i,none⟩) L k) {x with B8:= -1})/\m.cell? ⟨f,i+x.at_*2,none⟩=some (.int .i64 (be c x x.at_).1)/\m.cell? ⟨f,i+x.at_*2+1,none⟩=some (.int .i64 (be c x x.at_).2):=⟨HZ.o.1.B0.later a4,cw.o _ _ _ _ (aN dg.o a4)⟩;refine hK _ _ bg ?_;clear hK;refine zn ?_;refine zd ?_;have fe:w.heap.size<=s.heap.size:=HZ.o.2.2.1.size;have a5:Blk m s.heap.size 250 #[.int .i64 (be c x x.at_).1,.int .i64 (be c x x.at_).2]:=ei;have q:Hid (StI w m c T wp p g x (.slice (some ⟨b,o,none⟩) x.prog.length B) (.slice (some ⟨f,i,none⟩) L k) X s.heap.size):=Z1 ⟨HZ.o.1.up a4,HZ.o.2.1.up a4,HZ.o.2.2.1.trans (ag.B5 a4),HZ.o.2.2.2.1.later a4,a5,cj.o,fe,cy,HZ.o.2.2.2.2⟩;have o0:m.cell? ⟨s.heap.size,0,none⟩=some (.int .i64 (be c x x.at_).1):=a5.cell 0;have o1:m.cell? ⟨s.heap.size,1,none⟩=some (.int .i64 (be c x x.at_).2):=a5.cell 1;have gh:=a5.lt;clear F a1 bg aq a3 a4 ap ei ej HZ dg a5;generalize s.heap.size=b3 at*;have ff:=HY.o.kind;have d0:(be c x x.at_).1=1\/(be c x x.at_).1=2\/(be c x x.at_).1=3\/(be c x x.at_).1=4\/(be c x x.at_).1=5\/(be c x x.at_).1=6\/(be c x x.at_).1=7:=by omega
  clear ff
  rcases d0 with D|D|D|D|D|D|D
  ·rw[D]at o0;have au:=HY.o.Q6 D;have fg:=Z1 (AK m c hc _ wp p g {x with B8:= -1} _ _ q.o.g_ q.o.I1 ⟨t.o.prog,t.o.len,t.o.task,t.o.nth,t.o.at_,.inl rfl,t.o.rep⟩ cz.o au {x with B8:= -1,rep:=.of (aH x.call)} rfl);have fh:Hid (bT c g x=(if aH x.call=0 then g.note (({x with B8:= -1,rep:=.of (aH x.call),at_:=x.at_+1}:Ci).event 1)else(g.note (({x with B8:= -1,rep:=.of (aH x.call),at_:=x.at_+1}:Ci).event 1)).note (({x with B8:= -1,rep:=.of (aH x.call),at_:=x.at_+1}:Ci).event 2),{x with B8:= -1,rep:=.of (aH x.call),at_:=x.at_+1})):=Z1 (by
    have G:((aF c x.call).getD x.at_ (0,0)).1=1:=D;unfold bT;simp only[G,OB])
   have hw:IntKind.i64.wrap ((x.at_:Int)+1)=(x.at_:Int)+1:=by rw[OX];omega
   clear au;go_wp2_with fail;refine fg.o.mono ?_;rintro e6 u ⟨rfl,T6,v,l,j,z⟩;have d:=Z4 v l j z;have q5:u.cell? ⟨p,5,none⟩=some (.int .i64 (x.at_:Int)):=j.B0.cell 5;have f5:=j.B0.frozen 5;clear v l j z;go_wp2;refine Pf (Pb (by kernel_rfl) _ _ _) rfl ?_;have H:=d.o.2.2.1.B0.B4 5 (.int .i64 ((x.at_:Int)+1));have N:=bp.own (x':={x with B8:= -1,rep:=.of (aH x.call),at_:=x.at_+1}) d.o.2.1 d.o.2.2.1 (aI.B4 _ _ _ _) H rfl (.inr (by
    rcases d.o.2.2.1.ops with r|r
    ·have:(some ⟨f,i,none⟩:Option Addr)=none:=by injection r.1
     cases this
    ·exact r)) d.o.2.2.1.G4
   refine⟨rfl,bp.wrap q.o.B7 ?_⟩;rw[fh.o];exact bp.trans d.o.1 d.o.2.2.2 N
  ·rw[D]at o0;have h0:=HY.o.zero (by omega);obtain⟨n,hn,b0,hf⟩:=HY.o.ask (.inl D);have al:=Z1 hn;clear hn;have ch:=Z1 (vH m c hc _ wp p g {x with B8:= -1} q.o.g_ ⟨_,_,q.o.I1⟩ ⟨t.o.prog,t.o.len,t.o.task,t.o.nth,t.o.at_,.inl rfl,t.o.rep⟩ 2 n b0 hf);have dh:Hid (bT c g x=((g.ask n x.task false).1,{x with B8:=if(g.ask n x.task false).2=true then -1 else(n:Int),at_:=x.at_+1})):=Z1 (by
    have G:(aF c x.call).getD x.at_ (0,0)=(2,(n:Int)):=Prod.ext D al.o;unfold bT;simp only[G];simp)
   clear hf;rw[al.o]at o1;go_wp2_with fail;refine zm ch.o λu b6=>?_;have P:=Z1 b6;clear b6;obtain⟨T6,v,l,⟨aw,ax,j⟩,z⟩:=P.o;have d:=Z4 v l j z;have q5:u.cell? ⟨p,5,none⟩=some (.int .i64 (x.at_:Int)):=j.B0.cell 5;have f5:=j.B0.frozen 5;have hw:IntKind.i64.wrap ((x.at_:Int)+1)=(x.at_:Int)+1:=by rw[OX];omega
   clear v l j z;go_wp2;refine Pf (Pb (by kernel_rfl) _ _ _) rfl ?_;have H:=d.o.2.2.1.B0.B4 5 (.int .i64 ((x.at_:Int)+1));have N:=bp.own (x':={x with B8:=if(g.ask n x.task (decide ((2:Int)=3))).2=true then -1 else(n:Int),at_:=x.at_+1}) d.o.2.1 d.o.2.2.1 (aI.B4 _ _ _ _) H rfl (.inr (by
    rcases d.o.2.2.1.ops with r|r
    ·exact absurd r.2 h0
    ·exact r)) d.o.2.2.1.G4
   refine⟨rfl,bp.wrap q.o.B7 ?_⟩;rw[dh.o];exact bp.trans d.o.1 d.o.2.2.2 N
  ·rw[D]at o0;have h0:=HY.o.zero (by omega);obtain⟨n,hn,b0,hf⟩:=HY.o.ask (.inr D);have al:=Z1 hn;clear hn;have ch:=Z1 (vH m c hc _ wp p g {x with B8:= -1} q.o.g_ ⟨_,_,q.o.I1⟩ ⟨t.o.prog,t.o.len,t.o.task,t.o.nth,t.o.at_,.inl rfl,t.o.rep⟩ 3 n b0 hf);have dh:Hid (bT c g x=((g.ask n x.task true).1,{x with B8:=if(g.ask n x.task true).2=true then -1 else(n:Int),at_:=x.at_+1})):=Z1 (by
    have G:(aF c x.call).getD x.at_ (0,0)=(3,(n:Int)):=Prod.ext D al.o;unfold bT;simp only[G];simp)
   clear hf;rw[al.o]at o1;go_wp2_with fail;refine zm ch.o λu b6=>?_;have P:=Z1 b6;clear b6;obtain⟨T6,v,l,⟨aw,ax,j⟩,z⟩:=P.o;have d:=Z4 v l j z;have q5:u.cell? ⟨p,5,none⟩=some (.int .i64 (x.at_:Int)):=j.B0.cell 5;have f5:=j.B0.frozen 5;have hw:IntKind.i64.wrap ((x.at_:Int)+1)=(x.at_:Int)+1:=by rw[OX];omega
   clear v l j z;go_wp2;refine Pf (Pb (by kernel_rfl) _ _ _) rfl ?_;have H:=d.o.2.2.1.B0.B4 5 (.int .i64 ((x.at_:Int)+1));have N:=bp.own (x':={x with B8:=if(g.ask n x.task (decide ((3:Int)=3))).2=true then -1 else(n:Int),at_:=x.at_+1}) d.o.2.1 d.o.2.2.1 (aI.B4 _ _ _ _) H rfl (.inr (by
    rcases d.o.2.2.1.ops with r|r
    ·exact absurd r.2 h0
    ·exact r)) d.o.2.2.1.G4
   refine⟨rfl,bp.wrap q.o.B7 ?_⟩;rw[dh.o];exact bp.trans d.o.1 d.o.2.2.2 N
  ·rw[D]at o0;have h0:=HY.o.zero (by omega);obtain⟨a7,di,au⟩:=HY.o.E6 D;have fj:=Z1 (λU (hU:Below m.heap.size m U)=>ME U c hc (ext T w.heap.size .free) wp g (q.o.g_.up hU) a7 x.call d2.o);have fk:=Z1 (λU T' (y:Ci) (hy:y={x with B8:= -1,rep:=(g.E6 c x.call).2}) (hU:GAt U c T' wp (g.E6 c x.call).1) (hC:cY U c T' wp p y)=>kX 2 (.inr (.inl rfl)) U c hc T' wp p _ y hU hC (by rw[hy];exact⟨t.o.prog,t.o.len,t.o.task,t.o.nth,t.o.at_,.inl rfl,di⟩) (by rw[hy];exact cz.o) au);have fl:Hid (bT c g x=((g.E6 c x.call).1.note (({x with B8:= -1,rep:=(g.E6 c x.call).2,at_:=x.at_+1}:Ci).event 2),{x with B8:= -1,rep:=(g.E6 c x.call).2,at_:=x.at_+1})):=Z1 (by
    have G:((aF c x.call).getD x.at_ (0,0)).1=4:=D;unfold bT;simp only[G];simp)
   generalize (g.E6 c x.call).1=gd at*;generalize (g.E6 c x.call).2=rp at*;have bh:=q.o.call;clear a7 au di;go_upto_region 13 with fail
   have R:Below m.heap.size m m.drew:=(Oy m.heap.size m).drew;have F:Blk m.drew p 201 (bv wp (.slice (some ⟨b,o,none⟩) x.prog.length B) (.slice (some ⟨f,i,none⟩) L k) {x with B8:= -1})/\Blk m.drew X 73 x.call.arr:=⟨q.o.I1.B0.drew,bh.drew⟩;refine bW 9 (S:=λU=>Blk U p 201 (bv wp (.slice (some ⟨b,o,none⟩) x.prog.length B) (.slice (some ⟨f,i,none⟩) L k) {x with B8:= -1})/\Blk U X 73 x.call.arr) (by kernel_rfl) (by kernel_rfl) F ?_;simp only[OM,OO,ON,OQ];try simp only[zD,zE,Nat.reduceAdd,zG]
   refine zp 0 ?_;refine zp 1 ?_;refine zp 2 ?_;refine zp 3 ?_;refine zp 4 ?_;refine zq 5 _ ?_ (hy:=λW hW=>by refine bE gV (.tmp 2) ?_ ⟨X,0,none⟩ ?_ x.call.arr rfl ?_;exact rfl;exact rfl;exact bQ hW.2);refine zo 6 λK hK=>?_;go_simp;refine zm (fj.o _ R) λu am=>?_;have O:Blk u p 201 (bv wp (.slice (some ⟨b,o,none⟩) x.prog.length B) (.slice (some ⟨f,i,none⟩) L k) {x with B8:= -1})/\Blk u X 73 x.call.arr:=⟨am.E8 F.1 q.o.pl q.o.tp,am.B0 F.2 q.o.n2⟩;refine hK _ _ O ?_;clear hK;refine zn ?_;refine zp 7 ?_;refine zp 8 ?_;refine zd ?_;rw[bI];obtain⟨T6,v,l,⟨aw,ax,j⟩,z⟩:=bp.after R (bp.F4 ⟨_,_,q.o.I1.up R⟩ am);have dj:rp.val=.agg rp.arr:=rfl;rw[dj];have b7:=j.B0;have ao:=Z4 v l j z;have ek:rp.arr.size=13:=rfl;have el:=dy rp;clear F O am R bh v l j z dj;generalize dk:rp.arr=ra at*;have fm:=Z1 dk;clear dk
   go_wp2_with (refine dW aA rfl (.tmp 70) (.tmp 68) rfl p 7 (by rfl) ra (by rfl) b7 ek (by show 7+13<=20;decide) el ?_;intro w8 bi em)
   rw[<-fm.o,BH]at bi;have en:=bp.own ao.o.2.1 ao.o.2.2.1 em bi rfl ao.o.2.2.1.ops ao.o.2.2.1.G4;obtain⟨T8,c1,c2,c3,c4⟩:=bp.trans ao.o.1 ao.o.2.2.2 en;refine zm (fk.o _ _ _ rfl c2 c3) λw9 eo=>?_;have P:=Z1 (bp.trans c1 c4 (bp.F4 c3 eo));clear c1 c2 c3 c4 eo en bi em b7 ek el;obtain⟨T6,v,l,⟨aw,ax,j⟩,z⟩:=P.o;have d:=Z4 v l j z;have q5:w9.cell? ⟨p,5,none⟩=some (.int .i64 (x.at_:Int)):=j.B0.cell 5;have f5:=j.B0.frozen 5;have hw:IntKind.i64.wrap ((x.at_:Int)+1)=(x.at_:Int)+1:=by rw[OX];omega
   clear v l j z;go_wp2;refine Pf (Pb (by kernel_rfl) _ _ _) rfl ?_;have H:=d.o.2.2.1.B0.B4 5 (.int .i64 ((x.at_:Int)+1));have N:=bp.own (x':={x with B8:= -1,rep:=rp,at_:=x.at_+1}) d.o.2.1 d.o.2.2.1 (aI.B4 _ _ _ _) H rfl (.inr (by
    rcases d.o.2.2.1.ops with r|r
    ·exact absurd r.2 h0
    ·exact r)) d.o.2.2.1.G4
   refine⟨rfl,bp.wrap q.o.B7 ?_⟩;rw[fl.o];exact bp.trans d.o.1 d.o.2.2.2 N
  ·rw[D]at o0;have h0:=HY.o.zero (by omega);obtain⟨n,hn,b0,hh,hf,dp,dq⟩:=HY.o.drop D;have al:=Z1 hn;clear hn;have cn:=Z3 dp dq (MI c x dp dq);rw[Q]at cn;clear dp dq;have fp:=Z1 (λU (hU:Below m.heap.size m U)=>vD U c hc (ext T w.heap.size .free) wp g (q.o.g_.up hU) n b0 x.task (by have:=t.o.task;constructor<;>omega) hh hf);have b8:Hid (bT c g x=(g.drop n x.task,{x with B8:= -1,at_:=(if n<c.st then skF c x else x.at_)+1})):=Z1 (by
    have G:(aF c x.call).getD x.at_ (0,0)=(5,(n:Int)):=Prod.ext D al.o;unfold bT;simp only[G,Q,cn.o.2.2];unfold skF;by_cases q1:n<c.st<;>by_cases q2:x.rep.err=0<;>simp[q1,q2])
   rw[al.o]at o1;have dr:=q.o.op;rw[al.o,D]at dr;clear hh hf;go_upto_region 16 with fail
   have R:Below m.heap.size m m.drew:=(Oy m.heap.size m).drew;have F:Blk m.drew p 201 (bv wp (.slice (some ⟨b,o,none⟩) x.prog.length B) (.slice (some ⟨f,i,none⟩) L k) {x with B8:= -1})/\Blk m.drew b3 250 #[.int .i64 5,.int .i64 (n:Int)]:=⟨q.o.I1.B0.drew,dr.drew⟩;refine ay (S:=λU=>Blk U p 201 (bv wp (.slice (some ⟨b,o,none⟩) x.prog.length B) (.slice (some ⟨f,i,none⟩) L k) {x with B8:= -1})/\Blk U b3 250 #[.int .i64 5,.int .i64 (n:Int)]) (by kernel_rfl) F ?_;simp only[zD,zE,Nat.reduceAdd,zG];refine zp 0 ?_;refine zp 1 ?_;refine zp 2 ?_;refine zp 3 ?_;refine zp 4 ?_;refine zp 5 ?_;refine zp 6 ?_;refine zp 7 ?_;refine zp 8 ?_;refine zp 9 ?_;refine zo 10 λK hK=>?_;go_simp
   (refine(fp.o _ R).mono ?_)
   rintro e6 u ⟨⟨er,rfl⟩,am⟩;have O:Blk u p 201 (bv wp (.slice (some ⟨b,o,none⟩) x.prog.length B) (.slice (some ⟨f,i,none⟩) L k) {x with B8:= -1})/\Blk u b3 250 #[.int .i64 5,.int .i64 (n:Int)]:=⟨am.E8 F.1 q.o.pl q.o.tp,am.B0 F.2 q.o.n3⟩;refine hK _ _ O ?_;clear hK;refine zn ?_;refine zd ?_;have ds:=Z1 (bp.after R (bp.F4 ⟨_,_,q.o.I1.up R⟩ am));have a8:=Z1 O;clear F O am R dr o0 o1;go_upto_region 17 with fail
   obtain⟨T6,v,l,⟨aw,ax,j⟩,z⟩:=ds.o;have ao:=Z4 v l j z;clear v l j z;have ah:Below u.heap.size u u.drew:=(Oy u.heap.size u).drew;have F:Blk u.drew p 201 (bv wp (.slice (some ⟨b,o,none⟩) x.prog.length B) (.slice (some ⟨f,i,none⟩) L k) {x with B8:= -1})/\Blk u.drew b3 250 #[.int .i64 5,.int .i64 (n:Int)]:=⟨a8.o.1.drew,a8.o.2.drew⟩;refine ay (S:=λU=>Blk U p 201 (bv wp (.slice (some ⟨b,o,none⟩) x.prog.length B) (.slice (some ⟨f,i,none⟩) L k) {x with B8:= -1})/\Blk U b3 250 #[.int .i64 5,.int .i64 (n:Int)]) (by kernel_rfl) F ?_;simp only[zD,zE,Nat.reduceAdd,zG];refine zp 0 ?_;refine zp 1 ?_;refine zp 2 ?_;refine zp 3 ?_;refine zp 4 ?_;refine zp 5 ?_;refine zo 6 λK hK=>?_;go_simp;refine zm (kW _ c T6 wp _ (ao.o.2.1.up ah)) λw7 ep=>?_;have co:Below u.heap.size u w7:=af ah ep;have cb:Blk w7 p 201 (bv wp (.slice (some ⟨b,o,none⟩) x.prog.length B) (.slice (some ⟨f,i,none⟩) L k) {x with B8:= -1})/\Blk w7 b3 250 #[.int .i64 5,.int .i64 (n:Int)]:=⟨a8.o.1.later co,a8.o.2.later co⟩;unfold Cg.val;refine hK _ _ cb ?_;clear hK;refine zn ?_;refine zo 7 λK hK=>?_;go_simp;refine zm (mX c _) λw8 bi=>?_;have cp:Below u.heap.size u w8:=af co bi;have eq:Blk w8 p 201 (bv wp (.slice (some ⟨b,o,none⟩) x.prog.length B) (.slice (some ⟨f,i,none⟩) L k) {x with B8:= -1})/\Blk w8 b3 250 #[.int .i64 5,.int .i64 (n:Int)]:=⟨a8.o.1.later cp,a8.o.2.later cp⟩;refine hK _ _ eq ?_;clear hK;refine zn ?_;refine zp 8 ?_;refine zd ?_;have es:=Z1 (ds.o.later cp);clear F cb eq ah co cp ep bi ao ds a8;by_cases et:n<c.st
   ·rw[OB et]at b8;obtain⟨T8,c1,c2,c3,c4⟩:=es.o;have e5:=Z1 (DC w8 c hc T8 wp p _ {x with B8:= -1} c2 c3 h0 (by rw[<-Q]at hL;exact hL) (by have h9:=cn.o.1;rw[<-Q]at h9;exact h9) (by have h9:=cn.o.2.1;rw[<-Q]at h9;exact h9));have eu:=Z2 c1 c4;clear c1 c2 c3 c4;go_wp2_with fail;refine zm e5.o λw9 ev=>?_;have bn:skF c {x with B8:= -1}<=x.at_+3:=by unfold skF;split<;>simp
    have P:=Z1 (bp.trans eu.o.1 eu.o.2 ev);have dt:skF c {x with B8:= -1}=skF c x:=rfl;rw[dt]at P bn;clear ev dt;obtain⟨a9,du⟩:∃a9,a9=skF c x:=⟨_,rfl⟩;rw[<-du]at P b8 bn;obtain⟨T6,v,l,⟨aw,ax,j⟩,z⟩:=P.o;have d:=Z4 v l j z;have q5:w9.cell? ⟨p,5,none⟩=some (.int .i64 (a9:Int)):=j.B0.cell 5;have f5:=j.B0.frozen 5;have hw:IntKind.i64.wrap ((a9:Int)+1)=(a9:Int)+1:=by rw[OX];omega
    have fq:=Z1 (show a9≠0 from by rw[du];unfold skF;split<;>omega);clear v l j z du bn;go_wp2;refine Pf (Pb (by kernel_rfl) _ _ _) rfl ?_;have H:=d.o.2.2.1.B0.B4 5 (.int .i64 ((a9:Int)+1));have N:=bp.own (x':={x with B8:= -1,at_:=a9+1}) d.o.2.1 d.o.2.2.1 (aI.B4 _ _ _ _) H rfl (.inr (by
     rcases d.o.2.2.1.ops with r|r
     ·exact absurd r.2 fq.o
     ·exact r)) d.o.2.2.1.G4
    refine⟨rfl,bp.wrap q.o.B7 ?_⟩;rw[b8.o];exact bp.trans d.o.1 d.o.2.2.2 N
   ·rw[Oz et]at b8;have P:=es;obtain⟨T6,v,l,⟨aw,ax,j⟩,z⟩:=P.o;have d:=Z4 v l j z;have q5:w8.cell? ⟨p,5,none⟩=some (.int .i64 (x.at_:Int)):=j.B0.cell 5;have f5:=j.B0.frozen 5;have hw:IntKind.i64.wrap ((x.at_:Int)+1)=(x.at_:Int)+1:=by rw[OX];omega
    clear v l j z;go_wp2;refine Pf (Pb (by kernel_rfl) _ _ _) rfl ?_;have H:=d.o.2.2.1.B0.B4 5 (.int .i64 ((x.at_:Int)+1));have N:=bp.own (x':={x with B8:= -1,at_:=x.at_+1}) d.o.2.1 d.o.2.2.1 (aI.B4 _ _ _ _) H rfl (.inr (by
     rcases d.o.2.2.1.ops with r|r
     ·exact absurd r.2 h0
     ·exact r)) d.o.2.2.1.G4
    refine⟨rfl,bp.wrap q.o.B7 ?_⟩;rw[b8.o];exact bp.trans d.o.1 d.o.2.2.2 N
  ·rw[D]at o0;have h0:=HY.o.zero (by omega);obtain⟨a7,ew,ex⟩:=HY.o.add D;have HK:Hid (∀U,Calls prog 269 #[.string x.call.id] U λe w'=>e=.returned (av x.call.id).val/\Below U.heap.size U w'):=Z1 (by
    obtain⟨B,_,h2,h3⟩:=Kg x.call.id d2.o.L7;rw[h2 ew]at h3;exact h3)
   have fs:=Z1 (λU (hU:Below m.heap.size m U)=>Kf U c hc (ext T w.heap.size .free) wp g (q.o.g_.up hU) a7 (av x.call.id) ex);have ft:Hid (bT c g x=(g.add (av x.call.id),{x with B8:= -1,at_:=x.at_+1})):=Z1 (by
    have G:((aF c x.call).getD x.at_ (0,0)).1=6:=D;unfold bT;simp only[G];simp)
   generalize cl:av x.call.id=fu at*;have bh:=q.o.call;clear a7 ew ex cl;go_upto_region 20 with fail
   have R:Below m.heap.size m m.drew:=(Oy m.heap.size m).drew;have gi:=Z2 q.o.pl q.o.tp;have F:Blk m.drew p 201 (bv wp (.slice (some ⟨b,o,none⟩) x.prog.length B) (.slice (some ⟨f,i,none⟩) L k) {x with B8:= -1})/\Blk m.drew X 73 x.call.arr:=⟨q.o.I1.B0.drew,bh.drew⟩;refine ay (S:=λU=>Blk U p 201 (bv wp (.slice (some ⟨b,o,none⟩) x.prog.length B) (.slice (some ⟨f,i,none⟩) L k) {x with B8:= -1})/\Blk U X 73 x.call.arr) (by kernel_rfl) F ?_;simp only[zD,zE,Nat.reduceAdd,zG];refine zp 0 ?_;refine zp 1 ?_;refine zp 2 ?_;refine zp 3 ?_;refine zp 4 ?_;refine zp 5 ?_;refine zo 6 λK hK=>?_;go_simp;refine zm (HK.o _) λu b7=>?_;have ah:Below m.heap.size m u:=af R b7;have O:Blk u p 201 (bv wp (.slice (some ⟨b,o,none⟩) x.prog.length B) (.slice (some ⟨f,i,none⟩) L k) {x with B8:= -1})/\Blk u X 73 x.call.arr:=⟨q.o.I1.B0.later ah,bh.later ah⟩;refine hK _ _ O ?_;clear hK;refine zn ?_;refine zo 7 λK hK=>?_;go_simp
   (refine(fs.o _ ah).mono ?_)
   rintro e7 w7 ⟨⟨bb,rfl⟩,cq⟩;have cb:Blk w7 p 201 (bv wp (.slice (some ⟨b,o,none⟩) x.prog.length B) (.slice (some ⟨f,i,none⟩) L k) {x with B8:= -1})/\Blk w7 X 73 x.call.arr:=⟨cq.E8 O.1 q.o.pl q.o.tp,cq.B0 O.2 q.o.n2⟩;refine hK _ _ cb ?_;clear hK;refine zn ?_;refine zd ?_;have P:Hid (bp m w7 c (ext T w.heap.size .free) wp (g.add fu) p {x with B8:= -1}):=Z1 (bp.after ah (bp.F4 ⟨_,_,q.o.I1.up ah⟩ cq));clear F O cb cq R ah b7 bh;obtain⟨T6,v,l,⟨aw,ax,j⟩,z⟩:=P.o;have d:=Z4 v l j z;have q5:w7.cell? ⟨p,5,none⟩=some (.int .i64 (x.at_:Int)):=j.B0.cell 5;have f5:=j.B0.frozen 5;have hw:IntKind.i64.wrap ((x.at_:Int)+1)=(x.at_:Int)+1:=by rw[OX];omega
   clear v l j z;go_wp2;refine Pf (Pb (by kernel_rfl) _ _ _) rfl ?_;have H:=d.o.2.2.1.B0.B4 5 (.int .i64 ((x.at_:Int)+1));have N:=bp.own (x':={x with B8:= -1,at_:=x.at_+1}) d.o.2.1 d.o.2.2.1 (aI.B4 _ _ _ _) H rfl (.inr (by
    rcases d.o.2.2.1.ops with r|r
    ·exact absurd r.2 h0
    ·exact r)) d.o.2.2.1.G4
   refine⟨rfl,bp.wrap q.o.B7 ?_⟩;rw[ft.o];exact bp.trans d.o.1 d.o.2.2.2 N
  ·rw[D]at o0;have h0:=HY.o.zero (by omega);have au:=HY.o.end_ D;have fv:=Z1 (Gu m c hc _ wp p g {x with B8:= -1} q.o.g_ ⟨_,_,q.o.I1⟩ ⟨t.o.prog,t.o.len,t.o.task,t.o.nth,t.o.at_,.inl rfl,t.o.rep⟩ cz.o au);have fw:Hid (bT c g x=(g.note (({x with B8:= -1}:Ci).event 3),{x with B8:= -1,nth:=x.nth+1,at_:=0})):=Z1 (by
    have G:((aF c x.call).getD x.at_ (0,0)).1=7:=D;unfold bT;simp only[G];simp)
   clear au;go_wp2_with fail;refine fv.o.mono ?_;rintro e6 u ⟨rfl,T6,aw,ax,v,l,j,z⟩;have d:=Z4 v l j z;have q5:u.cell? ⟨p,5,none⟩=some (.int .i64 (-1)):=j.B0.cell 5;have f5:=j.B0.frozen 5;clear v l j z;go_wp2;refine Pf (Pb (by kernel_rfl) _ _ _) rfl ?_;have H:=d.o.2.2.1.B0.B4 5 (.int .i64 0);have N:=nA.fin (n:=0) d.o.2.1 d.o.2.2.1 (aI.B4 p u 5 (.int .i64 0)) H λ_=>rfl;refine⟨rfl,bp.wrap q.o.B7 ?_⟩;rw[fw.o];exact bp.trans d.o.1 d.o.2.2.2 N
structure Wi.ok(c:Cg)(x:Wi):Prop where
 task:0<=x.task/\x.task<32
 B6:x.B6<=14
 B8:x.B8= -1\/∃n:Nat,x.B8=n/\n<c.st+2
 key:x.key.ok
 D9:x.D9.C6 c
 E0:x.E0.ok
 done:x.done<=1000000
def cr(wp:Nat)(vs:Value)(x:Wi):Array Value:=#[Z wp 0,I x.task,I (x.B6:Int),I x.B8,.bool x.B3,E x.key.hi,E x.key.lo,vs,I x.E0.tick,I x.E0.load,I x.E0.want,I x.E0.reps,I x.E0.I8,I (x.done:Int)]
section
variable {w:World} {p wp:Nat} {t:TypeId} {vs:Value} {x:Wi}
def iy(h:Blk w p t (cr wp vs x)):w.cell? (Y p 0)=some (Z wp 0):=h.cell 0
def rR(h:Blk w p t (cr wp vs x)):w.cell? (Y p 1)=some (I x.task):=h.cell 1
def dH(h:Blk w p t (cr wp vs x)):w.cell? (Y p 2)=some (I (x.B6:Int)):=h.cell 2
def gv(h:Blk w p t (cr wp vs x)):w.cell? (Y p 3)=some (I x.B8):=h.cell 3
def gw(h:Blk w p t (cr wp vs x)):w.cell? (Y p 4)=some (.bool x.B3):=h.cell 4
def rS(h:Blk w p t (cr wp vs x)):w.cell? (Y p 5)=some (E x.key.hi):=h.cell 5
def rT(h:Blk w p t (cr wp vs x)):w.cell? (Y p 6)=some (E x.key.lo):=h.cell 6
def DE(h:Blk w p t (cr wp vs x)):w.cell? (Y p 7)=some vs:=h.cell 7
def Og(h:Blk w p t (cr wp vs x)):w.cell? (Y p 13)=some (I (x.done:Int)):=h.cell 13
end
structure eM(w:World)(c:Cg)(T:Nat->Tg)(wp p:Nat)(x:Wi)(vs:Value):Prop where
 B0:Blk w p 203 (cr wp vs x)
 tp:T p=.free
 D9:(vs=.pointer none/\x.B6≠5/\x.B6≠6)\/∃np,vs=Z np 0/\bC w c np x.D9 true (λb=>T b=.fz)
def aO(w:World)(c:Cg)(T:Nat->Tg)(wp p:Nat)(x:Wi):Prop:=∃vs,eM w c T wp p x vs
def aV(w w':World)(c:Cg)(T:Nat->Tg)(wp:Nat)(g':Gs)(p:Nat)(x':Wi):Prop:=bc (λW T=>aO W c T wp p x') w w' c T wp g' p
section
variable {w w' w'' W:World} {c:Cg} {T T':Nat→Tg} {wp p:Nat} {g g':Gs} {x x':Wi} {vs:Value}
def eM.B7(h:eM w c T wp p x vs)(hK:ag L w w')(hL:∀b,T b=.free\/T b=.fz->¬L b)(hT:∀b,b<w.heap.size->T b=.free\/T b=.fz->T' b=T b):eM w' c T' wp p x vs:=
 ⟨hK.B0 h.B0 (hL _ (.inl h.tp)),(hT _ h.B0.lt (.inl h.tp)).trans h.tp,h.D9.imp id λ⟨a,e,d⟩=>⟨a,e,((d.more (G:=λb=>T b=.fz/\b<w.heap.size) λb f e=>⟨e,f⟩).B7 hK λb e=>hL b (.inr e.1)).more λb _ e=>(hT b e.2 (.inr e.1)).trans e.1⟩⟩
def eM.up(h:eM w c T wp p x vs)(hb:M w w'):eM w' c T wp p x vs:=h.B7 (ag.B5 hb) (λ_ _ e=>e) λ_ _ _=>rfl
def eM.more(h:eM w c T wp p x vs)(hT:∀b,b<w.heap.size->T' b=T b):eM w c T' wp p x vs:=h.B7 (ag.refl (λ_=>False) w) (λ_ _ e=>e) λb a _=>hT b a
def aO.up(h:aO w c T wp p x)(hb:M w w'):aO w' c T wp p x:=by
 obtain⟨a,h⟩:=h;exact⟨a,h.up hb⟩
def aV.F4(h:aO w c T wp p x)(hg:bj w w' c T wp g'):aV w w' c T wp g' p x:=by
 obtain⟨g,a,i,d⟩:=hg;obtain⟨j,h⟩:=h;exact⟨g,a,i,⟨j,h.B7 d (λb e f=>by rcases e with e|e<;>rw[e]at f<;>exact f) λb l e=>a.keepT l (by rcases e with e|e<;>rw[e]<;>intro k f<;>cases f)⟩,d.C3 λb e=>.inl e⟩
def aV.own(hg:GAt w c T wp g)(h:eM w c T wp p x vs)(hO:aI p w w')(hb:Blk w' p 203 (cr wp vs x'))(hs:x'.D9=x.D9)(hd:vs=.pointer none->x'.B6≠5/\x'.B6≠6):aV w w' c T wp g p x':=by
 have hK:=hO.B7;refine⟨T,aW.refl _ _,hg.only h.tp hO,⟨vs,hb,h.tp,?_⟩,hK.C3 λb e=>.inr e⟩
 rcases h.D9 with⟨e,_⟩|⟨d,e,f⟩
 ·exact .inl ⟨e,hd e⟩
 ·refine .inr ⟨d,e,?_⟩;rw[hs];refine f.B7 hK λb a i=>?_;rw[i,h.tp]at a
  cases a
def aV.same(hg:GAt w c T wp g)(h:aO w c T wp p x)(hb:M w w'):aV w w' c T wp g p x:=⟨T,aW.refl _ _,hg.up hb,h.up hb,ag.B5 hb⟩
end
def tf(w:World)(c:Cg)(T:Nat->Tg)(wp p:Nat)(x:Wi)(h:aO w c T wp p x):C 337 #[Z p 0] w (J (.bool x.over) w):=by
 obtain⟨d,h⟩:=h;have f:=dH h.B0;have a:((x.B6:Int)==13)=x.over:=by
  unfold Wi.over;by_cases e:x.B6=13
  ·simp[e]
  ·have:¬((x.B6:Int)=13):=zO;simp[e,this]
 have b:=Z1 a;clear h a
 go_in
 go_wp2;go_ret;refine⟨?_,Oy _ w⟩;rw[<-b.o];rfl
def iO(w:World)(c:Cg)(hc:c.ok)(T:Nat->Tg)(wp p:Nat)(g:Gs)(x:Wi)(hg:GAt w c T wp g)(h:aO w c T wp p x):C 340 #[Z p 0] w (J (I (lineN c)) w):=by
 obtain⟨l,h⟩:=h;have f:=iy h.B0;have i:=Z1 (kW w c T wp g hg);have j:=Z1 (λU=>ju c hc U);clear h hg
 go_in
 go_wp2_with fail;refine zm i.o λm a=>?_;unfold Cg.val;have k:=Z1 a;clear f a;go_wp2_with fail;refine zm (j.o _) λn b=>?_;have d:=Z1 (af k.o b);clear b;go_wp2;go_ret;exact⟨rfl,d.o⟩
def ch(w:World)(c:Cg)(hc:c.ok)(T:Nat->Tg)(wp p:Nat)(g:Gs)(x:Wi)(hg:GAt w c T wp g)(h:aO w c T wp p x)(hx:x.ok c):C 338 #[Z p 0] w (J (.bool (x.ready c g)) w):=by
 have s:=Z1 (tf w c T wp p x h);have A:=Z1 (λU (t:M w U)=>vC U c hc T wp g (hg.up t));have G:=Z1 (λU (t:M w U)=>iO U c hc T wp p g x (hg.up t) (h.up t));have k:=cW c;obtain⟨y,h⟩:=h;have f:=Z1 h.B0;have B:x.ready c g=(!x.over&&(if x.B3=true then decide (g.held (lineN c) x.task≠0)else decide (x.B8<0)||decide (g.held x.B8 x.task≠0))):=rfl;have D:aq x.task:=by have:=hx.task;constructor<;>omega
 have i:=hx.B8;have u:=Z1 k;generalize x.over=H at*;rw[B];clear h hg hx B k
 cases H with
 |true=>
  go_in
  go_wp2_with fail;refine zm s.o λz a=>?_;go_wp2
  all_goals (go_ret;exact⟨rfl,a⟩)
 |false=>
  by_cases m:x.B3=true
  ·rw[m]
   go_in
   go_wp2_with fail;refine zm s.o λz a=>?_;have q:=gw (f.o.later a);rw[m]at q;have b:=Z2 a (f.o.later a);clear a f m;go_upto_region 4 with fail
   have d:=And.intro b.o.1.drew b.o.2.drew;refine zH (S:=λU=>M w U/\Blk U p 203 (cr wp y x)) d ?_;refine(zp 3 ?_);refine zL ?_;refine(zp 9 ?_);refine zo 5 λK hK=>?_;go_simp;refine zm (G.o _ d.1) λN v=>?_;have l:=And.intro (af d.1 v) (d.2.later v);refine zJ hK l ?_;refine zo 10 λK hK=>?_;go_simp;rw[u.o];refine zY (A.o _ l.1 (c.st+1) zO _ D) ?_;refine zJ hK l ?_;go_wp2;go_ret;refine⟨?_,l.1⟩;rw[u.o];show Ending.returned (.bool (g.held ((c.st+1:Nat):Int) x.task !=0))=_;rw[ue];simp
  ·have j:x.B3=false:=by simpa using m
   rw[j]
   rcases i with i|⟨n,i,L⟩
   ·rw[i]
    go_in
    go_wp2_with fail;refine zm s.o λz a=>?_;have q:=gw (f.o.later a);rw[j]at q;have b:=Z2 a (f.o.later a);clear a f m j;go_upto_region 5 with fail
    have d:=And.intro b.o.1.drew b.o.2.drew;refine zH (S:=λU=>M w U/\Blk U p 203 (cr wp y x)) d ?_;refine zQ 3 _ ?_ (hy:=λW hW=>by have r:=gv hW.2;rw[i]at r;exact zf);go_wp2;go_ret;exact⟨rfl,d.1⟩
   ·rw[i]
    go_in
    go_wp2_with fail;refine zm s.o λz a=>?_;have q:=gw (f.o.later a);rw[j]at q;have b:=Z2 a (f.o.later a);clear a f m j;go_upto_region 5 with fail
    have d:=And.intro b.o.1.drew b.o.2.drew;refine zH (S:=λU=>M w U/\Blk U p 203 (cr wp y x)) d ?_;refine zQ 3 _ ?_ (hy:=λW hW=>by have r:=gv hW.2;rw[i]at r;exact zf);refine zQ 9 _ ?_ (hy:=λW hW=>by have O:=iy hW.2;exact zf);refine zQ 13 _ ?_ (hy:=λW hW=>by have r:=gv hW.2;rw[i]at r;exact zf);refine zq 17 _ ?_ (hy:=λW hW=>by have P:=rR hW.2;exact zf);refine zo 18 λK hK=>?_;go_simp;refine zY (A.o _ d.1 n L _ D) ?_;refine zJ hK d ?_;go_wp2;go_ret;refine⟨?_,d.1⟩;have F:decide ((n:Int)<0)=false:=zS;rw[F];show Ending.returned (.bool (g.held n x.task !=0))=_;rw[ue];simp
def GAt.storeAt{w:World}{c:Cg}{T:Nat->Tg}{wp:Nat}{g:Gs}(h:GAt w c T wp g):∃sp v tp lb S,(∀U,M w U->C 30 #[Z wp 0] U λe w'=>e=.returned (Z sp 0)/\U=w')/\bU w c T sp v tp lb S/\et c S g.mp/\(∀U w' m',M w U->dJ U w' c T sp m'->bj U w' c T wp {g with mp:=m'})/\∀U w' T',M w U->aW T T' U.heap.size->eH w' c T' sp g.mp->ag (λb=>eE (T b)) U w'->GAt w' c T' wp g/\ag (λb=>eN (T b)) U w':=by
 obtain⟨f,sp,d,h⟩:=h;obtain⟨v,tp,lb,S,i,j⟩:=h.G3;exact⟨sp,v,tp,lb,S,λU a=>oR U c T wp g f sp d (h.up a),i,j,λU w' m' a k=>(h.up a).Q5 k,λU w' T' a l m n=>(h.up a).P6 l m n⟩
def iP(w:World)(c:Cg)(hc:c.ok)(T:Nat->Tg)(wp p:Nat)(g:Gs)(x:Wi)(hg:GAt w c T wp g)(h:aO w c T wp p x)(hx:x.key.ok):C 344 #[Z p 0] w (J (I (homeN c x.key)) w):=by
 obtain⟨k,v,l,m,S,f,i,j,_,_⟩:=hg.storeAt;have q:=Z1 f;have r:=Z1 (λU (s:M w U)=>ns U c hc T k v l m S (i.up s) j.n x.key hx);obtain⟨t,h⟩:=h;have a:=And.intro ((zi w)) h.B0.drew;clear h hg hx f i j
 go_in
 go_upto_region 1 with fail
 refine zH (S:=λU=>M w U/\Blk U p 203 (cr wp t x)) a ?_;refine(zp 3 ?_);refine zL ?_;refine zq 8 _ ?_ (hy:=λW hW=>by have u:=rS hW.2;have y:=rT hW.2;exact zf);refine zo 4 λK hK=>?_;go_simp;refine zY (q.o _ a.1) ?_;refine zJ hK a ?_;refine zo 9 λK hK=>?_;go_simp;refine zm (r.o _ a.1) λz b=>?_;have d:=And.intro (af a.1 b) (a.2.later b);refine zJ hK d ?_;go_wp2;go_ret;exact⟨rfl,d.1⟩
def BI{w:World}{wp:Nat}{t:TypeId}{vs:Value}{x:Wi}(h:Blk w p t (cr wp vs x)):∀j v,x.E0.arr.toList[j]?=some v->w.cell? (((Y p 8):Addr).add j)=some v:=by
 refine dw (b:=p) (o:=8) (cs:=x.E0.arr) λj v a=>?_;have e:j<5:=by
  have c:=OZ.1 a;obtain⟨d,_⟩:=c;exact d
 rw[h.cell,<-a]
 rcases j with _|_|_|_|_|j<;>first|rfl|omega
def lY(x:Adv):x.arr.all (·.oneCell')=true:=by simp[Adv.arr,Adv.cells,Value.oneCell']
def nB(T:Nat->Tg)(wp p:Nat)(g:Gs)(x:Wi)(hg:GAt w c T wp g)(h:aO w c T wp p x)(hx:x.ok c)(hn:g.ev.length<=70000)(kd:Int)(hkd:0<=kd/\kd<=7/\kd≠6):C 345 #[Z p 0,I kd] w λe w'=>e=.returned (.tuple #[])/\bj w w' c T wp (g.note (x.event kd)):=by
 have d:(x.event kd).ok:=⟨iN (n:=kd) zO,iN (n:=x.task) (by have:=hx.task;omega),aD,Cl.I2,ym,hx.key,by unfold Wi.event;rw[Oz hkd.2.2];exact nT⟩;have z:=Z1 (λU (A:M w U)=>lB U c (ext T w.heap.size .free) wp g (hg.free.up A) (x.event kd) d hn);obtain⟨l,h⟩:=h;have a:=And.intro ((zi w)) h.B0.drew;have m:=h.B0.lt;have t:=Z1 h.tp;have B:Hid (x.event kd=⟨kd,x.task,0,.zero,.zero,x.key,az⟩):=Z1 (by unfold Wi.event;rw[Oz hkd.2.2]);generalize u:x.event kd=ev at*;have D:(kd==6)=false:=by simpa using hkd.2.2
 clear hkd;clear h hg hx d u
 go_in
 go_upto_region 0 with fail
 refine zH (S:=λU=>M w U/\Blk U p 203 (cr wp l x)) a ?_;refine zQ 4 _ ?_ (hy:=λW hW=>by have F:=rR hW.2;exact zf);refine zQ 8 _ ?_ (hy:=λW hW=>by have G:=rS hW.2;have H:=rT hW.2;exact zf);refine zo 10 λK hK=>?_;go_simp;have b:M w (w.drew.alloc (.cells (⟨0,0,0,.zero,.zero,⟨0,0⟩,az⟩:Vt).arr 79))/\Blk (w.drew.alloc (.cells (⟨0,0,0,.zero,.zero,⟨0,0⟩,az⟩:Vt).arr 79)) p 203 (cr wp l x):=⟨ae a.1 _,a.2.alloc _⟩;have q:=Blk.A8 w.drew 79 (⟨0,0,0,.zero,.zero,⟨0,0⟩,az⟩:Vt).arr rfl;refine zJ hK b ?_;refine zo 11 λK hK=>?_;refine bX ba (.tmp 4) (.tmp 14) rfl w.drew.heap.size 0 zF (⟨kd,x.task,0,.zero,.zero,x.key,az⟩:Vt).arr zF q rfl zP (mE _) ?_;intro v f i;have j:=And.intro (i.below b.1 (OA _)) (i.B0 b.2 (PP m));refine zJ hK j ?_;rw[show bH (⟨0,0,0,.zero,.zero,⟨0,0⟩,az⟩:Vt).arr 0 (⟨kd,x.task,0,.zero,.zero,x.key,az⟩:Vt).arr.toList=(⟨kd,x.task,0,.zero,.zero,x.key,az⟩:Vt).arr by kernel_rfl]at f;have s:=Z2 j f;clear a b j q i f;go_upto_region 3 with fail
 have r:=s.o.1.1.drew;have a:Blk v.drew p 203 (cr wp l x)/\Blk v.drew w.drew.heap.size 79 ev.arr:=⟨s.o.1.2.drew,by rw[B.o];exact s.o.2.drew⟩;refine zH (S:=λU=>Blk U p 203 (cr wp l x)/\Blk U w.drew.heap.size 79 ev.arr) a ?_;refine(zp 3 ?_);refine zq 4 _ ?_ (hy:=λW hW=>by refine bE ba (.tmp 4) ?_ (Y w.drew.heap.size 0) ?_ ev.arr rfl ?_;exact rfl;exact rfl;exact bQ hW.2);refine zo 5 λK hK=>?_;go_simp;refine zm (z.o _ r) λL k=>?_;have y:=And.intro (k.E8 a.1 m t.o) (k.B0 a.2 (OA _));refine zJ hK y ?_;go_wp2;refine zt ?_;exact⟨rfl,bj.box rfl r k⟩
def Gv(T:Nat->Tg)(wp p:Nat)(g:Gs)(x:Wi)(hg:GAt w c T wp g)(h:aO w c T wp p x)(hx:x.ok c)(hn:g.ev.length<=70000):C 345 #[Z p 0,I 6] w λe w'=>e=.returned (.tuple #[])/\bj w w' c T wp (g.note (x.event 6)):=by
 have f:(x.event 6).ok:=⟨iN (n:=6) zO,iN (n:=x.task) (by have:=hx.task;omega),aD,Cl.I2,ym,hx.key,hx.E0⟩;have G:=Z1 (λU (H:M w U)=>lB U c (ext T w.heap.size .free) wp g (hg.free.up H) (x.event 6) f hn);obtain⟨t,h⟩:=h;have b:=And.intro ((zi w)) h.B0.drew;have i:=h.B0.lt;have A:=Z1 h.tp;have L:Hid (x.event 6=⟨6,x.task,0,.zero,.zero,x.key,x.E0⟩):=Z1 (rfl);generalize B:x.event 6=ev at*;clear h hg hx f B
 go_in
 go_upto_region 0 with fail
 refine zH (S:=λU=>M w U/\Blk U p 203 (cr wp t x)) b ?_;refine zQ 4 _ ?_ (hy:=λW hW=>by have N:=rR hW.2;exact zf);refine zQ 8 _ ?_ (hy:=λW hW=>by have O:=rS hW.2;have P:=rT hW.2;exact zf);refine zo 10 λK hK=>?_;go_simp;have d:M w (w.drew.alloc (.cells (⟨0,0,0,.zero,.zero,⟨0,0⟩,az⟩:Vt).arr 79))/\Blk (w.drew.alloc (.cells (⟨0,0,0,.zero,.zero,⟨0,0⟩,az⟩:Vt).arr 79)) p 203 (cr wp t x):=⟨ae b.1 _,b.2.alloc _⟩;have a:=Blk.A8 w.drew 79 (⟨0,0,0,.zero,.zero,⟨0,0⟩,az⟩:Vt).arr rfl;refine zJ hK d ?_;refine zo 11 λK hK=>?_;refine bX ba (.tmp 4) (.tmp 14) rfl w.drew.heap.size 0 zF (⟨6,x.task,0,.zero,.zero,x.key,az⟩:Vt).arr zF a rfl zP (mE _) ?_;intro Q j k;have l:=And.intro (k.below d.1 (OA _)) (k.B0 d.2 (PP i));refine zJ hK l ?_;rw[show bH (⟨0,0,0,.zero,.zero,⟨0,0⟩,az⟩:Vt).arr 0 (⟨6,x.task,0,.zero,.zero,x.key,az⟩:Vt).arr.toList=(⟨6,x.task,0,.zero,.zero,x.key,az⟩:Vt).arr by kernel_rfl]at j;have m:=Z2 l j;clear b d l a k j;have u:=BI m.o.1.2;have v:=m.o.2
 go_wp2_with (first|refine aG gu rfl (.tmp 19) rfl (Y p 8) zF x.E0.arr rfl u ?_|(refine dW gu rfl (.tmp 21) (.tmp 20) rfl w.drew.heap.size 29 zF x.E0.arr zF v rfl (by rw[kF];decide) (lY _) ?_;intro D a q))
 have y:=And.intro (q.below m.o.1.1 (OA _)) (q.B0 m.o.1.2 (PP i));rw[show bH (⟨6,x.task,0,.zero,.zero,x.key,az⟩:Vt).arr 29 x.E0.arr.toList=(⟨6,x.task,0,.zero,.zero,x.key,x.E0⟩:Vt).arr by kernel_rfl]at a;have r:=Z2 y a;clear y q a u v m;go_upto_region 3 with fail
 have z:=r.o.1.1.drew;have b:Blk D.drew p 203 (cr wp t x)/\Blk D.drew w.drew.heap.size 79 ev.arr:=⟨r.o.1.2.drew,by rw[L.o];exact r.o.2.drew⟩;refine zH (S:=λU=>Blk U p 203 (cr wp t x)/\Blk U w.drew.heap.size 79 ev.arr) b ?_;refine(zp 3 ?_);refine zq 4 _ ?_ (hy:=λW hW=>by refine bE ba (.tmp 4) ?_ (Y w.drew.heap.size 0) ?_ ev.arr rfl ?_;exact rfl;exact rfl;exact bQ hW.2);refine zo 5 λK hK=>?_;go_simp;refine zm (G.o _ z) λR s=>?_;have F:=And.intro (s.E8 b.1 i A.o) (s.B0 b.2 (OA _));refine zJ hK F ?_;go_wp2;refine zt ?_;exact⟨rfl,bj.box rfl z s⟩
def Kr(x:Wi)(n:Int):(cr wp vs x).setIfInBounds 3 (I n)=cr wp vs {x with B8:=n}:=rfl
def m9(hc:c.ok)(T:Nat->Tg)(wp p:Nat)(g:Gs)(x:Wi)(hg:GAt w c T wp g)(h:aO w c T wp p x)(hx:x.ok c)(n:Nat)(hn:n<c.st+2)(b:Bool)(th:Int)(hf:(g.lock n).line.length<=900):
  C 341 #[Z p 0,I n,.bool b,I th] w λe w'=>e=.returned (I th)/\aV w w' c T wp (g.ask n x.task b).1 p {x with B8:=if(g.ask n x.task b).2=true then x.B8 else n}:=by
 have z:aq x.task:=by have:=hx.task;constructor<;>omega
 have A:=Z1 (λU (B:M w U)=>yf U c hc T wp g (hg.up B) n hn x.task z b hf);have D:=Z1 h;obtain⟨F,h⟩:=h;have d:=(zi w);have k:=h.B0.drew;have l:=Z1 h.tp;generalize G:(g.ask n x.task b).2=r at*;generalize (g.ask n x.task b).1=L at*;clear h hg hx G hf
 go_in
 go_upto_region 1 with fail
 refine zH (S:=λU=>Blk U p 203 (cr wp F x)) k ?_;refine zQ 3 _ ?_ (hy:=λW hW=>by have N:=iy hW;exact zf);refine zQ 8 _ ?_ (hy:=λW hW=>by have O:=rR hW;exact zf);refine zo 10 λK hK=>?_;go_simp
 (refine(A.o _ d).mono ?_)
 rintro P Q ⟨⟨R,rfl⟩,f⟩;have m:=aV.F4 (D.o.up d) f;have j:=f.O1 k l.o;refine zJ hK j ?_;obtain⟨H,s,t,⟨u,i⟩,v⟩:=m;have a:=Z4 s t i v;have X:=gv i.B0;have f3:=i.B0.frozen 3;clear k j f s t i v
 cases r with
 |true=>
  go_wp2_with fail;go_ret;exact⟨rfl,bc.after d ⟨H,a.o.1,a.o.2.1,⟨u,a.o.2.2.1⟩,a.o.2.2.2⟩⟩
 |false=>
  go_wp2;go_ret;have y:=a.o.2.2.1.B0.B4 3 (I (n:Int));rw[Kr]at y;refine⟨rfl,bc.after d (bc.trans a.o.1 a.o.2.2.2 (aV.own (x':={x with B8:=(n:Int)}) a.o.2.1 a.o.2.2.1 (aI.B4 _ _ _ _) y rfl λe=>?_))⟩
  rcases a.o.2.2.1.D9 with⟨_,q⟩|⟨np,q,_⟩
  ·exact q
  ·rw[e]at q;cases q
def j7(hc:c.ok)(T:Nat->Tg)(wp p:Nat)(g:Gs)(x:Wi)(hg:GAt w c T wp g)(h:aO w c T wp p x)(hx:x.ok c)(n:Nat)(hn:n<c.st+2)(th:Int)(hh:g.held n x.task≠0)(hf:(g.lock n).line.length<=900):
  C 343 #[Z p 0,I n,I th] w λe w'=>e=.returned (I th)/\aV w w' c T wp (g.drop n x.task) p x:=by
 have k:aq x.task:=by have:=hx.task;constructor<;>omega
 have l:=Z1 (λU (m:M w U)=>vD U c hc T wp g (hg.up m) n hn x.task k hh hf);have q:=Z1 h;obtain⟨r,h⟩:=h;have a:=(zi w);have d:=h.B0.drew;have f:=Z1 h.tp;clear h hg hx hf hh
 go_in
 go_upto_region 1 with fail
 refine zH (S:=λU=>Blk U p 203 (cr wp r x)) d ?_;refine zQ 3 _ ?_ (hy:=λW hW=>by have s:=iy hW;exact zf);refine zq 8 _ ?_ (hy:=λW hW=>by have t:=rR hW;exact zf);refine zo 9 λK hK=>?_;go_simp
 (refine(l.o _ a).mono ?_)
 rintro u v ⟨⟨y,rfl⟩,b⟩;have i:=b.O1 d f.o;refine zJ hK i ?_;have j:=Z1 (aV.F4 (q.o.up a) b);clear b;go_wp2;go_ret;exact⟨rfl,bc.after a j.o⟩
def NE(x:Wi)(a b:Int):((cr wp vs x).setIfInBounds 5 (E a)).setIfInBounds 6 (E b)=cr wp vs {x with key:=⟨a,b⟩}:=rfl
def Ks(x:Wi)(b:Bool):(cr wp vs x).setIfInBounds 4 (.bool b)=cr wp vs {x with B3:=b}:=rfl
def eM.nil{w:World}{c:Cg}{wp:Nat}{x:Wi}{vs:Value}(h:eM w c T wp p x vs):vs=.pointer none->x.B6≠5/\x.B6≠6:=λe=>by
 rcases h.D9 with⟨_,q⟩|⟨a,q,_⟩
 ·exact q
 ·rw[e]at q;cases q
def AL(T:Nat->Tg)(wp p:Nat)(g:Gs)(x:Wi)(hg:GAt w c T wp g)(h:aO w c T wp p x)(hx:x.ok c)(hf:g.E5)(k:K2)(r:List K2)(hl:g.q.line=k::r)(hd:k∈g.q.C5)(hd5:x.B6≠5/\x.B6≠6)(hn:g.ev.length<=70000):
  C 342 #[Z p 0] w λe w'=>e=.returned (I 2)/\aV w w' c T wp ({g with q:=g.q.get.1}.note (({x with key:=k}:Wi).event 4)) p {x with key:=k}:=by
 have G:=Z1 (gP w c T wp g hg);have B:Hid (k.ok/\C 349 #[Z wp 10] w λe w'=>e=.returned (.tuple #[k.val,.bool true])/\bj w w' c T wp {g with q:=g.q.get.1}):=Z1 (by
  obtain⟨S,sp,lb,f⟩:=hg;refine⟨f.wq.ok k (by rw[hl];simp),(Dv wp 10 _ S _ g.q k r w f.wq ⟨hf.q.1,hf.q.2.1,hf.q.2.2⟩ hl hd).mono ?_⟩;rintro e w' ⟨X,h2⟩;exact⟨X,f.queue h2⟩)
 have HH:=Z1 h;have v:({g with q:=g.q.get.1}:Gs).ev.length<=70000:=hn;generalize ({g with q:=g.q.get.1}:Gs)=H at*;have HN:=Z1 (λU T' (n:GAt U c T' wp H) (s:aO U c T' wp p {x with key:=k})=>nB U c T' wp p H {x with key:=k} n s ⟨hx.task,hx.B6,hx.B8,B.o.1,hx.D9,hx.E0,hx.done⟩ v 4 zO);have HD:=Z1 hd5;obtain⟨t,u⟩:=k;unfold K2.val K2.arr at B;obtain⟨an,h⟩:=h;have q0:=iy h.B0;clear h hg hx hf hl hd hn v hd5
 go_in
 go_wp2_with fail;refine zY G.o ?_;go_wp2_with fail;refine zm B.o.2 λD y=>?_;clear q0;obtain⟨L,n,s,⟨vs,F⟩,N⟩:=aV.F4 HH.o y;have i:=zh D (.cells #[E t,E u] 58);have z:=Blk.A8 D 58 #[E t,E u] rfl;have a:=(F.up i).B0;obtain⟨d0,d1⟩:=ao z;have q5:=rS a;have q6:=rT a;have f5:=a.frozen 5;have f6:=a.frozen 6;have d:=Z5 n s F N i;clear n s F N y a i z;go_wp2_with fail;have j:=(d.o.2.2.1.more (T':=ext L D.heap.size .free) λb hb=>br L _ hb).up d.o.2.2.2.2;have l:=(j.B0.B4 5 (E t)).B4 6 (E u);rw[NE]at l;obtain⟨T4,O,P,Q,R⟩:=aV.own (x':={x with key:=⟨t,u⟩}) (d.o.2.1.free.up d.o.2.2.2.2) j ((aI.B4 _ _ _ _).trans (aI.B4 _ _ _ _)) l rfl λ_=>HD.o;have m:=Z4 O P Q R;clear O P Q R l j d0 d1 f5 f6 q5 q6;refine zm (HN.o _ _ m.o.2.1 m.o.2.2.1) λw5 A=>?_;have HF:=Z1 (bc.trans d.o.1 d.o.2.2.2.1 (bc.box rfl d.o.2.2.2.2 (bc.trans m.o.1 m.o.2.2.2 (aV.F4 m.o.2.2.1 A))));clear A;go_wp2;go_ret;exact⟨rfl,HF.o⟩
def AM(T:Nat->Tg)(wp p:Nat)(g:Gs)(x:Wi)(hg:GAt w c T wp g)(h:aO w c T wp p x)(hx:x.ok c)(hf:g.E5)(hl:g.q.line=[])(hov:g.q.over=true):
  C 342 #[Z p 0] w λe w'=>e=.returned (I 12)/\aV w w' c T wp g p x:=by
 have f:=Z1 (λU (k:M w U)=>gP U c T wp g (hg.up k));have r:Hid (C 349 #[Z wp 10] w (J (.tuple #[.agg #[E 0,E 0],.bool false]) w)):=Z1 (by
  obtain⟨l,s,t,a⟩:=hg;exact sZ wp 10 _ l _ g.q w a.wq hl)
 have u:Hid (∀U,M w U->C 350 #[Z wp 10] U (J (.bool true) U)):=Z1 λU k=>by
  obtain⟨l,s,t,a⟩:=hg.up k;have:=uG wp 10 _ l _ g.q U a.wq ⟨hf.q.1,hf.q.2.1,hf.q.2.2⟩;rw[hov,hl]at this;exact this
 have m:=Z2 hg h;obtain⟨z,h⟩:=h;have v:=Z1 h.B0;have y:=iy h.B0;clear h hg hx hf hl hov
 go_in
 go_wp2_with fail;refine zY (f.o _ (Oy _ _)) ?_;go_wp2_with fail;refine zm r.o λA i=>?_;have b:=ae i (.cells #[E 0,E 0] 58);have y:=iy (v.o.later b);have d:=Z1 b;clear i b;go_wp2_with fail;refine zY (f.o _ d.o) ?_;go_wp2_with fail;refine zm (u.o _ d.o) λB j=>?_;have n:=Z1 (af d.o j);clear j;go_wp2;go_ret;exact⟨rfl,aV.same m.o.1 m.o.2 n.o⟩
def yn(hc:c.ok)(T:Nat->Tg)(wp p:Nat)(g:Gs)(x:Wi)(hg:GAt w c T wp g)(h:aO w c T wp p x)(hx:x.ok c)(hf:g.E5)(hl:g.q.line=[])(hov:g.q.over=false)(hh:bS g.ln x.task=2):
  C 342 #[Z p 0] w λe w'=>e=.returned (I 1)/\aV w w' c T wp (g.sleep x.task) p {x with B3:=true}:=by
 have m:=Z1 (λU (u:M w U)=>gP U c T wp g (hg.up u));have P:Hid (C 349 #[Z wp 10] w (J (.tuple #[.agg #[E 0,E 0],.bool false]) w)):=Z1 (by
  obtain⟨v,Q,R,d⟩:=hg;exact sZ wp 10 _ v _ g.q w d.wq hl)
 have X:Hid (∀U,M w U->C 350 #[Z wp 10] U (J (.bool false) U)):=Z1 λU u=>by
  obtain⟨v,Q,R,d⟩:=hg.up u;have:=uG wp 10 _ v _ g.q U d.wq ⟨hf.q.1,hf.q.2.1,hf.q.2.2⟩;rw[hov,hl]at this;exact this
 have B:aq x.task:=by have:=hx.task;constructor<;>omega
 have HS:=Z1 (λU D (a:GAt U c D wp g)=>Dy U c hc D wp g a x.task B hh (OJ hf.line zP) (OJ hf.B3 zP));have F:=Z2 hg h;obtain⟨vs,h⟩:=h;have y:=Z1 h;have z:=iy h.B0;clear h hg hx hf hl hov B hh
 go_in
 go_wp2_with fail;refine zY (m.o _ (Oy _ _)) ?_;go_wp2_with fail;refine zm P.o λw2 n=>?_;have f:=ae n (.cells #[E 0,E 0] 58);have z:=iy (y.o.B0.later f);have i:=Z1 f;clear n f;go_wp2_with fail;refine zY (m.o _ i.o) ?_;go_wp2_with fail;refine zm (X.o _ i.o) λw5 r=>?_;have s:=Z1 (af i.o r);clear r z;go_upto_region 8 with fail
 have j:=s.o.drew;have A:=(y.o.B0.later s.o).drew;refine zH (S:=λU=>Blk U p 203 (cr wp vs x)) A ?_;refine zQ 3 _ ?_ (hy:=λW hW=>by have z:=iy hW;exact zf);refine zq 7 _ ?_ (hy:=λW hW=>by have q1:=rR hW;exact zf);refine zo 8 λK hK=>?_;go_simp
 (refine(HS.o _ _ (F.o.1.up j)).mono ?_)
 rintro e6 w6 ⟨⟨er,rfl⟩,k⟩;have t:=k.O1 A y.o.tp;refine zJ hK t ?_;obtain⟨T6,G,H,⟨ac,l⟩,L⟩:=aV.F4 (F.o.2.up j) k;have q4:=gw l.B0;have f4:=l.B0.frozen 4;have b:=Z4 G H l L;have N:=Z1 j;clear G H l L k A t;go_wp2;go_ret;have O:=b.o.2.2.1.B0.B4 4 (.bool true);rw[Ks]at O;exact⟨rfl,bc.after N.o (bc.trans b.o.1 b.o.2.2.2 (aV.own (x':={x with B3:=true}) b.o.2.1 b.o.2.2.1 (aI.B4 _ _ _ _) O rfl b.o.2.2.1.nil))⟩
def AN(hc:c.ok)(T:Nat->Tg)(sp:Nat)(v:Value)(tp lb:Nat)(S:Sto)(m:Mp)(h:bU w c T sp v tp lb S)(hr:et c S m)(k:K2)(hk:k.ok)(a:Adv)(ha:a.ok)(hi:homeN c k<S.rows.length)(hg:ap m.ls k≠none):
  C 353 #[Z (S.rows[homeN c k].p) 0,k.val,a.val] w λe w'=>e=.returned (I 0)/\dJ w w' c T sp (eo c m k a).1:=by
 have d:=hr.row _ hi;have b:=d.get hr.D7
 cases hz:ap S.rows[homeN c k].zs k with
 |none=>rw[hz]at b;exact absurd b hg
 |some z=>
  rw[hz]at b;have f:=d.C6 hr.C6;have i:=d.length;have j:=hr.E5 (homeN c k);have r:=Cg.small hc;refine(CE w c hc T (homeN c k) _ _ _ _ (h.F1 _ hi) f zO k hk a z hz).mono ?_;rintro e w' ⟨l,n⟩;refine⟨l,?_⟩;have o:(eo c m k a).1={m with ls:=aR m.ls k (jI c z.x a)}:=by
   unfold eo;rw[b];rfl
  rw[o];refine h.put hr hc hk hi (uR (f _ (bR hz)) ha) (λq=>?_) n;have g:=q.1;rw[hz]at g
  cases g
def yo(hc:c.ok)(T:Nat->Tg)(wp p:Nat)(g:Gs)(x:Wi)(hg:GAt w c T wp g)(h:aO w c T wp p x)(hx:x.ok c)(hk:ap g.mp.ls x.key≠none)(hn:g.ev.length<=70000):
  C 347 #[Z p 0] w λe w'=>e=.returned (I 9)/\aV w w' c T wp ({g with mp:=(eo c g.mp x.key x.E0).1}.note (x.event 6)) p x:=by
 obtain⟨A,v,B,D,S,F,y,m,G,_⟩:=hg.storeAt;have H:=m.J4 hc x.key;have hs:=Cg.small hc;have L:=Z1 F;have N:=Z1 (λU (d:M w U)=>iP U c hc T wp p g x (hg.up d) (h.up d) hx.key);have O:=Z1 (λU (d:M w U)=>i8 U c T A v B D S (y.up d) (by rw[m.n];exact hs.2.1) (homeN c x.key) H);have q:=Z1 (λU (d:M w U)=>(AN U c hc T A v B D S g.mp (y.up d) m x.key hx.key x.E0 hx.E0 H hk).mono (λe w' ⟨q1,q2⟩=>And.intro q1 (G U w' _ d q2)));have P:=Z1 (λU T' (a1:GAt U c T' wp {g with mp:=(eo c g.mp x.key x.E0).1}) (a2:aO U c T' wp p x)=>Gv U c T' wp p _ x a1 a2 hx hn);have HH:=Z1 h;generalize ({g with mp:=(eo c g.mp x.key x.E0).1}:Gs)=g1 at*;generalize S.rows[homeN c x.key].p=np at*;obtain⟨vs,h⟩:=h;have Q:=Z1 h.tp;have b:=(zi w);have z:=And.intro b h.B0.drew;have j:=z.2;have r:x.E0.val=.agg x.E0.arr:=rfl;have s:x.key.val=.agg #[E x.key.hi,E x.key.lo]:=rfl;rw[r,s]at q;clear h hg hx F y m G hk hn r s
 go_in
 go_upto_region 1 with fail
 refine zH (S:=λU=>Blk U p 203 (cr wp vs x)) j ?_;refine zQ 3 _ ?_ (hy:=λW hW=>by have q0:=iy hW;exact zf);refine zQ 11 _ ?_ (hy:=λW hW=>by have q5:=rS hW;have q6:=rT hW;exact zf);refine zq 15 _ ?_ (hy:=λW hW=>by refine bE gu (.tmp 17) ?_ (Y p 8) ?_ x.E0.arr rfl ?_;exact rfl;exact rfl;exact BI hW);refine zo 4 λK hK=>?_;go_simp;refine zY (L.o _ b) ?_;refine zJ hK j ?_;refine zo 6 λK hK=>?_;go_simp;refine zm (N.o _ b) λw2 k=>?_;have a:=And.intro (af b k) (z.2.later k);have f:=a.2;refine zJ hK f ?_;refine zo 7 λK hK=>?_;go_simp;refine zY (O.o _ a.1) ?_;refine zJ hK f ?_;refine zo 16 λK hK=>?_;go_simp;refine zm (q.o _ a.1) λw4 l=>?_;have t:=l.O1 a.2 Q.o;refine zJ hK t ?_;obtain⟨T4,R,X,b3,b4⟩:=aV.F4 (HH.o.up a.1) l;have i:=Z5 R X b3 b4 a.1;clear R X b3 b4 l z a t k b j f;go_wp2_with fail;refine zm (P.o _ _ i.o.2.1 i.o.2.2.1) λw5 u=>?_;have HF:=Z1 (bc.after i.o.2.2.2.2 (bc.trans i.o.1 i.o.2.2.2.1 (aV.F4 i.o.2.2.1 u)));clear u;go_wp2;go_ret;exact⟨rfl,HF.o⟩
def MJ(x:Wi)(n:Nat):(cr wp vs x).setIfInBounds 13 (I (n:Int))=cr wp vs {x with done:=n}:=rfl
def AO(hc:c.ok)(T:Nat->Tg)(wp p:Nat)(g:Gs)(x:Wi)(hg:GAt w c T wp g)(h:aO w c T wp p x)(hx:x.ok c)(hf:g.E5)(hb:x.key∈g.q.busy)(hn:g.ev.length<=70000):
  C 348 #[Z p 0] w λe w'=>e=.returned (I 14)/\aV w w' c T wp ((g.note (x.event 7)).F6 x.key) p {x with done:=x.done+1}:=by
 have v:=Z1 (nB w c T wp p g x hg h hx hn 7 zO);have m:=Z1 (λU y (B:GAt U c y wp (g.note (x.event 7)))=>Gm U c hc y wp _ B ⟨hf.line,hf.B3,hf.tasks,hf.q,hf.B9⟩ x.key hx.key hb);have D:=Z1 h;have G:=hx.done;have O:IntKind.i64.wrap ((x.done:Int)+1)=((x.done+1:Nat):Int):=by rw[OX];omega
 have n:x.key.val=.agg #[E x.key.hi,E x.key.lo]:=rfl;rw[n]at m;clear h hg hx hf hb hn n
 go_in
 go_wp2_with fail;refine zm v.o λz r=>?_;obtain⟨F,f,i,⟨A,b⟩,j⟩:=aV.F4 D.o r;have k:=Z4 f i b j;have d:=(zi z);have u:=b.B0.drew;clear f i b j r;go_upto_region 2 with fail
 refine zH (S:=λU=>Blk U p 203 (cr wp A x)) u ?_;refine zQ 3 _ ?_ (hy:=λW hW=>by have P:=iy hW;exact zf);refine zq 7 _ ?_ (hy:=λW hW=>by have Q:=rS hW;have R:=rT hW;exact zf);refine zo 8 λK hK=>?_;go_simp
 (refine(m.o _ _ (k.o.2.1.up d)).mono ?_)
 rintro X w2 ⟨⟨bb,rfl⟩,l⟩;have s:=l.O1 u k.o.2.2.1.tp;refine zJ hK s ?_;obtain⟨T2,f,i,⟨H,b⟩,j⟩:=aV.F4 (show aO z.drew c F wp p x from⟨A,k.o.2.2.1.up d⟩) l;have L:=Og b.B0;have N:=b.B0.frozen 13;have a:=Z5 f i b j d;clear f i b j l u s d;go_wp2;go_ret;have t:=a.o.2.2.1.B0.B4 13 (I ((x.done+1:Nat):Int));rw[MJ]at t;exact⟨rfl,bc.trans k.o.1 k.o.2.2.2 (bc.after a.o.2.2.2.2 (bc.trans a.o.1 a.o.2.2.2.1 (aV.own (x':={x with done:=x.done+1}) a.o.2.1 a.o.2.2.1 (aI.B4 _ _ _ _) t rfl a.o.2.2.1.nil)))⟩
def NF(x:Wi)(a:Adv):bH (cr wp vs x) 8 a.arr.toList=cr wp vs {x with E0:=a}:=rfl
def Kt{c:Cg}(hc:c.ok){x:Ld}(hf:x.C6 c){A2:Option Addr}{n2:Nat}{w:World}(h1:an w w.heap.size 2 A n (smps x.D2))(h2:an w w.heap.size 5 A2 n2 (advs x.C0))(hn:n=x.D2.length)(hn2:n2=x.C0.length):wg x.D8 x.D2 x.C0 A A2 n n2 w:=
 ⟨hf.L0,h1,by have:=hf.E5;have:=Cg.small hc;omega,mU hf,h2,by have:=hf.C0;have:=Cg.small hc;omega,hf.advs⟩
def yq(w w':World)(c:Cg)(T:Nat->Tg)(wp p:Nat)(g:Gs)(x:Wi)(e:Ending):Prop:=(x.D9.E9=true/\fW x.D9.D8 x.D9.D2=0->e=.returned (I 7)/\aV w w' c T wp g p {x with E0:=od x.D9.D8 x.D9.D2 x.D9.C0})/\(¬(x.D9.E9=true/\fW x.D9.D8 x.D9.D2=0)->e=.returned (I 10)/\aV w w' c T wp g p x)
structure Oh(w U:World)(p:Nat)(xs:Array Value)(df:Adv)(de:Int)(v5 v6:Value):Prop where
 err:v6=I de
 ptr:∃ab,v5=Z ab 0/\Blk U ab 62 df.arr
 below:M w U
 B0:Blk U p 203 xs
def vY(hc:c.ok)(T:Nat->Tg)(wp p:Nat)(g:Gs)(x:Wi)(hg:GAt w c T wp g)(h:aO w c T wp p x)(hx:x.ok c)(h6:x.B6=6):
  C 346 #[Z p 0] w λe w'=>yq w w' c T wp p g x e:=by
 have N:=Z2 hg h;obtain⟨vs,h⟩:=h;obtain⟨D,rfl,F⟩:∃D,vs=Z D 0/\bC w c D x.D9 true (λb=>T b=.fz):=by
  rcases h.D9 with⟨_,_,q⟩|q
  ·exact absurd h6 q
  ·exact q
 have hs:=Cg.small hc;have hf:=hx.D9;have G:=Z1 (Ah w c D x.D9 true _ F);have am:=Z1 (λU (hU:M w U)=>px U c D x.D9 true _ (F.up hU) (by have:=hf.E5;omega));have O:=Z1 (λU (hU:M w U)=>uC U c D x.D9 true _ (F.up hU));have y:=Z1 (λU (A A2:Option Addr) (k k2:Nat) (q1:an U U.heap.size 2 A x.D9.D2.length (smps x.D9.D2)) (q2:an U U.heap.size 5 A2 x.D9.C0.length (advs x.D9.C0))=>Mc x.D9.D8 x.D9.D2 x.D9.C0 A A2 _ k _ k2 U (Kt hc hf q1 q2 rfl rfl));have HW:=Z1 h;have q7:=DE h.B0;have be:Hid (∀w' e,x.D9.E9=true->fW x.D9.D8 x.D9.D2=0->e=.returned (I 7)->aV w w' c T wp g p {x with E0:=rt x.D9.D8 x.D9.D2 x.D9.C0}->yq w w' c T wp p g x e):=Z1 λw' e a1 a2 a3 a4=>⟨λ_=>⟨a3,by have h9:rt x.D9.D8 x.D9.D2 x.D9.C0=od x.D9.D8 x.D9.D2 x.D9.C0:=by{unfold rt;rw[OB a2]};rw[<-h9];exact a4⟩,λq=>absurd ⟨a1,a2⟩ q⟩;have ao:Hid (∀w' e,¬(x.D9.E9=true/\fW x.D9.D8 x.D9.D2=0)->e=.returned (I 10)->aV w w' c T wp g p x->yq w w' c T wp p g x e):=Z1 λw' e a1 a3 a4=>⟨λq=>absurd q a1,λ_=>⟨a3,a4⟩⟩;generalize bg:fW x.D9.D8 x.D9.D2=de at*;generalize bh:rt x.D9.D8 x.D9.D2 x.D9.C0=v at*;generalize bj:x.D9.E9=ru at*;generalize smps x.D9.D2=ss at*;generalize x.D9.D2.length=n1 at*;generalize advs x.D9.C0=aa at*;generalize x.D9.C0.length=n2 at*;obtain⟨⟨p0,p1,p2,p3,p4,p5⟩,P⟩:∃q:Pl,q=x.D9.D8:=⟨_,rfl⟩;rw[<-P]at G y;unfold Pl.val Pl.arr at G y;simp only at G y;clear h F hf hg hx h6 hs bg bh bj P
 go_in
 go_wp2_with fail;refine zm G.o λw1 ap=>?_;go_upto_region 2 with fail
 have aq:=Blk.A8 w1 51 #[I p0,I p1,I p2,I p3,I p4,I p5] rfl;have Q:=ae ap (.cells #[I p0,I p1,I p2,I p3,I p4,I p5] 51);generalize hV:w1.alloc (.cells #[I p0,I p1,I p2,I p3,I p4,I p5] 51)=V at*;generalize bl:w1.heap.size=pb at*;have a:=And.intro Q.drew (And.intro ((HW.o.B0.later Q).drew) aq.drew);clear hV bl aq ap Q q7;have ca:=Z1 (show p<w.heap.size from HW.o.B0.lt);go_cut [5,6] (λv5 v6 wx=>Oh w wx p (cr wp (Z D 0) x) v de v5 v6)
 case first=>
  refine ay (S:=λU=>M w U/\Blk U p 203 (cr wp (Z D 0) x)/\Blk U pb 51 #[I p0,I p1,I p2,I p3,I p4,I p5]) zR a ?_;generalize V.drew=U at*;simp only[zD,zE,Nat.reduceAdd,zG];refine zQ 0 _ ?_ (hy:=λW hW=>by obtain⟨b0,b1,b2,b3,b4,b5⟩:=bi hW.2.2;exact zf);refine zQ 4 _ ?_ (hy:=λW hW=>by have q7:=DE hW.2.1;exact zf);refine zq 9 _ ?_ (hy:=λW hW=>by have q7:=DE hW.2.1;exact zf);refine nQ 5 15 zR rfl rfl zF zF (λK hK=>?_) (λK hK=>?_)
  ·skip
   go_simp;refine zX (am.o _ a.1) λv3 U z=>?_;obtain⟨R,X,rfl,_,_,l⟩:=z.form;have s:=z.below;try have d:=d.later s
   have a:=And.intro (af a.1 s) (And.intro (a.2.1.later s) (a.2.2.later s));clear s z;refine zJ hK a ?_;refine nQ 10 15 zR rfl rfl zF zF (λK hK=>?_) (λK hK=>?_)
   ·skip
    go_simp;refine zX (O.o _ a.1) λv4 U t=>?_;obtain⟨H,L,rfl,_,_,r⟩:=t.form;have j:=t.below;have l:=l.up j;try have d:=d.later j
    have a:=And.intro (af a.1 j) (And.intro (a.2.1.later j) (a.2.2.later j));clear j t;refine zJ hK a ?_;refine nQ 11 15 zR rfl rfl zF zF (λK hK=>?_) (λK hK=>?_)
    ·skip
     go_simp;refine zm (y.o _ R H X L l r) λU i=>?_;try have d:=d.later i
     have a:=And.intro (af a.1 i) (And.intro (a.2.1.later i) (a.2.2.later i));clear i;refine zJ hK a ?_;refine zo 15 λK hK=>?_;go_simp;have f:=zh U (.cells az.arr 62);have d:=Blk.A8 U 62 az.arr rfl;try have l:=l.up f
     try have r:=r.up f
     have m:=And.intro (PP a.2.1.lt) (And.intro (PP a.2.2.lt) a.1.size);have a:=And.intro (af a.1 f) (And.intro (a.2.1.later f) (a.2.2.later f));clear f;refine zJ hK a ?_;refine zo 16 λK hK=>?_;refine bX gu (.tmp 5) (.tmp 28) rfl _ 0 zF v.arr zF d rfl zP (lY _) ?_;intro w7 u n;have a:=And.intro (n.below a.1 m.2.2) (And.intro (n.B0 a.2.1 m.1) (n.B0 a.2.2 m.2.1));rw[show bH az.arr 0 v.arr.toList=v.arr by kernel_rfl]at u;refine zJ hK a ?_;go_wp2;go_meet;exact⟨rfl,⟨_,rfl,u⟩,a.1,a.2.1⟩
    ·skip
     go_simp;have f:=zh U (.cells az.arr 62);have d:=Blk.A8 U 62 az.arr rfl;try have l:=l.up f
     try have r:=r.up f
     have m:=And.intro (PP a.2.1.lt) (And.intro (PP a.2.2.lt) a.1.size);have a:=And.intro (af a.1 f) (And.intro (a.2.1.later f) (a.2.2.later f));clear f;refine zJ hK a ?_;refine zo 11 λK hK=>?_;go_simp;refine zm (y.o _ R H X L l r) λU i=>?_;try have d:=d.later i
     have a:=And.intro (af a.1 i) (And.intro (a.2.1.later i) (a.2.2.later i));clear i;refine zJ hK a ?_;refine zo 16 λK hK=>?_;refine bX gu (.tmp 5) (.tmp 28) rfl _ 0 zF v.arr zF d rfl zP (lY _) ?_;intro w7 u n;have a:=And.intro (n.below a.1 m.2.2) (And.intro (n.B0 a.2.1 m.1) (n.B0 a.2.2 m.2.1));rw[show bH az.arr 0 v.arr.toList=v.arr by kernel_rfl]at u;refine zJ hK a ?_;go_wp2;go_meet;exact⟨rfl,⟨_,rfl,u⟩,a.1,a.2.1⟩
   ·skip
    go_simp;have f:=zh U (.cells az.arr 62);have d:=Blk.A8 U 62 az.arr rfl;try have l:=l.up f
    try have r:=r.up f
    have m:=And.intro (PP a.2.1.lt) (And.intro (PP a.2.2.lt) a.1.size);have a:=And.intro (af a.1 f) (And.intro (a.2.1.later f) (a.2.2.later f));clear f;refine zJ hK a ?_;refine zo 10 λK hK=>?_;go_simp;refine zX (O.o _ a.1) λv4 U t=>?_;obtain⟨H,L,rfl,_,_,r⟩:=t.form;have j:=t.below;have l:=l.up j;try have d:=d.later j
    have a:=And.intro (af a.1 j) (And.intro (a.2.1.later j) (a.2.2.later j));clear j t;refine zJ hK a ?_;refine zo 11 λK hK=>?_;go_simp;refine zm (y.o _ R H X L l r) λU i=>?_;try have d:=d.later i
    have a:=And.intro (af a.1 i) (And.intro (a.2.1.later i) (a.2.2.later i));clear i;refine zJ hK a ?_;refine zo 16 λK hK=>?_;refine bX gu (.tmp 5) (.tmp 28) rfl _ 0 zF v.arr zF d rfl zP (lY _) ?_;intro w7 u n;have a:=And.intro (n.below a.1 m.2.2) (And.intro (n.B0 a.2.1 m.1) (n.B0 a.2.2 m.2.1));rw[show bH az.arr 0 v.arr.toList=v.arr by kernel_rfl]at u;refine zJ hK a ?_;go_wp2;go_meet;exact⟨rfl,⟨_,rfl,u⟩,a.1,a.2.1⟩
  ·skip
   go_simp;have f:=zh U (.cells az.arr 62);have d:=Blk.A8 U 62 az.arr rfl;try have l:=l.up f
   try have r:=r.up f
   have m:=And.intro (PP a.2.1.lt) (And.intro (PP a.2.2.lt) a.1.size);have a:=And.intro (af a.1 f) (And.intro (a.2.1.later f) (a.2.2.later f));clear f;refine zJ hK a ?_;refine zo 5 λK hK=>?_;go_simp;refine zX (am.o _ a.1) λv3 U z=>?_;obtain⟨R,X,rfl,_,_,l⟩:=z.form;have s:=z.below;try have d:=d.later s
   have a:=And.intro (af a.1 s) (And.intro (a.2.1.later s) (a.2.2.later s));clear s z;refine zJ hK a ?_;refine zo 10 λK hK=>?_;go_simp;refine zX (O.o _ a.1) λv4 U t=>?_;obtain⟨H,L,rfl,_,_,r⟩:=t.form;have j:=t.below;have l:=l.up j;try have d:=d.later j
   have a:=And.intro (af a.1 j) (And.intro (a.2.1.later j) (a.2.2.later j));clear j t;refine zJ hK a ?_;refine zo 11 λK hK=>?_;go_simp;refine zm (y.o _ R H X L l r) λU i=>?_;try have d:=d.later i
   have a:=And.intro (af a.1 i) (And.intro (a.2.1.later i) (a.2.2.later i));clear i;refine zJ hK a ?_;refine zo 16 λK hK=>?_;refine bX gu (.tmp 5) (.tmp 28) rfl _ 0 zF v.arr zF d rfl zP (lY _) ?_;intro w7 u n;have a:=And.intro (n.below a.1 m.2.2) (And.intro (n.B0 a.2.1 m.1) (n.B0 a.2.2 m.2.1));rw[show bH az.arr 0 v.arr.toList=v.arr by kernel_rfl]at u;refine zJ hK a ?_;go_wp2;go_meet;exact⟨rfl,⟨_,rfl,u⟩,a.1,a.2.1⟩
 case rest=>
  obtain⟨rfl,⟨ab,rfl,d⟩,ar,au⟩:=hcut;have HB:=Z3 ar au d;clear d ar au a;by_cases B:ru=true/\de=0
  ·obtain⟨rfl,rfl⟩:=B;have bn:=bQ HB.o.2.2;have bo:=HB.o.2.1
   go_wp2_with (first|refine aG gu rfl (.tmp 5) rfl (Y ab 0) zF v.arr rfl bn ?_|(refine dW gu rfl (.tmp 39) (.tmp 37) rfl p 8 zF v.arr zF bo rfl (by show 8+5<=14;decide) (lY _) ?_;intro w8 av bp))
   go_ret;rw[NF]at av;have hb:=HB.o.1;exact be.o _ _ zS zS rfl (bc.after hb (aV.own (x':={x with E0:=v}) (N.o.1.up hb) (HW.o.up hb) bp av rfl λe=>by cases e))
  ·have HY:=Z1 B
   cases ru with
   |false=>
    clear B;go_wp2;go_ret;exact ao.o _ _ HY.o rfl (aV.same N.o.1 N.o.2 HB.o.1)
   |true=>
    have hz:(de !=0)=true:=by
     have:de≠0:=λe=>B ⟨rfl,e⟩
     simpa using this
    clear B;go_wp2;go_ret;exact ao.o _ _ HY.o rfl (aV.same N.o.1 N.o.2 HB.o.1)
def Gw{α:Type}{l:List (K2×α)}{k:K2}{v:α}(h:ap l k=some v):aR l k v=l:=by
 induction l with
 |nil=>cases h
 |cons e r ih=>
  unfold ap at h;unfold aR;by_cases a:e.1=k
  ·rw[OB a]at h;rw[OB a];injection h with h;rw[<-a,<-h]
  ·rw[Oz a]at h;rw[Oz a,ih h]
def DF(hc:c.ok)(T:Nat->Tg)(sp:Nat)(v:Value)(tp lb:Nat)(S:Sto)(m:Mp)(h:bU w c T sp v tp lb S)(hr:et c S m)(k:K2)(hi:homeN c k<S.rows.length)(z:Nd)(hz:ap S.rows[homeN c k].zs k=some z):
  C 318 #[Z z.p 0] w λe w'=>e=.returned (Z z.p 0)/\∃T',aW T T' w.heap.size/\eH w' c T' sp m/\ag (λb=>eE (T b)) w w'/\bC w' c z.p z.x true (λb=>T' b=.fz):=by
 have d:=h.F1 _ hi;have B:=d.nodes _ (bR hz);refine(xm w c z.p z.x z.fz _ (B.more (G:=λb=>T b=z.tag k/\b<w.heap.size) λb g e=>⟨e,g⟩)).mono ?_;rintro e w' ⟨h1,h2,N⟩;refine⟨h1,gr T w.heap.size [k],?_⟩;have o:∀b,z.fz=false/\b=z.p->T b=.nd k:=λb ⟨f,i⟩=>by
  have:=B.own;rw[i,this];unfold Nd.tag;rw[f];rfl
 have X:∀b,b<w.heap.size->gr T w.heap.size [k] b=T b\/∃a,homeN c a=homeN c k/\T b=.nd a/\gr T w.heap.size [k] b=.fz:=λb g=>by
  cases e:T b with
  |nd a=>
   rw[gZ T _ g e];by_cases A:a=k
   ·subst A;exact .inr ⟨a,rfl,rfl,zS⟩
   ·left;simp[A]
  |_=>left;rw[eq T _ g (by rw[e];intro k e;cases e),e]
 have r:∀b,b<w.heap.size->(∀a,T b=.nd a->a≠k)->gr T w.heap.size [k] b=T b:=λb g A=>by
  cases e:T b with
  |nd a=>rw[gZ T _ g e,Oz (by simpa using A a e)]
  |_=>rw[eq T _ g (by rw[e];intro k e;cases e),e]
 have s:bC w' c z.p z.x true (λb=>gr T w.heap.size [k] b=.fz):=h2.more λb _ ⟨f,i⟩=>by
  unfold Nd.tag at f;by_cases hf:z.fz=true
  ·rw[OB hf]at f;rw[r b i (λa q=>by rw[f]at q;cases q),f]
  ·rw[Oz hf]at f;rw[gZ T _ i f];simp
 have D:=d.at_.D7;have O:iT (aR S.rows[homeN c k].zs k ⟨z.p,z.x,true⟩)=iT S.rows[homeN c k].zs:=by
  rw[<-xb];exact Gw (by rw[ji,hz];rfl)
 have F:ag (λb=>T b=.st (homeN c k)\/∃a,homeN c a=homeN c k/\T b=.nd a) w w':=N.C3 λb e=>.inr ⟨k,rfl,o b e⟩;have l:=d.at_.B7 N (λe=>by have:=o _ e;rw[d.tp]at this;cases this) (λe=>by have:=o _ e;rw[d.tm]at this;cases this);have P:cL w' c (gr T w.heap.size [k]) (homeN c k) S.rows[homeN c k].p S.rows[homeN c k].mb S.rows[homeN c k].C7 (aR S.rows[homeN c k].zs k ⟨z.p,z.x,true⟩):=by
  refine⟨⟨l.B0,by rw[O];exact l.map⟩,?_,?_,λy Q=>?_⟩
  ·rw[r _ d.at_.lt.1 (λa q=>by rw[d.tp]at q;cases q)];exact d.tp
  ·rw[r _ d.at_.lt.2 (λa q=>by rw[d.tm]at q;cases q)];exact d.tm
  ·rcases kt D Q with rfl|⟨t,ab⟩
   ·exact s
   ·have ac:=(d.nodes y t).more (G:=λb=>T b=y.2.tag y.1/\b<w.heap.size) λb g e=>⟨e,g⟩;have H:∀b,T b=y.2.tag y.1->T b≠.nd k:=λb f i=>ab (Fs (f.symm.trans i));refine(ac.B7 N λb f i=>H b f.1 (o b i)).more λb _ f=>?_;rw[r b f.2 λa q q2=>H b f.1 (q2▸q)];exact f.1
 have R:=h.one (λj h z hz=>(hr.row j h).homes z hz) hi P X F;have U:lds (aR S.rows[homeN c k].zs k ⟨z.p,z.x,true⟩)=lds S.rows[homeN c k].zs:=by
  rw[tO];exact Gw (by rw[tP,hz];rfl)
 refine⟨λb g=>(X b g).imp id λ⟨a,_,f,i⟩=>⟨a,f,i⟩,⟨v,tp,lb,_,R,?_⟩,F.C3 λb e=>?_,s⟩
 ·have hl:(S.setRow (homeN c k) S.rows[homeN c k].C7 (aR S.rows[homeN c k].zs k ⟨z.p,z.x,true⟩)).rows.length=S.rows.length:=QF _ _ _;refine⟨hl.trans hr.n,λj hj=>?_,hr.D7,hr.O2,hr.C6,hr.E5,hr.over,hr.G8,hr.cut⟩;have L:j<S.rows.length:=by rw[<-hl];exact hj
  rw[fN L hj];by_cases e:homeN c k=j
  ·subst e;rw[OB rfl];have u:=hr.row _ hi;refine⟨λy Q=>?_,?_⟩
   ·rcases kt D Q with rfl|⟨t,_⟩
    ·rfl
    ·exact u.homes y t
   ·show(cH c m.ls (homeN c k)).Perm (lds (aR S.rows[homeN c k].zs k ⟨z.p,z.x,true⟩));rw[U];exact u.part
  ·rw[Oz e];exact hr.row j L
 ·rcases e with e|⟨a,_,e⟩<;>rw[e]<;>trivial
def iV(x:Wi):((cr wp vs x).setIfInBounds 3 (I (-1))).setIfInBounds 4 (.bool false)=cr wp vs x.y:=rfl
def MK(x:Wi)(n:Nat):(cr wp vs x).setIfInBounds 2 (I (n:Int))=cr wp vs {x with B6:=n}:=rfl
def okY{c:Cg}{x:Wi}(h:x.ok c):x.y.ok c:=⟨h.task,h.B6,.inl rfl,h.key,h.D9,h.E0,h.done⟩
structure WsI(w U:World)(c:Cg)(T T':Nat->Tg)(wp p:Nat)(g:Gs)(x:Wi):Prop where
 tag:aW T T' w.heap.size
 g_:GAt U c T' wp g
 at_:aO U c T' wp p x.y
 B7:ag (λb=>eN (T b)\/b=p) w U
def WsI.fin{w U:World}{c:Cg}{T':Nat->Tg}{wp:Nat}{g:Gs}{x x':Wi}(h:WsI w U c T T' wp p g x)(h2:aV U w' c T' wp g' p x'):aV w w' c T wp g' p x':=bc.trans h.tag h.B7 h2
def aV.B6{w:World}{c:Cg}{wp:Nat}{g:Gs}{x:Wi}{vs:Value}(hg:GAt w c T wp g)(h:eM w c T wp p x vs)(d:Nat)(hd:vs=.pointer none->d≠5/\d≠6)(hw:w'=w.setCell (Y p 2) (I (d:Int))):aV w w' c T wp g p {x with B6:=d}:=by
 subst hw;have a:=h.B0.B4 2 (I (d:Int));rw[MK]at a;exact aV.own hg h (aI.B4 _ _ _ _) a rfl hd
def Ku(hc:c.ok)(T:Nat->Tg)(wp p:Nat)(g:Gs)(x:Wi)(hg:GAt w c T wp g)(h:aO w c T wp p x)(hx:x.ok c)(hrd:x.ready c g=true)(hk:x.B6=0)(hf:(g.lock ((c.st+1:Nat):Int)).line.length<=900):C 339 #[Z p 0] w λe w'=>e=.returned (.tuple #[])/\aV w w' c T wp (aM c g x).1 p (aM c g x).2:=by
 have v:=Z1 (ch w c hc T wp p g x hg h hx);rw[hrd]at v;have r:c.st+1<c.st+2:=zO;obtain⟨A,B⟩:homeN c x.key<c.st+2/\x.home c=((homeN c x.key:Nat):Int):=⟨by have:=cJ hc x.key;omega,cy hc _⟩;have P:Hid (aM c g x=((g.ask ((c.st+1:Nat):Int) x.task true).1,{x with B8:=if(g.ask ((c.st+1:Nat):Int) x.task true).2=true then -1 else((c.st+1:Nat):Int),B3:=false,B6:=1})):=Z1 (by rw[qo hk,cW];rfl);have Q:=Z1 (λU b (d:GAt U c b wp g) (f:aO U c b wp p x.y)=>m9 U c hc b wp p g x.y d f (okY hx) (c.st+1) r true 1 hf);have D:=Z1 (λU b (d:GAt U c b wp g) (f:aO U c b wp p x.y)=>iO U c hc b wp p g x.y d f);rw[cW]at D;clear hf;obtain⟨vs,h⟩:=h;have F:=Z2 hg h;have s:=hk;have HK:=Z1 s;clear hg h hrd hx s r A
 go_in
 go_wp2_with fail;refine zm v.o λw1 i=>?_;have a:=F.o.2.up i;have z:=dH a.B0;rw[hk]at z;have R:=gv a.B0;have S:=gw a.B0;have X:=a.B0.frozen 3;have f4:=a.B0.frozen 4;have j:=Z2 i a;clear a i v hk B;go_wp2_with fail;have k:=(j.o.2.B0.B4 3 (I (-1))).B4 4 (.bool false);rw[iV]at k;obtain⟨T2,d,f,G,H⟩:=bc.after j.o.1 (aV.own (x':=x.y) (F.o.1.up j.o.1) j.o.2 ((aI.B4 _ _ _ _).trans (aI.B4 _ _ _ _)) k rfl j.o.2.nil);have l:Hid (WsI w _ c T T2 wp p g x):=Z1 ⟨d,f,G,H⟩;clear d f G H k z R S X f4;refine zm (D.o _ _ l.o.g_ l.o.at_) λw2 t=>?_;have m:=Z1 t;clear t;go_wp2_with fail;refine zm (Q.o _ _ (l.o.g_.up m.o) (l.o.at_.up m.o)) λw3 u=>?_;have HN:=Z1 (bc.after m.o u);clear u;obtain⟨T6,L,N,⟨ad,n⟩,O⟩:=HN.o;have q:=Z4 L N n O;have z:=dH n.B0;have f2:=n.B0.frozen 2;clear L N n O;go_wp2;refine zt ?_;refine⟨rfl,?_⟩;rw[P.o];refine l.o.fin (bc.trans q.o.1 q.o.2.2.2 (aV.B6 q.o.2.1 q.o.2.2.1 1 (λe=>⟨zP,zP⟩) rfl))
def Gx(hc:c.ok)(T:Nat->Tg)(wp p:Nat)(g:Gs)(x:Wi)(hg:GAt w c T wp g)(h:aO w c T wp p x)(hx:x.ok c)(hrd:x.ready c g=true)(hk:x.B6=1)(hf:g.E5)(k:K2)(r:List K2)(hl:g.q.line=k::r)(hd:k∈g.q.C5)(hn:g.ev.length<=70000):C 339 #[Z p 0] w λe w'=>e=.returned (.tuple #[])/\aV w w' c T wp (aM c g x).1 p (aM c g x).2:=by
 have t:=Z1 (ch w c hc T wp p g x hg h hx);rw[hrd]at t;have A:c.st+1<c.st+2:=zO;obtain⟨B,D⟩:homeN c x.key<c.st+2/\x.home c=((homeN c x.key:Nat):Int):=⟨by have:=cJ hc x.key;omega,cy hc _⟩;have P:Hid (aM c g x=(({g with q:=g.q.get.1}:Gs).note (({x.y with key:=k}:Wi).event 4),{x with B8:= -1,B3:=false,key:=k,B6:=2})):=Z1 (by rw[oJ hk hl];unfold Qm.get;rw[hl];rfl);have Q:=Z1 (λU u (i:GAt U c u wp g) (j:aO U c u wp p x.y)=>AL U c u wp p g x.y i j (okY hx) hf k r hl hd (by show x.B6≠5/\x.B6≠6;omega) hn);clear hf hl hd hn;obtain⟨vs,h⟩:=h;have F:=Z2 hg h;have n:=hk;have HK:=Z1 n;clear hg h hrd hx n A B
 go_in
 go_wp2_with fail;refine zm t.o λw1 b=>?_;have a:=F.o.2.up b;have v:=dH a.B0;rw[hk]at v;have R:=gv a.B0;have S:=gw a.B0;have X:=a.B0.frozen 3;have f4:=a.B0.frozen 4;have d:=Z2 b a;clear a b t hk D;go_wp2_with fail;have f:=(d.o.2.B0.B4 3 (I (-1))).B4 4 (.bool false);rw[iV]at f;obtain⟨T2,i,j,G,H⟩:=bc.after d.o.1 (aV.own (x':=x.y) (F.o.1.up d.o.1) d.o.2 ((aI.B4 _ _ _ _).trans (aI.B4 _ _ _ _)) f rfl d.o.2.nil);have z:Hid (WsI w _ c T T2 wp p g x):=Z1 ⟨i,j,G,H⟩;clear i j G H f v R S X f4;refine zm (Q.o _ _ z.o.g_ z.o.at_) λw3 s=>?_;have HN:=Z1 s;clear s;obtain⟨T6,L,N,⟨ad,l⟩,O⟩:=HN.o;have m:=Z4 L N l O;have v:=dH l.B0;have f2:=l.B0.frozen 2;clear L N l O;go_wp2;refine zt ?_;refine⟨rfl,?_⟩;rw[P.o];refine z.o.fin (bc.trans m.o.1 m.o.2.2.2 (aV.B6 m.o.2.1 m.o.2.2.1 2 (λe=>⟨zP,zP⟩) rfl))
def Gy(hc:c.ok)(T:Nat->Tg)(wp p:Nat)(g:Gs)(x:Wi)(hg:GAt w c T wp g)(h:aO w c T wp p x)(hx:x.ok c)(hrd:x.ready c g=true)(hk:x.B6=1)(hf:g.E5)(hl:g.q.line=[])(hov:g.q.over=true):C 339 #[Z p 0] w λe w'=>e=.returned (.tuple #[])/\aV w w' c T wp (aM c g x).1 p (aM c g x).2:=by
 have r:=Z1 (ch w c hc T wp p g x hg h hx);rw[hrd]at r;have v:c.st+1<c.st+2:=zO;obtain⟨z,A⟩:homeN c x.key<c.st+2/\x.home c=((homeN c x.key:Nat):Int):=⟨by have:=cJ hc x.key;omega,cy hc _⟩;have N:Hid (aM c g x=(g,{x with B8:= -1,B3:=false,B6:=12})):=Z1 (by rw[mz hk hl,OB hov]);have O:=Z1 (λU s (i:GAt U c s wp g) (j:aO U c s wp p x.y)=>AM U c s wp p g x.y i j (okY hx) hf hl hov);clear hf hl hov;obtain⟨vs,h⟩:=h;have B:=Z2 hg h;have m:=hk;have HK:=Z1 m;clear hg h hrd hx m v z
 go_in
 go_wp2_with fail;refine zm r.o λw1 b=>?_;have a:=B.o.2.up b;have t:=dH a.B0;rw[hk]at t;have P:=gv a.B0;have Q:=gw a.B0;have R:=a.B0.frozen 3;have S:=a.B0.frozen 4;have d:=Z2 b a;clear a b r hk A;go_wp2_with fail;have f:=(d.o.2.B0.B4 3 (I (-1))).B4 4 (.bool false);rw[iV]at f;obtain⟨X,i,j,D,F⟩:=bc.after d.o.1 (aV.own (x':=x.y) (B.o.1.up d.o.1) d.o.2 ((aI.B4 _ _ _ _).trans (aI.B4 _ _ _ _)) f rfl d.o.2.nil);have u:Hid (WsI w _ c T X wp p g x):=Z1 ⟨i,j,D,F⟩;clear i j D F f t P Q R S;refine zm (O.o _ _ u.o.g_ u.o.at_) λw3 n=>?_;have HN:=Z1 n;clear n;obtain⟨T6,G,H,⟨ab,k⟩,L⟩:=HN.o;have l:=Z4 G H k L;have t:=dH k.B0;have f2:=k.B0.frozen 2;clear G H k L;go_wp2;refine zt ?_;refine⟨rfl,?_⟩;rw[N.o];refine u.o.fin (bc.trans l.o.1 l.o.2.2.2 (aV.B6 l.o.2.1 l.o.2.2.1 12 (λe=>⟨zP,zP⟩) rfl))
def Gz(hc:c.ok)(T:Nat->Tg)(wp p:Nat)(g:Gs)(x:Wi)(hg:GAt w c T wp g)(h:aO w c T wp p x)(hx:x.ok c)(hrd:x.ready c g=true)(hk:x.B6=1)(hf:g.E5)(hl:g.q.line=[])(hov:g.q.over=false)(hh:bS g.ln x.task=2):C 339 #[Z p 0] w λe w'=>e=.returned (.tuple #[])/\aV w w' c T wp (aM c g x).1 p (aM c g x).2:=by
 have r:=Z1 (ch w c hc T wp p g x hg h hx);rw[hrd]at r;have v:c.st+1<c.st+2:=zO;obtain⟨z,A⟩:homeN c x.key<c.st+2/\x.home c=((homeN c x.key:Nat):Int):=⟨by have:=cJ hc x.key;omega,cy hc _⟩;have N:Hid (aM c g x=(g.sleep x.task,{x with B8:= -1,B3:=true,B6:=1})):=Z1 (by rw[mz hk hl,Oz (by rw[hov];decide)]);have O:=Z1 (λU s (i:GAt U c s wp g) (j:aO U c s wp p x.y)=>yn U c hc s wp p g x.y i j (okY hx) hf hl hov hh);clear hf hl hov hh;obtain⟨vs,h⟩:=h;have B:=Z2 hg h;have m:=hk;have HK:=Z1 m;clear hg h hrd hx m v z
 go_in
 go_wp2_with fail;refine zm r.o λw1 b=>?_;have a:=B.o.2.up b;have t:=dH a.B0;rw[hk]at t;have P:=gv a.B0;have Q:=gw a.B0;have R:=a.B0.frozen 3;have S:=a.B0.frozen 4;have d:=Z2 b a;clear a b r hk A;go_wp2_with fail;have f:=(d.o.2.B0.B4 3 (I (-1))).B4 4 (.bool false);rw[iV]at f;obtain⟨X,i,j,D,F⟩:=bc.after d.o.1 (aV.own (x':=x.y) (B.o.1.up d.o.1) d.o.2 ((aI.B4 _ _ _ _).trans (aI.B4 _ _ _ _)) f rfl d.o.2.nil);have u:Hid (WsI w _ c T X wp p g x):=Z1 ⟨i,j,D,F⟩;clear i j D F f t P Q R S;refine zm (O.o _ _ u.o.g_ u.o.at_) λw3 n=>?_;have HN:=Z1 n;clear n;obtain⟨T6,G,H,⟨ab,k⟩,L⟩:=HN.o;have l:=Z4 G H k L;have t:=dH k.B0;have f2:=k.B0.frozen 2;clear G H k L;go_wp2;refine zt ?_;refine⟨rfl,?_⟩;rw[N.o];refine u.o.fin (bc.trans l.o.1 l.o.2.2.2 (aV.B6 l.o.2.1 l.o.2.2.1 1 (λe=>⟨zP,zP⟩) rfl))
def Kv(hc:c.ok)(T:Nat->Tg)(wp p:Nat)(g:Gs)(x:Wi)(hg:GAt w c T wp g)(h:aO w c T wp p x)(hx:x.ok c)(hrd:x.ready c g=true)(hk:x.B6=2)(hh:g.held ((c.st+1:Nat):Int) x.task≠0)(hf:(g.lock ((c.st+1:Nat):Int)).line.length<=900):C 339 #[Z p 0] w λe w'=>e=.returned (.tuple #[])/\aV w w' c T wp (aM c g x).1 p (aM c g x).2:=by
 have v:=Z1 (ch w c hc T wp p g x hg h hx);rw[hrd]at v;have r:c.st+1<c.st+2:=zO;obtain⟨A,B⟩:homeN c x.key<c.st+2/\x.home c=((homeN c x.key:Nat):Int):=⟨by have:=cJ hc x.key;omega,cy hc _⟩;have P:Hid (aM c g x=(g.drop ((c.st+1:Nat):Int) x.task,{x with B8:= -1,B3:=false,B6:=3})):=Z1 (by rw[qp hk,cW]);have Q:=Z1 (λU b (d:GAt U c b wp g) (f:aO U c b wp p x.y)=>j7 U c hc b wp p g x.y d f (okY hx) (c.st+1) r 3 hh hf);have D:=Z1 (λU b (d:GAt U c b wp g) (f:aO U c b wp p x.y)=>iO U c hc b wp p g x.y d f);rw[cW]at D;clear hf hh;obtain⟨vs,h⟩:=h;have F:=Z2 hg h;have s:=hk;have HK:=Z1 s;clear hg h hrd hx s r A
 go_in
 go_wp2_with fail;refine zm v.o λw1 i=>?_;have a:=F.o.2.up i;have z:=dH a.B0;rw[hk]at z;have R:=gv a.B0;have S:=gw a.B0;have X:=a.B0.frozen 3;have f4:=a.B0.frozen 4;have j:=Z2 i a;clear a i v hk B;go_wp2_with fail;have k:=(j.o.2.B0.B4 3 (I (-1))).B4 4 (.bool false);rw[iV]at k;obtain⟨T2,d,f,G,H⟩:=bc.after j.o.1 (aV.own (x':=x.y) (F.o.1.up j.o.1) j.o.2 ((aI.B4 _ _ _ _).trans (aI.B4 _ _ _ _)) k rfl j.o.2.nil);have l:Hid (WsI w _ c T T2 wp p g x):=Z1 ⟨d,f,G,H⟩;clear d f G H k z R S X f4;refine zm (D.o _ _ l.o.g_ l.o.at_) λw2 t=>?_;have m:=Z1 t;clear t;go_wp2_with fail;refine zm (Q.o _ _ (l.o.g_.up m.o) (l.o.at_.up m.o)) λw3 u=>?_;have HN:=Z1 (bc.after m.o u);clear u;obtain⟨T6,L,N,⟨ad,n⟩,O⟩:=HN.o;have q:=Z4 L N n O;have z:=dH n.B0;have f2:=n.B0.frozen 2;clear L N n O;go_wp2;refine zt ?_;refine⟨rfl,?_⟩;rw[P.o];refine l.o.fin (bc.trans q.o.1 q.o.2.2.2 (aV.B6 q.o.2.1 q.o.2.2.1 3 (λe=>⟨zP,zP⟩) rfl))
def Kw(hc:c.ok)(T:Nat->Tg)(wp p:Nat)(g:Gs)(x:Wi)(hg:GAt w c T wp g)(h:aO w c T wp p x)(hx:x.ok c)(hrd:x.ready c g=true)(hk:x.B6=3)(hf:(g.lock ((homeN c x.key:Nat):Int)).line.length<=900):C 339 #[Z p 0] w λe w'=>e=.returned (.tuple #[])/\aV w w' c T wp (aM c g x).1 p (aM c g x).2:=by
 have z:=Z1 (ch w c hc T wp p g x hg h hx);rw[hrd]at z;have B:c.st+1<c.st+2:=zO;obtain⟨r,s⟩:homeN c x.key<c.st+2/\x.home c=((homeN c x.key:Nat):Int):=⟨by have:=cJ hc x.key;omega,cy hc _⟩;have O:Hid (aM c g x=((g.ask ((homeN c x.key:Nat):Int) x.task false).1,{x with B8:=if(g.ask ((homeN c x.key:Nat):Int) x.task false).2=true then -1 else((homeN c x.key:Nat):Int),B3:=false,B6:=4})):=Z1 (by rw[qr hk,s];rfl);have P:=Z1 (λU b (d:GAt U c b wp g) (f:aO U c b wp p x.y)=>m9 U c hc b wp p g x.y d f (okY hx) (homeN c x.key) r false 4 hf);have Q:=Z1 (λU b (d:GAt U c b wp g) (f:aO U c b wp p x.y)=>iP U c hc b wp p g x.y d f hx.key);clear hf;obtain⟨vs,h⟩:=h;have D:=Z2 hg h;have t:=hk;have HK:=Z1 t;clear hg h hrd hx t B r
 go_in
 go_wp2_with fail;refine zm z.o λw1 i=>?_;have a:=D.o.2.up i;have A:=dH a.B0;rw[hk]at A;have R:=gv a.B0;have S:=gw a.B0;have X:=a.B0.frozen 3;have f4:=a.B0.frozen 4;have j:=Z2 i a;clear a i z hk s;go_wp2_with fail;have k:=(j.o.2.B0.B4 3 (I (-1))).B4 4 (.bool false);rw[iV]at k;obtain⟨T2,d,f,F,G⟩:=bc.after j.o.1 (aV.own (x':=x.y) (D.o.1.up j.o.1) j.o.2 ((aI.B4 _ _ _ _).trans (aI.B4 _ _ _ _)) k rfl j.o.2.nil);have l:Hid (WsI w _ c T T2 wp p g x):=Z1 ⟨d,f,F,G⟩;clear d f F G k A R S X f4;refine zm (Q.o _ _ l.o.g_ l.o.at_) λw2 u=>?_;have m:=Z1 u;clear u;go_wp2_with fail;refine zm (P.o _ _ (l.o.g_.up m.o) (l.o.at_.up m.o)) λw3 v=>?_;have HN:=Z1 (bc.after m.o v);clear v;obtain⟨T6,H,L,⟨ad,n⟩,N⟩:=HN.o;have q:=Z4 H L n N;have A:=dH n.B0;have f2:=n.B0.frozen 2;clear H L n N;go_wp2;refine zt ?_;refine⟨rfl,?_⟩;rw[O.o];refine l.o.fin (bc.trans q.o.1 q.o.2.2.2 (aV.B6 q.o.2.1 q.o.2.2.1 4 (λe=>⟨zP,zP⟩) rfl))
def Kx(hc:c.ok)(T:Nat->Tg)(wp p:Nat)(g:Gs)(x:Wi)(hg:GAt w c T wp g)(h:aO w c T wp p x)(hx:x.ok c)(hrd:x.ready c g=true)(hk:x.B6=5)(hh:g.held ((homeN c x.key:Nat):Int) x.task≠0)(hf:(g.lock ((homeN c x.key:Nat):Int)).line.length<=900):C 339 #[Z p 0] w λe w'=>e=.returned (.tuple #[])/\aV w w' c T wp (aM c g x).1 p (aM c g x).2:=by
 have z:=Z1 (ch w c hc T wp p g x hg h hx);rw[hrd]at z;have B:c.st+1<c.st+2:=zO;obtain⟨r,s⟩:homeN c x.key<c.st+2/\x.home c=((homeN c x.key:Nat):Int):=⟨by have:=cJ hc x.key;omega,cy hc _⟩;have O:Hid (aM c g x=(g.drop ((homeN c x.key:Nat):Int) x.task,{x with B8:= -1,B3:=false,B6:=6})):=Z1 (by rw[qu hk,s]);have P:=Z1 (λU b (d:GAt U c b wp g) (f:aO U c b wp p x.y)=>j7 U c hc b wp p g x.y d f (okY hx) (homeN c x.key) r 6 hh hf);have Q:=Z1 (λU b (d:GAt U c b wp g) (f:aO U c b wp p x.y)=>iP U c hc b wp p g x.y d f hx.key);clear hf hh;obtain⟨vs,h⟩:=h;have D:=Z2 hg h;have t:=hk;have R:=Z1 t;clear hg h hrd hx t B r
 go_in
 go_wp2_with fail;refine zm z.o λw1 i=>?_;have a:=D.o.2.up i;have A:=dH a.B0;rw[hk]at A;have S:=gv a.B0;have X:=gw a.B0;have f3:=a.B0.frozen 3;have f4:=a.B0.frozen 4;have j:=Z2 i a;clear a i z hk s;go_wp2_with fail;have k:=(j.o.2.B0.B4 3 (I (-1))).B4 4 (.bool false);rw[iV]at k;obtain⟨T2,d,f,F,G⟩:=bc.after j.o.1 (aV.own (x':=x.y) (D.o.1.up j.o.1) j.o.2 ((aI.B4 _ _ _ _).trans (aI.B4 _ _ _ _)) k rfl j.o.2.nil);have l:Hid (WsI w _ c T T2 wp p g x):=Z1 ⟨d,f,F,G⟩;clear d f F G k A S X f3 f4;refine zm (Q.o _ _ l.o.g_ l.o.at_) λw2 u=>?_;have m:=Z1 u;clear u;go_wp2_with fail;refine zm (P.o _ _ (l.o.g_.up m.o) (l.o.at_.up m.o)) λw3 v=>?_;have HN:=Z1 (bc.after m.o v);clear v;obtain⟨T6,H,L,⟨ae,q⟩,N⟩:=HN.o;have n:=Z4 H L q N;have A:=dH q.B0;have f2:=q.B0.frozen 2;clear H L q N;go_wp2;refine zt ?_;refine⟨rfl,?_⟩;rw[O.o];refine l.o.fin (bc.trans n.o.1 n.o.2.2.2 (aV.B6 n.o.2.1 n.o.2.2.1 6 (λe=>by have:=n.o.2.2.1.nil e;exact absurd R.o this.1) rfl))
def Ky(hc:c.ok)(T:Nat->Tg)(wp p:Nat)(g:Gs)(x:Wi)(hg:GAt w c T wp g)(h:aO w c T wp p x)(hx:x.ok c)(hrd:x.ready c g=true)(hk:x.B6=6):C 339 #[Z p 0] w λe w'=>e=.returned (.tuple #[])/\aV w w' c T wp (aM c g x).1 p (aM c g x).2:=by
 have D:=Z1 (ch w c hc T wp p g x hg h hx);rw[hrd]at D;have L:c.st+1<c.st+2:=zO;obtain⟨N,O⟩:homeN c x.key<c.st+2/\x.home c=((homeN c x.key:Nat):Int):=⟨by have:=cJ hc x.key;omega,cy hc _⟩;have A:=Z1 (qw (c:=c) (g:=g) hk);have X:=Z1 (λU F (t:GAt U c F wp g) (u:aO U c F wp p x.y)=>vY U c hc F wp p g x.y t u (okY hx) hk);obtain⟨vs,h⟩:=h;have P:=Z2 hg h;have B:=hk;have HK:=Z1 B;clear hg h hrd hx B L N
 go_in
 go_wp2_with fail;refine zm D.o λw1 j=>?_;have d:=P.o.2.up j;have v:=dH d.B0;rw[hk]at v;have q3:=gv d.B0;have q4:=gw d.B0;have f3:=d.B0.frozen 3;have f4:=d.B0.frozen 4;have k:=Z2 j d;clear d j D hk O;go_wp2_with fail;have l:=(k.o.2.B0.B4 3 (I (-1))).B4 4 (.bool false);rw[iV]at l;obtain⟨T2,t,u,Q,R⟩:=bc.after k.o.1 (aV.own (x':=x.y) (P.o.1.up k.o.1) k.o.2 ((aI.B4 _ _ _ _).trans (aI.B4 _ _ _ _)) l rfl k.o.2.nil);have z:Hid (WsI w _ c T T2 wp p g x):=Z1 ⟨t,u,Q,R⟩;clear t u Q R l v q3 q4 f3 f4;refine(X.o _ _ z.o.g_ z.o.at_).mono ?_;rintro e3 w3 ⟨a,m⟩;by_cases b:x.D9.E9=true/\fW x.D9.D8 x.D9.D2=0
 ·have n:=a b;clear a m;obtain⟨rfl,a⟩:=n;have G:Hid (aM c g x=(g,{x with B8:= -1,B3:=false,E0:=od x.D9.D8 x.D9.D2 x.D9.C0,B6:=7})):=Z1 (by rw[A.o,OB b]);have H:=Z1 a;clear a b;obtain⟨T6,q,r,⟨S,f⟩,s⟩:=H.o;have i:=Z4 q r f s;have v:=dH f.B0;have f2:=f.B0.frozen 2;clear q r f s;go_wp2;refine zt ?_;refine⟨rfl,?_⟩;rw[G.o];refine z.o.fin (bc.trans i.o.1 i.o.2.2.2 (aV.B6 i.o.2.1 i.o.2.2.1 7 (λe=>⟨zP,zP⟩) rfl))
 ·have n:=m b;clear a m;obtain⟨rfl,a⟩:=n;have G:Hid (aM c g x=(g,{x with B8:= -1,B3:=false,B6:=10})):=Z1 (by rw[A.o,Oz b]);have H:=Z1 a;clear a b;obtain⟨T6,q,r,⟨S,f⟩,s⟩:=H.o;have i:=Z4 q r f s;have v:=dH f.B0;have f2:=f.B0.frozen 2;clear q r f s;go_wp2;refine zt ?_;refine⟨rfl,?_⟩;rw[G.o];refine z.o.fin (bc.trans i.o.1 i.o.2.2.2 (aV.B6 i.o.2.1 i.o.2.2.1 10 (λe=>⟨zP,zP⟩) rfl))
def Kz(hc:c.ok)(T:Nat->Tg)(wp p:Nat)(g:Gs)(x:Wi)(hg:GAt w c T wp g)(h:aO w c T wp p x)(hx:x.ok c)(hrd:x.ready c g=true)(hk:x.B6=7)(hf:(g.lock ((homeN c x.key:Nat):Int)).line.length<=900):C 339 #[Z p 0] w λe w'=>e=.returned (.tuple #[])/\aV w w' c T wp (aM c g x).1 p (aM c g x).2:=by
 have z:=Z1 (ch w c hc T wp p g x hg h hx);rw[hrd]at z;have B:c.st+1<c.st+2:=zO;obtain⟨r,s⟩:homeN c x.key<c.st+2/\x.home c=((homeN c x.key:Nat):Int):=⟨by have:=cJ hc x.key;omega,cy hc _⟩;have O:Hid (aM c g x=((g.ask ((homeN c x.key:Nat):Int) x.task true).1,{x with B8:=if(g.ask ((homeN c x.key:Nat):Int) x.task true).2=true then -1 else((homeN c x.key:Nat):Int),B3:=false,B6:=8})):=Z1 (by rw[qy hk,s];rfl);have P:=Z1 (λU b (d:GAt U c b wp g) (f:aO U c b wp p x.y)=>m9 U c hc b wp p g x.y d f (okY hx) (homeN c x.key) r true 8 hf);have Q:=Z1 (λU b (d:GAt U c b wp g) (f:aO U c b wp p x.y)=>iP U c hc b wp p g x.y d f hx.key);clear hf;obtain⟨vs,h⟩:=h;have D:=Z2 hg h;have t:=hk;have HK:=Z1 t;clear hg h hrd hx t B r
 go_in
 go_wp2_with fail;refine zm z.o λw1 i=>?_;have a:=D.o.2.up i;have A:=dH a.B0;rw[hk]at A;have R:=gv a.B0;have S:=gw a.B0;have X:=a.B0.frozen 3;have f4:=a.B0.frozen 4;have j:=Z2 i a;clear a i z hk s;go_wp2_with fail;have k:=(j.o.2.B0.B4 3 (I (-1))).B4 4 (.bool false);rw[iV]at k;obtain⟨T2,d,f,F,G⟩:=bc.after j.o.1 (aV.own (x':=x.y) (D.o.1.up j.o.1) j.o.2 ((aI.B4 _ _ _ _).trans (aI.B4 _ _ _ _)) k rfl j.o.2.nil);have l:Hid (WsI w _ c T T2 wp p g x):=Z1 ⟨d,f,F,G⟩;clear d f F G k A R S X f4;refine zm (Q.o _ _ l.o.g_ l.o.at_) λw2 u=>?_;have m:=Z1 u;clear u;go_wp2_with fail;refine zm (P.o _ _ (l.o.g_.up m.o) (l.o.at_.up m.o)) λw3 v=>?_;have HN:=Z1 (bc.after m.o v);clear v;obtain⟨T6,H,L,⟨ad,n⟩,N⟩:=HN.o;have q:=Z4 H L n N;have A:=dH n.B0;have f2:=n.B0.frozen 2;clear H L n N;go_wp2;refine zt ?_;refine⟨rfl,?_⟩;rw[O.o];refine l.o.fin (bc.trans q.o.1 q.o.2.2.2 (aV.B6 q.o.2.1 q.o.2.2.1 8 (λe=>⟨zP,zP⟩) rfl))
def KA(hc:c.ok)(T:Nat->Tg)(wp p:Nat)(g:Gs)(x:Wi)(hg:GAt w c T wp g)(h:aO w c T wp p x)(hx:x.ok c)(hrd:x.ready c g=true)(hk:x.B6=8)(hky:ap g.mp.ls x.key≠none)(hn:g.ev.length<=70000):C 339 #[Z p 0] w λe w'=>e=.returned (.tuple #[])/\aV w w' c T wp (aM c g x).1 p (aM c g x).2:=by
 have q:=Z1 (ch w c hc T wp p g x hg h hx);rw[hrd]at q;have u:c.st+1<c.st+2:=zO;obtain⟨v,z⟩:homeN c x.key<c.st+2/\x.home c=((homeN c x.key:Nat):Int):=⟨by have:=cJ hc x.key;omega,cy hc _⟩;have L:Hid (aM c g x=(({g with mp:=(eo c g.mp x.key x.E0).1}:Gs).note (x.y.event 6),{x with B8:= -1,B3:=false,B6:=9})):=Z1 (by rw[qz hk];rfl);have N:=Z1 (λU r (i:GAt U c r wp g) (j:aO U c r wp p x.y)=>yo U c hc r wp p g x.y i j (okY hx) hky hn);clear hky hn;obtain⟨vs,h⟩:=h;have A:=Z2 hg h;have m:=hk;have HK:=Z1 m;clear hg h hrd hx m u v
 go_in
 go_wp2_with fail;refine zm q.o λw1 b=>?_;have a:=A.o.2.up b;have s:=dH a.B0;rw[hk]at s;have O:=gv a.B0;have P:=gw a.B0;have Q:=a.B0.frozen 3;have R:=a.B0.frozen 4;have d:=Z2 b a;clear a b q hk z;go_wp2_with fail;have f:=(d.o.2.B0.B4 3 (I (-1))).B4 4 (.bool false);rw[iV]at f;obtain⟨S,i,j,B,D⟩:=bc.after d.o.1 (aV.own (x':=x.y) (A.o.1.up d.o.1) d.o.2 ((aI.B4 _ _ _ _).trans (aI.B4 _ _ _ _)) f rfl d.o.2.nil);have t:Hid (WsI w _ c T S wp p g x):=Z1 ⟨i,j,B,D⟩;clear i j B D f s O P Q R;refine zm (N.o _ _ t.o.g_ t.o.at_) λw3 n=>?_;have X:=Z1 n;clear n;obtain⟨T6,F,G,⟨aa,k⟩,H⟩:=X.o;have l:=Z4 F G k H;have s:=dH k.B0;have f2:=k.B0.frozen 2;clear F G k H;go_wp2;refine zt ?_;refine⟨rfl,?_⟩;rw[L.o];refine t.o.fin (bc.trans l.o.1 l.o.2.2.2 (aV.B6 l.o.2.1 l.o.2.2.1 9 (λe=>⟨zP,zP⟩) rfl))
def KB(hc:c.ok)(T:Nat->Tg)(wp p:Nat)(g:Gs)(x:Wi)(hg:GAt w c T wp g)(h:aO w c T wp p x)(hx:x.ok c)(hrd:x.ready c g=true)(hk:x.B6=9)(hh:g.held ((homeN c x.key:Nat):Int) x.task≠0)(hf:(g.lock ((homeN c x.key:Nat):Int)).line.length<=900):C 339 #[Z p 0] w λe w'=>e=.returned (.tuple #[])/\aV w w' c T wp (aM c g x).1 p (aM c g x).2:=by
 have z:=Z1 (ch w c hc T wp p g x hg h hx);rw[hrd]at z;have B:c.st+1<c.st+2:=zO;obtain⟨r,s⟩:homeN c x.key<c.st+2/\x.home c=((homeN c x.key:Nat):Int):=⟨by have:=cJ hc x.key;omega,cy hc _⟩;have O:Hid (aM c g x=(g.drop ((homeN c x.key:Nat):Int) x.task,{x with B8:= -1,B3:=false,B6:=10})):=Z1 (by rw[qA hk,s]);have P:=Z1 (λU b (d:GAt U c b wp g) (f:aO U c b wp p x.y)=>j7 U c hc b wp p g x.y d f (okY hx) (homeN c x.key) r 10 hh hf);have Q:=Z1 (λU b (d:GAt U c b wp g) (f:aO U c b wp p x.y)=>iP U c hc b wp p g x.y d f hx.key);clear hf hh;obtain⟨vs,h⟩:=h;have D:=Z2 hg h;have t:=hk;have HK:=Z1 t;clear hg h hrd hx t B r
 go_in
 go_wp2_with fail;refine zm z.o λw1 i=>?_;have a:=D.o.2.up i;have A:=dH a.B0;rw[hk]at A;have R:=gv a.B0;have S:=gw a.B0;have X:=a.B0.frozen 3;have f4:=a.B0.frozen 4;have j:=Z2 i a;clear a i z hk s;go_wp2_with fail;have k:=(j.o.2.B0.B4 3 (I (-1))).B4 4 (.bool false);rw[iV]at k;obtain⟨T2,d,f,F,G⟩:=bc.after j.o.1 (aV.own (x':=x.y) (D.o.1.up j.o.1) j.o.2 ((aI.B4 _ _ _ _).trans (aI.B4 _ _ _ _)) k rfl j.o.2.nil);have l:Hid (WsI w _ c T T2 wp p g x):=Z1 ⟨d,f,F,G⟩;clear d f F G k A R S X f4;refine zm (Q.o _ _ l.o.g_ l.o.at_) λw2 u=>?_;have m:=Z1 u;clear u;go_wp2_with fail;refine zm (P.o _ _ (l.o.g_.up m.o) (l.o.at_.up m.o)) λw3 v=>?_;have HN:=Z1 (bc.after m.o v);clear v;obtain⟨T6,H,L,⟨ad,n⟩,N⟩:=HN.o;have q:=Z4 H L n N;have A:=dH n.B0;have f2:=n.B0.frozen 2;clear H L n N;go_wp2;refine zt ?_;refine⟨rfl,?_⟩;rw[O.o];refine l.o.fin (bc.trans q.o.1 q.o.2.2.2 (aV.B6 q.o.2.1 q.o.2.2.1 10 (λe=>⟨zP,zP⟩) rfl))
def GA(hc:c.ok)(T:Nat->Tg)(wp p:Nat)(g:Gs)(x:Wi)(hg:GAt w c T wp g)(h:aO w c T wp p x)(hx:x.ok c)(hrd:x.ready c g=true)(hk:x.B6=10)(hf:(g.lock ((c.st+1:Nat):Int)).line.length<=900):C 339 #[Z p 0] w λe w'=>e=.returned (.tuple #[])/\aV w w' c T wp (aM c g x).1 p (aM c g x).2:=by
 have v:=Z1 (ch w c hc T wp p g x hg h hx);rw[hrd]at v;have r:c.st+1<c.st+2:=zO;obtain⟨A,B⟩:homeN c x.key<c.st+2/\x.home c=((homeN c x.key:Nat):Int):=⟨by have:=cJ hc x.key;omega,cy hc _⟩;have P:Hid (aM c g x=((g.ask ((c.st+1:Nat):Int) x.task true).1,{x with B8:=if(g.ask ((c.st+1:Nat):Int) x.task true).2=true then -1 else((c.st+1:Nat):Int),B3:=false,B6:=11})):=Z1 (by rw[oK hk,cW];rfl);have Q:=Z1 (λU b (d:GAt U c b wp g) (f:aO U c b wp p x.y)=>m9 U c hc b wp p g x.y d f (okY hx) (c.st+1) r true 11 hf);have D:=Z1 (λU b (d:GAt U c b wp g) (f:aO U c b wp p x.y)=>iO U c hc b wp p g x.y d f);rw[cW]at D;clear hf;obtain⟨vs,h⟩:=h;have F:=Z2 hg h;have s:=hk;have HK:=Z1 s;clear hg h hrd hx s r A
 go_in
 go_wp2_with fail;refine zm v.o λw1 i=>?_;have a:=F.o.2.up i;have z:=dH a.B0;rw[hk]at z;have R:=gv a.B0;have S:=gw a.B0;have X:=a.B0.frozen 3;have f4:=a.B0.frozen 4;have j:=Z2 i a;clear a i v hk B;go_wp2_with fail;have k:=(j.o.2.B0.B4 3 (I (-1))).B4 4 (.bool false);rw[iV]at k;obtain⟨T2,d,f,G,H⟩:=bc.after j.o.1 (aV.own (x':=x.y) (F.o.1.up j.o.1) j.o.2 ((aI.B4 _ _ _ _).trans (aI.B4 _ _ _ _)) k rfl j.o.2.nil);have l:Hid (WsI w _ c T T2 wp p g x):=Z1 ⟨d,f,G,H⟩;clear d f G H k z R S X f4;refine zm (D.o _ _ l.o.g_ l.o.at_) λw2 t=>?_;have m:=Z1 t;clear t;go_wp2_with fail;refine zm (Q.o _ _ (l.o.g_.up m.o) (l.o.at_.up m.o)) λw3 u=>?_;have HN:=Z1 (bc.after m.o u);clear u;obtain⟨T6,L,N,⟨ad,n⟩,O⟩:=HN.o;have q:=Z4 L N n O;have z:=dH n.B0;have f2:=n.B0.frozen 2;clear L N n O;go_wp2;refine zt ?_;refine⟨rfl,?_⟩;rw[P.o];refine l.o.fin (bc.trans q.o.1 q.o.2.2.2 (aV.B6 q.o.2.1 q.o.2.2.1 11 (λe=>⟨zP,zP⟩) rfl))
def GB(hc:c.ok)(T:Nat->Tg)(wp p:Nat)(g:Gs)(x:Wi)(hg:GAt w c T wp g)(h:aO w c T wp p x)(hx:x.ok c)(hrd:x.ready c g=true)(hk:x.B6=11)(hf:g.E5)(hb:x.key∈g.q.busy)(hn:g.ev.length<=70000):C 339 #[Z p 0] w λe w'=>e=.returned (.tuple #[])/\aV w w' c T wp (aM c g x).1 p (aM c g x).2:=by
 have r:=Z1 (ch w c hc T wp p g x hg h hx);rw[hrd]at r;have v:c.st+1<c.st+2:=zO;obtain⟨z,A⟩:homeN c x.key<c.st+2/\x.home c=((homeN c x.key:Nat):Int):=⟨by have:=cJ hc x.key;omega,cy hc _⟩;have N:Hid (aM c g x=((g.note (x.y.event 7)).F6 x.key,{x with B8:= -1,B3:=false,done:=x.done+1,B6:=14})):=Z1 (by rw[oL hk]);have O:=Z1 (λU s (i:GAt U c s wp g) (j:aO U c s wp p x.y)=>AO U c hc s wp p g x.y i j (okY hx) hf hb hn);clear hf hb hn;obtain⟨vs,h⟩:=h;have B:=Z2 hg h;have m:=hk;have HK:=Z1 m;clear hg h hrd hx m v z
 go_in
 go_wp2_with fail;refine zm r.o λw1 b=>?_;have a:=B.o.2.up b;have t:=dH a.B0;rw[hk]at t;have P:=gv a.B0;have Q:=gw a.B0;have R:=a.B0.frozen 3;have S:=a.B0.frozen 4;have d:=Z2 b a;clear a b r hk A;go_wp2_with fail;have f:=(d.o.2.B0.B4 3 (I (-1))).B4 4 (.bool false);rw[iV]at f;obtain⟨X,i,j,D,F⟩:=bc.after d.o.1 (aV.own (x':=x.y) (B.o.1.up d.o.1) d.o.2 ((aI.B4 _ _ _ _).trans (aI.B4 _ _ _ _)) f rfl d.o.2.nil);have u:Hid (WsI w _ c T X wp p g x):=Z1 ⟨i,j,D,F⟩;clear i j D F f t P Q R S;refine zm (O.o _ _ u.o.g_ u.o.at_) λw3 n=>?_;have HN:=Z1 n;clear n;obtain⟨T6,G,H,⟨ab,k⟩,L⟩:=HN.o;have l:=Z4 G H k L;have t:=dH k.B0;have f2:=k.B0.frozen 2;clear G H k L;go_wp2;refine zt ?_;refine⟨rfl,?_⟩;rw[N.o];refine u.o.fin (bc.trans l.o.1 l.o.2.2.2 (aV.B6 l.o.2.1 l.o.2.2.1 14 (λe=>⟨zP,zP⟩) rfl))
def GC(hc:c.ok)(T:Nat->Tg)(wp p:Nat)(g:Gs)(x:Wi)(hg:GAt w c T wp g)(h:aO w c T wp p x)(hx:x.ok c)(hrd:x.ready c g=true)(hk:x.B6=12)(hh:g.held ((c.st+1:Nat):Int) x.task≠0)(hf:(g.lock ((c.st+1:Nat):Int)).line.length<=900):C 339 #[Z p 0] w λe w'=>e=.returned (.tuple #[])/\aV w w' c T wp (aM c g x).1 p (aM c g x).2:=by
 have v:=Z1 (ch w c hc T wp p g x hg h hx);rw[hrd]at v;have r:c.st+1<c.st+2:=zO;obtain⟨A,B⟩:homeN c x.key<c.st+2/\x.home c=((homeN c x.key:Nat):Int):=⟨by have:=cJ hc x.key;omega,cy hc _⟩;have P:Hid (aM c g x=(g.drop ((c.st+1:Nat):Int) x.task,{x with B8:= -1,B3:=false,B6:=13})):=Z1 (by rw[oM hk,cW]);have Q:=Z1 (λU b (d:GAt U c b wp g) (f:aO U c b wp p x.y)=>j7 U c hc b wp p g x.y d f (okY hx) (c.st+1) r 13 hh hf);have D:=Z1 (λU b (d:GAt U c b wp g) (f:aO U c b wp p x.y)=>iO U c hc b wp p g x.y d f);rw[cW]at D;clear hf hh;obtain⟨vs,h⟩:=h;have F:=Z2 hg h;have s:=hk;have HK:=Z1 s;clear hg h hrd hx s r A
 go_in
 go_wp2_with fail;refine zm v.o λw1 i=>?_;have a:=F.o.2.up i;have z:=dH a.B0;rw[hk]at z;have R:=gv a.B0;have S:=gw a.B0;have X:=a.B0.frozen 3;have f4:=a.B0.frozen 4;have j:=Z2 i a;clear a i v hk B;go_wp2_with fail;have k:=(j.o.2.B0.B4 3 (I (-1))).B4 4 (.bool false);rw[iV]at k;obtain⟨T2,d,f,G,H⟩:=bc.after j.o.1 (aV.own (x':=x.y) (F.o.1.up j.o.1) j.o.2 ((aI.B4 _ _ _ _).trans (aI.B4 _ _ _ _)) k rfl j.o.2.nil);have l:Hid (WsI w _ c T T2 wp p g x):=Z1 ⟨d,f,G,H⟩;clear d f G H k z R S X f4;refine zm (D.o _ _ l.o.g_ l.o.at_) λw2 t=>?_;have m:=Z1 t;clear t;go_wp2_with fail;refine zm (Q.o _ _ (l.o.g_.up m.o) (l.o.at_.up m.o)) λw3 u=>?_;have HN:=Z1 (bc.after m.o u);clear u;obtain⟨T6,L,N,⟨ad,n⟩,O⟩:=HN.o;have q:=Z4 L N n O;have z:=dH n.B0;have f2:=n.B0.frozen 2;clear L N n O;go_wp2;refine zt ?_;refine⟨rfl,?_⟩;rw[P.o];refine l.o.fin (bc.trans q.o.1 q.o.2.2.2 (aV.B6 q.o.2.1 q.o.2.2.1 13 (λe=>⟨zP,zP⟩) rfl))
def GD(hc:c.ok)(T:Nat->Tg)(wp p:Nat)(g:Gs)(x:Wi)(hg:GAt w c T wp g)(h:aO w c T wp p x)(hx:x.ok c)(hrd:x.ready c g=true)(hk:x.B6=14)(hh:g.held ((c.st+1:Nat):Int) x.task≠0)(hf:(g.lock ((c.st+1:Nat):Int)).line.length<=900):C 339 #[Z p 0] w λe w'=>e=.returned (.tuple #[])/\aV w w' c T wp (aM c g x).1 p (aM c g x).2:=by
 have v:=Z1 (ch w c hc T wp p g x hg h hx);rw[hrd]at v;have r:c.st+1<c.st+2:=zO;obtain⟨A,B⟩:homeN c x.key<c.st+2/\x.home c=((homeN c x.key:Nat):Int):=⟨by have:=cJ hc x.key;omega,cy hc _⟩;have P:Hid (aM c g x=(g.drop ((c.st+1:Nat):Int) x.task,{x with B8:= -1,B3:=false,B6:=0})):=Z1 (by rw[oN hk,cW]);have Q:=Z1 (λU b (d:GAt U c b wp g) (f:aO U c b wp p x.y)=>j7 U c hc b wp p g x.y d f (okY hx) (c.st+1) r 0 hh hf);have D:=Z1 (λU b (d:GAt U c b wp g) (f:aO U c b wp p x.y)=>iO U c hc b wp p g x.y d f);rw[cW]at D;clear hf hh;obtain⟨vs,h⟩:=h;have F:=Z2 hg h;have s:=hk;have HK:=Z1 s;clear hg h hrd hx s r A
 go_in
 go_wp2_with fail;refine zm v.o λw1 i=>?_;have a:=F.o.2.up i;have z:=dH a.B0;rw[hk]at z;have R:=gv a.B0;have S:=gw a.B0;have X:=a.B0.frozen 3;have f4:=a.B0.frozen 4;have j:=Z2 i a;clear a i v hk B;go_wp2_with fail;have k:=(j.o.2.B0.B4 3 (I (-1))).B4 4 (.bool false);rw[iV]at k;obtain⟨T2,d,f,G,H⟩:=bc.after j.o.1 (aV.own (x':=x.y) (F.o.1.up j.o.1) j.o.2 ((aI.B4 _ _ _ _).trans (aI.B4 _ _ _ _)) k rfl j.o.2.nil);have l:Hid (WsI w _ c T T2 wp p g x):=Z1 ⟨d,f,G,H⟩;clear d f G H k z R S X f4;refine zm (D.o _ _ l.o.g_ l.o.at_) λw2 t=>?_;have m:=Z1 t;clear t;go_wp2_with fail;refine zm (Q.o _ _ (l.o.g_.up m.o) (l.o.at_.up m.o)) λw3 u=>?_;have HN:=Z1 (bc.after m.o u);clear u;obtain⟨T6,L,N,⟨ad,n⟩,O⟩:=HN.o;have q:=Z4 L N n O;have z:=dH n.B0;have f2:=n.B0.frozen 2;clear L N n O;go_wp2;refine zt ?_;refine⟨rfl,?_⟩;rw[P.o];refine l.o.fin (bc.trans q.o.1 q.o.2.2.2 (aV.B6 q.o.2.1 q.o.2.2.1 0 (λe=>⟨zP,zP⟩) rfl))
def eM.F4{w:World}{c:Cg}{wp:Nat}{x:Wi}{vs:Value}(h:eM w c T wp p x vs)(hg:bj w w' c T wp g'):∃T',aW T T' w.heap.size/\GAt w' c T' wp g'/\eM w' c T' wp p x vs/\ag (λb=>eN (T b)\/b=p) w w':=by
 obtain⟨T',a,g,d⟩:=hg;exact⟨T',a,g,h.B7 d (λb e f=>by rcases e with e|e<;>rw[e]at f<;>exact f) λb i e=>a.keepT i (by rcases e with e|e<;>rw[e]<;>intro k f<;>cases f),d.C3 λb e=>.inl e⟩
def NG(x:Wi)(np:Nat)(ld:Ld):(cr wp vs x).setIfInBounds 7 (Z np 0)=cr wp (Z np 0) {x with D9:=ld}:=rfl
def KC(hc:c.ok)(T:Nat->Tg)(wp p:Nat)(g:Gs)(x:Wi)(hg:GAt w c T wp g)(h:aO w c T wp p x)(hx:x.ok c)(hrd:x.ready c g=true)(hk:x.B6=4)(hky:ap g.mp.ls x.key≠none)(hn:g.ev.length<=70000):C 339 #[Z p 0] w λe w'=>e=.returned (.tuple #[])/\aV w w' c T wp (aM c g x).1 p (aM c g x).2:=by
 have HR:=Z1 (ch w c hc T wp p g x hg h hx);rw[hrd]at HR;have az:c.st+1<c.st+2:=zO;obtain⟨a0,a5⟩:homeN c x.key<c.st+2/\x.home c=((homeN c x.key:Nat):Int):=⟨by have:=cJ hc x.key;omega,cy hc _⟩;have HX:Hid (aM c g x=(g.note (x.y.event 5),{x with B8:= -1,B3:=false,D9:=(ap g.mp.ls x.key).getD .new,B6:=5})):=Z1 (by rw[qt hk];rfl);have b9:Hid (x.D9.C6 c->True):=Z1 λ_=>trivial;have al:=hx.key;have a7:=Z1 (λU T' (ld:Ld) (hld:ld.C6 c) (a1:GAt U c T' wp g) (a2:aO U c T' wp p {x.y with D9:=ld})=>nB U c T' wp p g {x.y with D9:=ld} a1 a2 ⟨hx.task,hx.B6,.inl rfl,hx.key,hld,hx.E0,hx.done⟩ hn 5 zO);have G:=Z2 hky al;clear hn hky al;obtain⟨vs,h⟩:=h;have HG:=Z2 hg h;have am:=hk;have HK:=Z1 am;clear hg h hrd hx am az a0
 go_in
 go_wp2_with fail;refine zm HR.o λw1 H=>?_;have d:=HG.o.2.up H;have q2:=dH d.B0;rw[hk]at q2;have q3:=gv d.B0;have q4:=gw d.B0;have f3:=d.B0.frozen 3;have f4:=d.B0.frozen 4;have L:=Z2 H d;clear d H HR hk a5;go_upto_region 13 with fail
 have i:=(L.o.2.B0.B4 3 (I (-1))).B4 4 (.bool false);rw[iV]at i;obtain⟨D,a1,a2,a3,a4⟩:=bc.after L.o.1 (aV.own (x':=x.y) (HG.o.1.up L.o.1) L.o.2 ((aI.B4 _ _ _ _).trans (aI.B4 _ _ _ _)) i rfl L.o.2.nil);have N:Hid (WsI w _ c T D wp p g x):=Z1 ⟨a1,a2,a3,a4⟩;clear a1 a2 a3 a4 i q2 q3 q4 f3 f4;obtain⟨sp,v,tp,lb,S,h1,h2,q,_,h5⟩:=N.o.g_.storeAt;have O:=q.J4 hc x.key;have a:=(q.row _ O).get q.D7;obtain⟨z,F⟩:∃z,ap S.rows[homeN c x.key].zs x.key=some z:=by
  cases F:ap S.rows[homeN c x.key].zs x.key with
  |none=>rw[F]at a;exact absurd a G.o.1
  |some z=>exact⟨z,rfl⟩
 rw[F]at a;have hs:=Cg.small hc;generalize hU:((w1.setCell (Y p 3) (I (-1))).setCell (Y p 4) (.bool false))=U at*;clear hU;have bh:=Z1 h1;have bi:=Z1 (λW (hW:M U W)=>iP W c hc D wp p g x.y (N.o.g_.up hW) (N.o.at_.up hW) G.o.2);have bj:=Z1 (λW (hW:M U W)=>i8 W c D sp v tp lb S (h2.up hW) (by rw[q.n];exact hs.2.1) (homeN c x.key) O);have r:=Z1 (λW (hW:M U W)=>rE W c _ _ _ _ (((h2.up hW).F1 _ O).at_) x.key G.o.2);rw[ji,F]at r;have bk:=Z1 (λW (hW:M U W)=>DF W c hc D sp v tp lb S g.mp (h2.up hW) q x.key O z F);have bl:=Z1 (show z.x.C6 c from q.C6 _ (bR (by rw[a];rfl:ap g.mp.ls x.key=some z.x)));have bm:=Z1 h5;have an:(ap g.mp.ls x.key).getD .new=z.x:=by rw[a];rfl
 rw[an]at HX;obtain⟨ao,P⟩:=N.o.at_;have Q:=Z1 P;have s:=(zi U);have hS:=P.B0.drew;have aq:x.key.val=.agg #[E x.key.hi,E x.key.lo]:=rfl;rw[aq]at r;simp only[PT,Qd]at r;generalize S.rows[homeN c x.key].p=ca at*;clear h1 h2 q h5 a F an P aq O;refine bW 15 (S:=λV=>Blk V p 203 (cr wp ao x.y)) zR zR hS ?_;simp only[OM,OO,ON,OQ];try simp only[zD,zE,Nat.reduceAdd,zG]
 refine zL ?_;refine zQ 4 _ ?_ (hy:=λW hW=>by have q0:=iy hW;exact zf);refine zq 12 _ ?_ (hy:=λW hW=>by have q5:=rS hW;have q6:=rT hW;exact zf);refine zo 5 λK hK=>?_;go_simp;refine zY (bh.o _ s) ?_;refine zJ hK hS ?_;refine zo 7 λK hK=>?_;go_simp;refine zm (bi.o _ s) λw4 R=>?_;have t:=af s R;have u:=hS.later R;refine zJ hK u ?_;refine zo 8 λK hK=>?_;go_simp;refine zY (bj.o _ t) ?_;refine zJ hK u ?_;refine zo 13 λK hK=>?_;go_simp;refine zm (r.o _ t) λw6 X=>?_;have A:=af t X;have B:=u.later X;refine zJ hK B ?_;refine zo 14 λK hK=>?_;go_simp
 (refine(bk.o _ A).mono ?_)
 rintro e7 w7 ⟨rfl,T7,t1,t2,t3,t4⟩;obtain⟨g7,k7⟩:=bm.o _ _ _ A t1 t2 t3;have j:=k7.B0 B λe=>by rw[Q.o.tp]at e;exact e
 refine zJ hK j ?_;rw[bI];have aa:=(t1.keepT B.lt (by rw[Q.o.tp];intro k f;cases f)).trans Q.o.tp;have l:=Z6 t1 g7 k7 t4 A aa;have q7:=DE j;have f7:=j.frozen 7;have bs:=Z1 j;clear s hS u B j t A R X t1 t2 t3 t4 g7 k7 aa;go_wp2_with fail;have hO:=aI.B4 p w7 7 (Z z.p 0);have i:=bs.o.B4 7 (Z z.p 0);rw[NG wp ao x.y z.p z.x]at i;have ab:=hO.B7;have m:Hid (aW D T7 w6.heap.size/\GAt _ c T7 wp g/\eM _ c T7 wp p {x.y with D9:=z.x} (Z z.p 0)/\ag (λb=>eN (D b)\/b=p) w6 _):=Z1 ⟨l.o.1,l.o.2.1.only l.o.2.2.2.2.2 hO,⟨i,l.o.2.2.2.2.2,.inr ⟨z.p,rfl,l.o.2.2.2.1.B7 ab λb e2 e3=>by rw[e3,l.o.2.2.2.2.2]at e2;cases e2⟩⟩,(l.o.2.2.1.C3 λb e=>.inl e).trans (ab.C3 λb e=>.inr e)⟩;clear hO i ab q7 f7;refine zm (a7.o _ _ z.x bl.o m.o.2.1 ⟨_,m.o.2.2.1⟩) λw9 ar=>?_;obtain⟨T9,c1,c2,c3,c4⟩:=m.o.2.2.1.F4 ar;have HC:=Z4 c1 c2 c3 c4;have q2:=dH c3.B0;have f2:=c3.B0.frozen 2;clear ar c1 c2 c3 c4;go_wp2;refine zt ?_;refine⟨rfl,?_⟩;rw[HX.o];refine N.o.fin (bc.after l.o.2.2.2.2.1 (bc.trans m.o.1 m.o.2.2.2 (bc.trans HC.o.1 HC.o.2.2.2 (aV.B6 HC.o.2.1 HC.o.2.2.1 5 (λe=>by cases e) rfl))))
structure ge(c:Cg)(ps:List (List Cl)):Prop where
 cfg:c.ok
 each:∀p∈ps,p.length<=1000/\∀y∈p,y.ok
 E5:ps.flatten.length<=1000
structure dI(c:Cg)(ps:List (List Cl))(e:En):Prop where
 L:lG c e
 Q:gb c ps e
 E:InvE c ps e
section
variable {c:Cg} {ps:List (List Cl)} {e:En} {t j:Nat}
def dI.new(hp:ge c ps)(n:Nat)(hn:ps.length+n<=32):dI c ps (.new c ps n):=⟨.new hp.cfg ps n hn,.new c ps n,.new c ps n⟩
def dI.go(hp:ge c ps)(h:dI c ps e)(hu:e.used<=30000)(hr:e.ready c t=true):dI c ps (e.go c t):=⟨h.L.go hp.cfg hr,h.Q.go hp.cfg h.L hr,h.E.go hp.cfg h.L h.Q hp.each hu hr⟩
def dI.evs(h:dI c ps e)(hu:e.used<=30000):e.g.ev.length<=60000:=by have:=h.E.len;omega
def dI.E5(hp:ge c ps)(h:dI c ps e)(hu:e.used<=30000):e.g.E5:=by
 have a:=h.L.lk.E5 (n:=c.st+1) zO;have b:e.g.lock ((c.st+1:Nat):Int)=e.g.ln:=by have:=Go.Fw.lock_ln h.L.lk.len;simpa using this
 rw[b]at a;have f:=h.L.lk.S9;have i:=h.Q.E5;have j:=hp.E5;have k:=h.E.L9.B9;have l:=h.evs hu;exact⟨zO,zO,λt d=>by have:=(h.L.lk.H7 t d).1;have:=h.L.lk.n32;constructor<;>omega,⟨zO,zO,zO⟩,zO⟩
def dI.S4(hp:ge c ps)(h:dI c ps e){x:Ci}(hx:e.cs[t]?=some x):x.ok c:=by
 have b:=h.Q.prog t x hx;obtain⟨g,i⟩:=hp.each _ (Qx b);have a:=h.L.I1 t x hx;have m:=h.L.J0 t x hx;have o:=cz hx;have d:=h.L.lk.n32;refine⟨i,g,by unfold En.count at d;omega,a.nth,?_,a.B8.imp id λ⟨n,j,k,_⟩=>⟨n,j,k⟩,h.E.P0 t x hx⟩;by_cases f:x.at_=0
 ·obtain⟨r,l,_⟩:=kC hp.cfg x.call;rw[f,l];simp
 ·refine Pg λq=>(a.rem f).2.2 ?_;unfold dZ;rw[Rc];omega
def dI.wok(hp:ge c ps)(h:dI c ps e)(hu:e.used<=30000){x:Wi}(hx:e.ws[j]?=some x):x.ok c:=by
 have a:=h.L.Q1 j x hx;have l:=h.L.I4 j x hx;have m:=cz hx;have b:=h.L.lk.n32;obtain⟨d,f,g,o⟩:=h.E.K9 j x hx;exact⟨by unfold En.count at b;omega,a.B6,a.B8.imp id λ⟨n,i,k,_⟩=>⟨n,i,k⟩,g,d,f,zO⟩
def DG(hc0:c.ok)(x:Cl):(aF c x).length<=1000:=by
 obtain⟨r,a,_,_,_,_,_,_,h,_⟩:=kC hc0 x;rw[a];simp;omega
def dI.U5(hp:ge c ps)(h:dI c ps e)(hu:e.used<=30000){x:Ci}(hx:e.cs[t]?=some x)(hr:x.ready e.g=true):Lo c e.g x:=by
 have u:=Ci.G0 hr;have f:=h.L.I1 t x hx;have m:=(h.S4 hp hx).call u;obtain⟨o,v⟩:=f.place (hc0:=hp.cfg) u;have ae:=h.evs hu;have i:be c x x.at_=opNow c x:=rfl;have j:∀n:Nat,n<c.st+2->(e.g.lock n).line.length<=900:=λn N=>OJ (h.L.lk.E5 N) zP
 rcases v with⟨w,y⟩|⟨w,z,A,O,P,Q,R⟩
 ·have S:(be c x x.at_).1=1:=by rw[i,y]
  exact⟨zO,λq=>absurd S q,λ_=>zO,λq=>zO,λq=>zO,λq=>zO,λq=>zO,λq=>zO⟩
 ·rw[<-i]at z A O P Q R;refine⟨zO,λ_=>w,λq=>zO,λq=>?_,λq=>?_,λq=>?_,λq=>?_,λq=>zO⟩
  ·obtain⟨n,p,b,_⟩:=z q;exact⟨n,p,b,j n b⟩
  ·obtain⟨_,T,_⟩:=JU c e.g x.call;have af:=h.E.L9.B9;refine⟨h.E5 hp hu,by rw[T];exact(xT hp.cfg h.E.C6 m.2.2 zO).2,?_⟩;rw[(xP e.g c h.L.lk x.call).2.2];omega
  ·obtain⟨n,p,b,U,X,q5⟩:=A q;have hl:x.at_+1<(aF c x.call).length:=by
    refine Pg λq=>X ?_;unfold fP;rw[Rc];omega
   refine⟨n,p,b,f.has hr b U,j n b,hl,λd=>?_⟩;have B:∀k,be c x (x.at_+1+k)=(fP c x).getD k (0,0):=λk=>oI _ _ _;have e2:((fP c x).headD (0,0)).2=lineN c:=by
    have D:=B 0;rw[Qt]at D;rw[D]at d
    cases hq:fP c x with
    |nil=>rw[hq]at d;exact d
    |cons a r=>rw[hq]at d;exact d
   have F:=q5 (.inr e2);have G:=B 3;rw[F,show x.at_+1+3=x.at_+4 from by omega]at G;refine⟨?_,?_⟩
   ·have H:(fP c x).length=4:=by rw[F];rfl
    unfold fP at H;rw[PW]at H;omega
   ·rw[G];simp[eS,lineN];omega
  ·have s:gU (dZ c x)=true:=jY.2 ⟨_,by rw[o];exact Qc,q⟩;have hk:=xS hp.cfg s;have l:=mY hk.2 zO;exact⟨h.E5 hp hu,l,jh _ (dn l).2.1⟩
end
def Sy{α:Type}{motive:List α->Prop}(l:List α)(nil:motive [])(append_singleton:∀(r:List α) (y:α),motive r->motive (r++[y])):motive l:=by
 have h:∀l:List α,motive l.reverse:=λl=>by
  induction l with
  |nil=>exact nil
  |cons a r ih=>rw[List.reverse_cons];exact append_singleton _ _ ih
 have:=h l.reverse
 rwa [List.reverse_reverse]at this
section
variable {c:Cg} {ps:List (List Cl)} {e:En} {g':Gs} {t j:Nat}
end
def DH(r:Nat->Bool)(pick:Int)(n:Nat):Int:=match fM r (pickN pick n) n n 0 with
 |some t=>(t:Int)
 |none=> -1
def cntN(o:Nat->Bool):Nat->Nat
 |0=>0
 |n+1=>cntN o n+if o n=true then 0 else 1
def BJ(o:Nat->Bool):∀n,cntN o n<=n
 |0=>OA _
 |n+1=>by have:=BJ o n;unfold cntN;split<;>omega
def ifC(p:Nat):Value:=.iface 117 (Z p 0)
def ifW(p:Nat):Value:=.iface 119 (Z p 0)
def BK(w:World):(method 176 117 (.pointer (some a)) "Over").run prog w=.ok (257,.pointer (some a)) w:=zR
def KD(w:World):(method 176 117 (.pointer (some a)) "Ready").run prog w=.ok (258,.pointer (some a)) w:=zR
def ML(w:World):(method 176 117 (.pointer (some a)) "Step").run prog w=.ok (259,.pointer (some a)) w:=zR
def MM(w:World):(method 176 119 (.pointer (some a)) "Over").run prog w=.ok (337,.pointer (some a)) w:=zR
def KE(w:World):(method 176 119 (.pointer (some a)) "Ready").run prog w=.ok (338,.pointer (some a)) w:=zR
def MN(w:World):(method 176 119 (.pointer (some a)) "Step").run prog w=.ok (339,.pointer (some a)) w:=zR
def NH(hc:c.ok)(T:Nat->Tg)(wp p:Nat)(g:Gs)(x:Ci)(hg:GAt w c T wp g)(h:cY w c T wp p x)(hx:x.ok c):C 100 #[ifC p] w (J (.bool (x.ready g)) w):=by
 have j:=Z1 (oT w c T wp p x h hx);have k:=Z1 (λU (d:M w U)=>qU U c hc T wp p g x (hg.up d) (h.up d) hx);have l:Hid (x.over=true->x.ready g=false):=Z1 λe=>by unfold Ci.ready;rw[e];rfl
 have n:=BK;have q:=KD;generalize x.over=m at*;generalize x.ready g=r at*;clear hg h hx;unfold ifC
 go_in
 go_wp2_with fail;refine zm j.o λs a=>?_
 cases m with
 |true=>
  go_wp2;go_ret;exact⟨cN (l.o zS).symm,a⟩
 |false=>
  have f:=Z1 a;clear a;go_wp2_with fail;refine zm (k.o _ f.o) λt b=>?_;have i:=Z1 (af f.o b);clear b;go_wp2;go_ret;exact⟨cN zS,i.o⟩
def NI(hc:c.ok)(T:Nat->Tg)(wp p:Nat)(g:Gs)(x:Wi)(hg:GAt w c T wp g)(h:aO w c T wp p x)(hx:x.ok c):C 100 #[ifW p] w (J (.bool (x.ready c g)) w):=by
 have j:=Z1 (tf w c T wp p x h);have k:=Z1 (λU (d:M w U)=>ch U c hc T wp p g x (hg.up d) (h.up d) hx);have l:Hid (x.over=true->x.ready c g=false):=Z1 λe=>by unfold Wi.ready;rw[e];rfl
 have n:=MM;have q:=KE;generalize x.over=m at*;generalize x.ready c g=r at*;clear hg h hx;unfold ifW
 go_in
 go_wp2_with fail;refine zm j.o λs a=>?_
 cases m with
 |true=>
  go_wp2;go_ret;exact⟨cN (l.o zS).symm,a⟩
 |false=>
  have f:=Z1 a;clear a;go_wp2_with fail;refine zm (k.o _ f.o) λt b=>?_;have i:=Z1 (af f.o b);clear b;go_wp2;go_ret;exact⟨cN zS,i.o⟩
def AQ{pick:Int}(hn:0<n):ed pick n=(pickN pick n:Int):=by
 unfold ed pickN;rw[Oz zO];have:=RY pick (show(n:Int)≠0 by omega);omega
def vJ(vs:List Value)(pick:Int)(A:Option Addr)(k n:Nat)(w:World)(hr:an w w.heap.size 1 A n vs)(hn0:0<n)(hn:n<=1000)(hp:aq pick)
  (hcan:∀j (hj:j<vs.length) U,M w U->C 100 #[vs[j]] U (J (.bool (r j)) U)):
  C 51 #[.slice A n k,I pick] w (J (I (DH r pick n)) w):=by
 have y:n=vs.length:=by have:=hr.len;simpa using this
 have P:=Z1 hcan;have Q:=Z1 y;have z:=Mx (p:=pick) hn0;have h:=AQ (pick:=pick) hn0;obtain⟨a,u⟩:∃a,a=pickN pick n:=⟨_,rfl⟩;rw[<-u]at z h;obtain⟨b,c⟩:∃b,b=DH r pick n:=⟨_,rfl⟩;have f:Hid (b=match fM r a n (n-0) 0 with|some t=>(t:Int)|none=> -1):=Z1 (by rw[c,u];rfl);rw[<-c];have B:=Z1 h;clear y hcan u c h
 go_in
 go_wp2_with fail;refine zY (pS pick n w hp ⟨zO,zO⟩) ?_;rw[B.o];go_wp2_with fail;go_loopw [14] (λi wr=>∃(q:Nat),q<=n/\i=I q/\Hid (b=match fM r a n (n-q) q with|some t=>(t:Int)|none=> -1)/\M w wr) (λi _=>n-(intOf i).toNat)
 case atStart=>exact⟨0,zO,rfl,f,Oy _ _⟩
 case round=>
  clear f;obtain⟨q,hq,rfl,f,l⟩:=hrel;by_cases S:q<n
  ·obtain⟨j,hj⟩:∃j,j=(a+q)%n:=⟨_,rfl⟩;have D:j<n:=by rw[hj];exact Rj _ zO
   have F:((a:Int)+(q:Int))%(n:Int)=(j:Int):=by rw[hj,Int.natCast_emod,Int.natCast_add]
   have m:j<vs.length:=by have:=Q.o;omega
   obtain⟨ad,v,rfl,_,x,hc⟩:=(hr.below l).at_ D;have G:v=vs[j]:=by simp[m]at x;exact x.symm
   subst G;have d:fM r a n (n-q) q=if r j=true then some j else fM r a n (n-(q+1)) (q+1):=by
    rw[show n-q=(n-(q+1))+1 from by omega,fM,hj]
   have H:=Z1 (P.o j m);generalize vs[j]=v at*;have T:((n:Int)==0)=false:=zT;have X:(a:Int)<(n:Int):=zO;have aa:(0:Int)<=(a:Int)+(q:Int):=zO;have R:(j:Int)<(n:Int):=zO;have L:=Z1 d;have N:=Z1 F;clear d hj x;go_wp2_with fail;refine zm (H.o _ l) λw2 O=>?_;have s:=af l O
   cases hrt:r j with
   |true=>
    have g:Hid ((j:Int)=b):=by show _=_;rw[f.o,L.o,hrt];rfl
    clear hrt;go_wp2;go_ret;exact⟨aC (by first|exact g.o|(rw[N.o];exact g.o)),s⟩
   |false=>
    have g:Hid (b=match fM r a n (n-(q+1)) (q+1)with|some t=>(t:Int)|none=> -1):=by show _=_;rw[f.o,L.o,hrt];rfl
    clear hrt;go_wp2;go_roundw
    case rel=>exact⟨q+1,zO,by go_num,g,s⟩
    case measure=>simp[intOf];omega
  ·have g:Hid (b= -1):=by
    show _=_;rw[f.o,show n-q=0 by omega];rfl
   go_wp2;go_ret;exact⟨aC g.o.symm,l⟩
def GE(o:Nat->Bool)(ps:List Nat)(A:Option Addr)(k n:Nat)(w:World)(hr:an w w.heap.size 1 A n (ps.map ifC))(hn:n<=1000)
  (hov:∀j (hj:j<ps.length) U,M w U->C 257 #[Z (ps[j]) 0] U (J (.bool (o j)) U)):
  C 101 #[.slice A n k] w (J (I (cntN o n:Int)) w):=by
 have g:n=ps.length:=by have:=hr.len;simpa using this
 have x:=Z1 hov;have y:=Z1 g;have G:=BK;clear g hov
 go_in
 go_wp2;go_loopw [3,8] (λs i wr=>∃(q:Nat),q<=n/\i=I q/\s=I (cntN o q:Int)/\M w wr) (λ_ i _=>n-(intOf i).toNat)
 case atStart=>exact⟨0,zO,rfl,rfl,Oy _ _⟩
 case round=>
  obtain⟨q,H,rfl,rfl,a⟩:=hrel;by_cases h:q<n
  ·have b:q<ps.length:=by have:=y.o;omega
   obtain⟨z,v,rfl,_,d,l⟩:=(hr.below a).at_ h;have m:v=ifC ps[q]:=by simp[b]at d;exact d.symm
   subst m;have p:=Z1 (x.o q b);have r:cntN o (q+1)=cntN o q+if o q=true then 0 else 1:=rfl
   have D:=BJ o q;generalize ps[q]=B at*;generalize cntN o q=S at*;have F:wr.cell? (z.add q)=some (.iface 117 (Z B 0)):=l;have t:=Z1 r;clear r d l;go_wp2_with fail;refine zm (p.o _ a) λL u=>?_;have c:=af a u
   cases hot:o q with
   |true=>
    have f:Hid (S=cntN o (q+1)):=Z1 (by rw[t.o,hot];rfl);clear hot;go_wp2;go_roundw
    case rel=>exact⟨q+1,zO,by go_num,by rw[<-f.o],c⟩
    case measure=>simp[intOf];omega
   |false=>
    have f:Hid (((S:Int)+1)=((cntN o (q+1):Nat):Int)):=Z1 (by rw[t.o,hot];rfl);clear hot;go_wp2;go_roundw
    case rel=>exact⟨q+1,zO,by go_num,by rw[<-f.o],c⟩
    case measure=>simp[intOf];omega
  ·obtain rfl:q=n:=zO;go_wp2;go_ret;exact⟨rfl,a⟩
def KF:∃z,cE prog 40 73 z 11 96:=by
 have h:(prog.info? 73).map (λi=>(i.zero.isSome,i.size,i.bytes))=some (true,11,96):=zR;have a:=dU.zero
 cases hi:prog.info? 73 with
 |none=>simp[hi]at h
 |some i=>
  cases hzz:i.zero with
  |none=>simp[hi,hzz]at h
  |some z=>
   simp[hi,hzz]at h a;exact⟨z,underlying40,by simp[hi,hzz,h],a⟩
def MO(l:List Cl):∀u∈cls l,u.oneCell'=true:=λu a=>by
 obtain⟨x,_,b⟩:=QU.1 a;have:=mF x;rw[Re]at this;exact this u (Array.mem_toList_iff.1 b)
def GF(hc:c.ok)(T:Nat->Tg)(wp:Nat)(g:Gs)(hg:GAt w c T wp g)(t:Nat)(ht:t<32)(prog:List Cl)(A:Option Addr)(k n:Nat)(hr:an w w.heap.size 11 A n (cls prog))(hn:n<=1000):
  Calls Tryz.prog 49 #[Z wp 0,I t,.slice A n k] w λe w'=>∃p,e=.returned (Z p 0)/\cY w' c (ext T w.heap.size .free) wp p (.new prog t)/\w.heap.size<=p/\M w w':=by
 have H:=Cg.I0 hc;have y:=Z1 (oS w c hc T wp g hg);have s:=AY hr;obtain⟨z,r⟩:=KF;obtain⟨B,f,h,i,j⟩:=info_parts r.info;have a:=Z5 r f h i j;have L:((c.st:Int)+2==0)=false:=zT;have N:decide ((32:Int)<=(t:Int))=false:=zT;have O:decide ((t:Int)<0)=false:=zS;have D:Hid (w.ownsRow w.heap.size 73 11 (.slice none 0 0) 0 []):=Z1 (Pn w _ _ _);have F:=Z1 s;clear hg r f h i j s
 go_in
 go_wp2_with fail;refine zY y.o ?_
 go_wp2_with (at_builtin;go_must (refine bP w rfl (.const (.slice none 0 0)) (.tmp 19) 40 rfl w.heap.size 73 B z 11 96 underlying40 a.o.2.1 a.o.2.2.1 a.o.2.2.2.1 a.o.2.2.2.2 a.o.1.cells zP (.slice none 0 0) 0 [] rfl D.o w.heap.size A n k (cls prog) rfl hr (MO prog) zU zO (OA _) ?_);intro P w' l u _;obtain⟨v,x,rfl,_,_⟩:=ak l)
 have d:=(Oy w.heap.size w).grown u (OA _) λq G=>by cases G
 go_ret;have m:w'.ownsRow w.heap.size 73 11 (.slice v n x) n (cls prog):=by simpa using l
 refine⟨w'.heap.size,rfl,⟨.slice v n x,.slice none 0 0,Blk.A8 w' _ _ rfl,cC T _ d.size,?_,λb e=>cC T _ (m.lt b e).1,.inl ⟨rfl,rfl⟩,λb e=>by cases e⟩,d.size,ae d _⟩;show World.ownsRow _ 0 _ 11 _ prog.length (cls prog);rw[<-F.o];exact aP (m.alloc _) (OK _)
def GG(hc:c.ok)(T:Nat->Tg)(wp:Nat)(g:Gs)(hg:GAt w c T wp g)(t:Nat)(ht:t<32):
  C 50 #[Z wp 0,I t] w λe w'=>∃p,e=.returned (Z p 0)/\aO w' c (ext T w.heap.size .free) wp p (.new t)/\w.heap.size<=p/\M w w':=by
 have b:=Cg.I0 hc;have a:=Z1 (oS w c hc T wp g hg);have d:((c.st:Int)+2==0)=false:=zT;have f:decide ((32:Int)<=(t:Int))=false:=zT;have h:decide ((t:Int)<0)=false:=zS;clear hg
 go_in
 go_wp2_with fail;refine zY a.o ?_;go_wp2;go_ret;exact⟨w.heap.size,rfl,⟨.pointer none,Blk.A8 w _ _ rfl,cC T _ (OA _),.inl ⟨rfl,by show(0:Nat)≠5;decide,by show(0:Nat)≠6;decide⟩⟩,OA _,ae (Oy _ w) _⟩
def jp(wp:Nat)(vt vw:Value)(nc used:Nat):Array Value:=#[Z wp 0,vt,vw,I (nc:Int),I (used:Int)]
structure ew(w:World)(c:Cg)(T:Nat->Tg)(B wp ep:Nat)(e:En)(pcs pws:List Nat)(A:Option Addr)(k:Nat)(vw:Value)(used:Nat):Prop where
 B0:Blk w ep 116 (jp wp (.slice A e.count k) vw e.cs.length used)
 te:T ep=.free
 out:∀b,b<B->T b=.eng
 size:B<=w.heap.size
 g:GAt w c T wp e.g
 row:w.ownsRow 0 123 1 (.slice A e.count k) e.count (pcs.map ifC++pws.map ifW)
 tr:∀b,(Value.slice A e.count k).ownBlock=some b->T b=.free
 lc:pcs.length=e.cs.length
 lw:pws.length=e.ws.length
 D7:(pcs++pws).Nodup
 cs:∀(i:Nat) (x:Ci) p,e.cs[i]?=some x->pcs[i]?=some p->cY w c T wp p x
 ws:∀(j:Nat) (x:Wi) p,e.ws[j]?=some x->pws[j]?=some p->aO w c T wp p x
def ew.o:=@ew.out
def kY(w:World)(c:Cg)(B ep:Nat)(e:En):Prop:=∃T wp pcs pws A k vw,ew w c T B wp ep e pcs pws A k vw e.used
section
variable {w w':World} {c:Cg} {T T':Nat→Tg} {B wp ep:Nat} {e:En} {pcs pws:List Nat} {A:Option Addr} {k:Nat} {vw:Value} {used t j p:Nat} {g':Gs}
def cI.K5{x:Ci}(h:cI w c T wp p x vp vo)(hK:ag L w w')(h1:¬L p)(h2:∀b,vp.ownBlock=some b->¬L b)(h3:∀b,vo.ownBlock=some b->¬L b)(hT:∀b,b<w.heap.size->T b=.free->T' b=.free):cI w' c T' wp p x vp vo:=
 ⟨hK.B0 h.B0 h1,hT _ h.B0.lt h.tp,hK.C8 h.prog h2,λb e=>hT _ (h.prog.lt b e).2 (h.I5 b e),h.ops.imp id λa=>hK.C8 a h3,λb e=>by
  rcases h.ops with a|a
  ·rw[a.1]at e;cases e
  ·exact hT _ (a.lt b e).2 (h.G4 b e)⟩
def eM.K5{x:Wi}{vs:Value}(h:eM w c T wp p x vs)(hK:ag L w w')(h1:¬L p)(hL:∀b,T b=.fz->¬L b)(hT:∀b,b<w.heap.size->T b=.free\/T b=.fz->T' b=T b):eM w' c T' wp p x vs:=
 ⟨hK.B0 h.B0 h1,(hT _ h.B0.lt (.inl h.tp)).trans h.tp,h.D9.imp id λ⟨a,e,d⟩=>⟨a,e,((d.more (G:=λb=>T b=.fz/\b<w.heap.size) λb f e=>⟨e,f⟩).B7 hK λb e=>hL b e.1).more λb _ e=>(hT b e.2 (.inr e.1)).trans e.1⟩⟩
def cY.B0{x:Ci}(h:cY w c T wp p x):∃xs,Blk w p 201 xs:=by
 obtain⟨a,b,h⟩:=h;exact⟨_,h.B0⟩
def aO.B0{x:Wi}(h:aO w c T wp p x):∃xs,Blk w p 203 xs:=by
 obtain⟨a,h⟩:=h;exact⟨_,h.B0⟩
def cY.D1{x:Ci}{q:Nat}{t:TypeId}{xs:Array Value}(h:cY w c T wp p x)(hq:Blk w q t xs)(hqt:t=201\/t=203)(hne:p≠q)(hK:ag (λb=>eN (T b)\/b=q) w w')(hT:aW T T' w.heap.size):cY w' c T' wp p x:=by
 obtain⟨l,m,h⟩:=h;have d:∀b,T b=.free->b≠q->¬(eN (T b)\/b=q):=λb n g a=>by
  rcases a with a|a
  ·rw[n]at a;exact a
  ·exact g a
 have i:t≠73/\t≠250:=by rcases hqt with e|e<;>rw[e]<;>decide
 refine⟨l,m,h.K5 hK (d _ h.tp hne) (λb e=>d b (h.I5 b e) λg=>aB h.prog hq i.1.symm (g▸e)) (λb e=>d b (h.G4 b e) λg=>?_) λb o e=>(hT.keepT o (by rw[e];intro k f;cases f)).trans e⟩
 rcases h.ops with j|j
 ·rw[j.1]at e;cases e
 ·exact aB j hq i.2.symm (g▸e)
def aO.D1{x:Wi}(h:aO w c T wp p x)(hq:T q=.free)(hne:p≠q)(hK:ag (λb=>eN (T b)\/b=q) w w')(hT:aW T T' w.heap.size):aO w' c T' wp p x:=by
 obtain⟨g,h⟩:=h;refine⟨g,h.K5 hK (λa=>?_) (λb d a=>?_) λb i e=>hT.keepT i (by rcases e with e|e<;>rw[e]<;>intro k f<;>cases f)⟩
 ·rcases a with a|a
  ·rw[h.tp]at a;exact a
  ·exact hne a
 ·rcases a with a|a
  ·rw[d]at a;exact a
  ·rw[a,hq]at d;cases d
def ew.up(h:ew w c T B wp ep e pcs pws A k vw used)(hb:M w w'):ew w' c T B wp ep e pcs pws A k vw used:=
 ⟨h.B0.later hb,h.te,h.o,OJ h.size hb.size,h.g.up hb,aN h.row hb,h.tr,h.lc,h.lw,h.D7,λi x p a b=>(h.cs i x p a b).up hb,λj x p a b=>(h.ws j x p a b).up hb⟩
def KG{l m:List Nat}{i j a b:Nat}(h:(l++m).Nodup)(h1:l[i]?=some a)(h2:l[j]?=some b)(hne:i≠j):a≠b:=λe=>by
 rw[Qa]at h;subst e;have c:=cz h1;exact hne ((List.getElem?_inj c h.1).1 (h1.trans h2.symm))
def KH{l m:List Nat}{i j a b:Nat}(h:(l++m).Nodup)(h1:m[i]?=some a)(h2:m[j]?=some b)(hne:i≠j):a≠b:=λe=>by
 rw[Qa]at h;subst e;have c:=cz h1;exact hne ((List.getElem?_inj c h.2.1).1 (h1.trans h2.symm))
def yr{l m:List Nat}{i j a b:Nat}(h:(l++m).Nodup)(h1:l[i]?=some a)(h2:m[j]?=some b):a≠b:=by
 rw[Qa]at h;exact h.2.2 a (Qx h1) b (Qx h2)
def ew.core{tt:TypeId}(h:ew w c T B wp ep e pcs pws A k vw used)(hq:Blk w q tt xs)(htt:tt=201\/tt=203)(hqf:T q=.free)(hK:ag (λb=>eN (T b)\/b=q) w w')(hT:aW T T' w.heap.size):
  Blk w' ep 116 (jp wp (.slice A e.count k) vw e.cs.length used)/\T' ep=.free/\(∀b,b<B->T' b=.eng)/\B<=w'.heap.size/\w'.ownsRow 0 123 1 (.slice A e.count k) e.count (pcs.map ifC++pws.map ifW)/\(∀b,(Value.slice A e.count k).ownBlock=some b->T' b=.free)/\Below B w w':=by
 have g:∀b,T b=.free->b≠q->¬(eN (T b)\/b=q):=λb l d a=>by
  rcases a with a|a
  ·rw[l]at a;exact a
  ·exact d a
 have j:tt≠116/\tt≠123:=by rcases htt with e|e<;>rw[e]<;>decide
 have m:B<=q:=Pg λe=>by
  have:=h.o q zO;rw[hqf]at this
  cases this
 refine⟨hK.B0 h.B0 (g _ h.te (fq h.B0 hq j.1.symm)),(hT.keepT h.B0.lt (by rw[h.te];intro k f;cases f)).trans h.te,λb i=>(hT.keepT (OV i h.size) (by rw[h.o b i];intro k f;cases f)).trans (h.o b i),OJ h.size hK.size,hK.C8 h.row λb e=>g b (h.tr b e) λd=>aB h.row hq j.2.symm (d▸e),λb e=>(hT.keepT (h.row.lt b e).2 (by rw[h.tr b e];intro k f;cases f)).trans (h.tr b e),(hK.C3 λb e=>?_).L1 h.size⟩
 rcases e with e|e
 ·refine Pg λd=>?_;rw[h.o b zO]at e;exact e
 ·omega
def ew.K3{x x':Ci}(h:ew w c T B wp ep e pcs pws A k vw used)(hx:e.cs[t]?=some x)(hp:pcs[t]?=some p)(hN:bp w w' c T wp g' p x'):
  ∃T',ew w' c T' B wp ep {e with g:=g',cs:=e.cs.set t x'} pcs pws A k vw used/\Below B w w':=by
 obtain⟨T',l,s,u,m⟩:=hN;have d:=h.cs t x p hx hp;obtain⟨R,o⟩:=d.B0;obtain⟨P,Q,f⟩:=d;obtain⟨v,z,D,F,G,H,L⟩:=h.core o (.inl rfl) f.tp m l;have b:({e with g:=g',cs:=e.cs.set t x'}:En).count=e.count:=by unfold En.count;simp
 have r:=cz hx;refine⟨T',⟨?_,z,D,F,s,?_,?_,by simp[h.lc],h.lw,h.D7,λi y q n a=>?_,λj y q n a=>?_⟩,L⟩
 ·rw[b];simp only[PI];exact v
 ·rw[b];exact G
 ·rw[b];exact H
 ·rcases dp n r with⟨rfl,rfl⟩|⟨N,O⟩
  ·rw[hp]at a;injection a with a;exact a▸u
  ·exact(h.cs i y q O a).D1 o (.inl rfl) (KG h.D7 a hp N) m l
 ·exact(h.ws j y q n a).D1 f.tp (yr h.D7 hp a).symm m l
def ew.M5{x x':Wi}(h:ew w c T B wp ep e pcs pws A k vw used)(hx:e.ws[j]?=some x)(hp:pws[j]?=some p)(hN:aV w w' c T wp g' p x'):
  ∃T',ew w' c T' B wp ep {e with g:=g',ws:=e.ws.set j x'} pcs pws A k vw used/\Below B w w':=by
 obtain⟨T',l,s,t,m⟩:=hN;have d:=h.ws j x p hx hp;obtain⟨P,o⟩:=d.B0;obtain⟨O,f⟩:=d;obtain⟨u,v,z,D,F,G,H⟩:=h.core o (.inr rfl) f.tp m l;have b:({e with g:=g',ws:=e.ws.set j x'}:En).count=e.count:=by unfold En.count;simp
 have r:=cz hx;refine⟨T',⟨?_,v,z,D,s,?_,?_,h.lc,by simp[h.lw],h.D7,λi y q n a=>?_,λi y q n a=>?_⟩,H⟩
 ·rw[b];exact u
 ·rw[b];exact F
 ·rw[b];exact G
 ·exact(h.cs i y q n a).D1 o (.inr rfl) (yr h.D7 a hp) m l
 ·rcases dp n r with⟨rfl,rfl⟩|⟨L,N⟩
  ·rw[hp]at a;injection a with a;exact a▸t
  ·exact(h.ws i y q N a).D1 f.tp (KH h.D7 a hp L) m l
def ew.own(h:ew w c T B wp ep e pcs pws A k vw used)(hO:aI ep w w'){used':Nat}(hb:Blk w' ep 116 (jp wp (.slice A e.count k) vw e.cs.length used')):ew w' c T B wp ep e pcs pws A k vw used'/\Below B w w':=by
 have hK:=hO.B7;have t:B<=ep:=Pg λq=>by
  have:=h.o ep zO;rw[h.te]at this
  cases this
 refine⟨⟨hb,h.te,h.o,OJ h.size hK.size,h.g.only h.te hO,hK.C8 h.row λb e f=>aB h.row h.B0 zP (f▸e),h.tr,h.lc,h.lw,h.D7,λi x p d l=>?_,λj x p d l=>?_⟩,(hK.C3 λb e=>zO).L1 h.size⟩
 ·obtain⟨n,r,a⟩:=h.cs i x p d l;refine⟨n,r,a.K5 hK (fq a.B0 h.B0 zP) (λb e f=>aB a.prog h.B0 zP (f▸e)) (λb e f=>?_) λb _ e=>e⟩
  rcases a.ops with m|m
  ·rw[m.1]at e;cases e
  ·exact aB m h.B0 zP (f▸e)
 ·obtain⟨s,a⟩:=h.ws j x p d l;exact⟨s,a.K5 hK (fq a.B0 h.B0 zP) (λb e f=>by rw[f,h.te]at e;cases e) λb _ _=>rfl⟩
end
def DI{c:Cg}{e:En}(hp:ge c ps)(hi:dI c ps e)(hu:e.used<=30000){x:Wi}(hx:e.ws[j]?=some x)(hr:x.ready c e.g=true)(w:World)(T:Nat->Tg)(wp p:Nat)(hg:GAt w c T wp e.g)(h:aO w c T wp p x):
  C 339 #[Z p 0] w λr w'=>r=.returned (.tuple #[])/\aV w w' c T wp (aM c e.g x).1 p (aM c e.g x).2:=by
 have a:=hi.wok hp hu hx;have f:=hi.L.Q1 j x hx;have hd:=f.B6;have N:=Wi.G1 hr;have o:=hi.L.lk;have l:=hi.E5 hp hu;have S:=hi.evs hu;have b:∀n:Nat,n<c.st+2->(e.g.lock n).line.length<=900:=λn y=>OJ (o.E5 y) zP;have d:c.st+1<c.st+2:=zO;have i:homeN c x.key<c.st+2:=by have:=cJ hp.cfg x.key;omega
 have B:x.home c=((homeN c x.key:Nat):Int):=cy hp.cfg _;have G:=f.M4 o hr;have s:∀n:Nat,n<c.st+2->cS c e.g x n≠none->e.g.held n x.task≠0:=λn y O=>f.has o hr y (by rw[f.cl n y];exact O);have v:=hi.Q.wb j x hx;have u:(x.B6=1\/x.B6=2\/x.B6=11\/x.B6=12\/x.B6=14)->cS c e.g x (c.st+1)≠none:=λq=>by
  unfold cS;by_cases H:x.B6=1
  ·rw[OB H,OB ⟨rfl,λq=>G q.2⟩];simp
  ·rw[Oz H,OB zO,OB rfl];simp
 have z:x.B6=0\/x.B6=1\/x.B6=2\/x.B6=3\/x.B6=4\/x.B6=5\/x.B6=6\/x.B6=7\/x.B6=8\/x.B6=9\/x.B6=10\/x.B6=11\/x.B6=12\/x.B6=14:=zO
 rcases z with k|k|k|k|k|k|k|k|k|k|k|k|k|k
 ·exact Ku w c hp.cfg T wp p e.g x hg h a hr k (b _ d)
 ·cases hq:e.g.q.line with
  |nil=>
   by_cases D:e.g.q.over=true
   ·exact Gy w c hp.cfg T wp p e.g x hg h a hr k l hq D
   ·have F:∀m:Nat,m<c.st+2->clG e.g x.task m=if m=c.st+1 then some true else none:=λm P=>by
     rw[f.cl m P];unfold cS;rw[OB k];by_cases A:m=c.st+1
     ·rw[OB A,OB ⟨A,λq=>G q.2⟩]
     ·rw[Oz A,Oz λq=>A q.1]
    have U:=hi.L.I4 j x hx;have X:=cz hx;have R:=(o.sleep (t:=x.task) (by unfold En.count;omega) (f.has o hr d (by rw[F _ d];simp)) F G).1;exact Gz w c hp.cfg T wp p e.g x hg h a hr k l hq (by simpa using D) R
  |cons kk r=>exact Gx w c hp.cfg T wp p e.g x hg h a hr k l kk r hq (hi.Q.q.ld kk (by rw[hq];simp)) zO
 ·exact Kv w c hp.cfg T wp p e.g x hg h a hr k (s _ d (u zO)) (b _ d)
 ·exact Kw w c hp.cfg T wp p e.g x hg h a hr k (b _ i)
 ·exact KC w c hp.cfg T wp p e.g x hg h a hr k (hi.Q.bk _ (v ⟨zO,zO⟩)) zO
 ·exact Kx w c hp.cfg T wp p e.g x hg h a hr k (s _ i (by unfold cS;rw[Oz zO,Oz zO,OB zO,OB B.symm];simp)) (b _ i)
 ·exact Ky w c hp.cfg T wp p e.g x hg h a hr k
 ·exact Kz w c hp.cfg T wp p e.g x hg h a hr k (b _ i)
 ·exact KA w c hp.cfg T wp p e.g x hg h a hr k (hi.Q.bk _ (v ⟨zO,zO⟩)) zO
 ·exact KB w c hp.cfg T wp p e.g x hg h a hr k (s _ i (by unfold cS;rw[Oz zO,Oz zO,Oz zO,OB zO,OB B.symm];simp)) (b _ i)
 ·exact GA w c hp.cfg T wp p e.g x hg h a hr k (b _ d)
 ·exact GB w c hp.cfg T wp p e.g x hg h a hr k l (v ⟨zO,zO⟩) zO
 ·exact GC w c hp.cfg T wp p e.g x hg h a hr k (s _ d (u zO)) (b _ d)
 ·exact GD w c hp.cfg T wp p e.g x hg h a hr k (s _ d (u zO)) (b _ d)
def gQ(c:Cg)(e:En)(pick:Int):Int:=match e.next c pick with
 |some t=>(t:Int)
 |none=> -1
def ja(c:Cg)(e:En)(pick:Int):En:=match e.next c pick with
 |some t=>e.go c t
 |none=>e
def vK:DH (e.ready c) pick e.count=gQ c e pick:=rfl
def ew.can{w:World}{c:Cg}{wp ep:Nat}{e:En}(hp:ge c ps)(hi:dI c ps e)(hu:e.used<=30000)(h:ew w c T B wp ep e pcs pws A k vw used)(j:Nat)(hj:j<(pcs.map ifC++pws.map ifW).length)(U:World)(hU:M w U):
  C 100 #[(pcs.map ifC++pws.map ifW)[j]] U λr w'=>r=.returned (.bool (e.ready c j))/\M U w':=by
 have b:=h.up hU;by_cases d:j<pcs.length
 ·have i:j<e.cs.length:=by rw[<-h.lc];exact d
  have a:=OL i;have f:(pcs.map ifC++pws.map ifW)[j]=ifC pcs[j]:=by
   rw[PK (by simpa using d),List.getElem_map]
  rw[f,Mv a];exact NH U c hp.cfg T wp _ e.g _ b.g (b.cs j _ _ a (OL d)) (hi.S4 hp a)
 ·have l:j-pcs.length<pws.length:=by simp at hj;omega
  have m:j-pcs.length<e.ws.length:=by rw[<-h.lw];exact l
  have a:=OL m;have f:(pcs.map ifC++pws.map ifW)[j]=ifW pws[j-pcs.length]:=by
   rw[Qi (by simpa using d),List.getElem_map];simp
  have n:j=e.cs.length+(j-pcs.length):=by have:=h.lc;omega
  have o:=Mw (c:=c) a;rw[<-n]at o;rw[f,o];exact NI U c hp.cfg T wp _ e.g _ b.g (b.ws _ _ _ a (OL l)) (hi.wok hp hu a)
def BL{w:World}{c:Cg}{wp ep:Nat}{e:En}{u2:Nat}(h:ew w c T B wp ep e pcs pws A k vw used):ew w c T B wp ep {e with used:=u2} pcs pws A k vw used:=⟨h.B0,h.te,h.o,h.size,h.g,h.row,h.tr,h.lc,h.lw,h.D7,h.cs,h.ws⟩
def BM{w:World}{t:TypeId}{xs:List Value}(h:w.ownsRow B t 1 (.slice A n k) n xs)(hj:j<n):∃ad,A=some ad/\∀U,M w U->∀v,xs[j]?=some v->U.cell? (ad.add j)=some v:=by
 obtain⟨ad,v,c,_,_,_⟩:=(an.C4 h).at_ hj;refine⟨ad,c,λU e v f=>?_⟩;obtain⟨g,i,b,_,a,d⟩:=(an.C4 (aN h e)).at_ hj;rw[c]at b;injection b with b;subst b;rw[f]at a;injection a with a;rw[a];exact d
def yu{α:Type}{l:List α}{i:Nat}(h:i<l.length):∃a,l[i]?=some a:=⟨_,OL h⟩
def yw(vt vw:Value)(nc used n:Nat):(jp wp vt vw nc used).setIfInBounds 4 (I (n:Int))=jp wp vt vw nc n:=rfl
def GH(B ep:Nat)(e:En)(ps:List (List Cl))(hp:ge c ps)(hi:dI c ps e)(hu:e.used<=30000)(hn0:0<e.count)(h:kY w c B ep e)(pick:Int)(hpk:aq pick):
  C 11 #[Z ep 0,I pick] w λr w'=>r=.returned (I (gQ c e pick))/\kY w' c B ep (ja c e pick)/\Below B w w':=by
 obtain⟨T,R,s,u,A,k,vw,h⟩:=h;have au:=hi.L.lk.n32;have v:=Z1 (λU (m:M w U)=>vJ (e.ready c) _ pick A k e.count U (an.C4 (h.up m).row) hn0 zO hpk (ew.can hp hi hu (h.up m)));rw[vK]at v;have S:w.cell? (Y ep 1)=some (.slice A e.count k):=h.B0.cell 1;have H:=Z1 h;have i:gQ c e pick=match e.next c pick with|some t=>(t:Int)|none=> -1:=rfl
 have l:ja c e pick=match e.next c pick with|some t=>e.go c t|none=>e:=rfl
 have hw:IntKind.i64.wrap ((e.used:Int)+1)=((e.used+1:Nat):Int):=by rw[OX];omega
 cases hnx:e.next c pick with
 |none=>
  rw[hnx]at i l;simp only at i l;rw[i]at v ⊢;rw[l];clear h i l hnx hi hp;generalize e.count=n at*
  go_in
  go_wp2_with fail;refine zm (v.o _ (Oy _ _)) λQ a=>?_;have q:=Z1 a;clear a S;go_wp2;go_ret;exact⟨rfl,⟨T,R,s,u,A,k,vw,H.o.up q.o⟩,q.o.mono H.o.size⟩
 |some t=>
  obtain⟨hr,y⟩:=vn hnx;rw[hnx]at i l;simp only at i l;rw[i]at v ⊢;rw[l];clear i l hnx
  rcases i6 hr with⟨x,d,P⟩|⟨j,x,rfl,d,P⟩
  ·obtain⟨O,b⟩:=yu (show t<s.length by have:=h.lc;have:=cz d;omega);have X:(s.map ifC++u.map ifW)[t]?=some (ifC O):=by
    rw[Pk (by simpa using cz b),Pz,b];rfl
   obtain⟨ad,rfl,z⟩:=BM h.row y;have ab:=Z1 (λU m=>z U m _ X);have ac:=Z1 (λU (m:M w U)=>DD U c hp.cfg T R O e.g x (h.up m).g ((h.up m).cs t x O d b) (hi.S4 hp d) P (DG hp.cfg _) (hi.U5 hp hu d P));have D:=Dn (c:=c) d;have hm:=ML;have al:=y;rw[D];have HX:=Z1 d;have ae:=Z1 b;clear h d b X hr hi hp D z y;generalize af:e.count=n at*
   go_in
   go_wp2_with fail;refine zm (v.o _ (Oy _ _)) λQ a=>?_;have q:=Z1 a;have S:Q.cell? (Y ep 1)=some (.slice (some ad) n k):=by
    have:=(H.o.B0.later a).cell 1;rw[<-af];exact this
   have c2:=ab.o Q a;unfold ifC at c2;have ar:decide ((t:Int)<0)=false:=by simp;try omega
   clear a;go_wp2_with fail;refine zm (ac.o _ q.o) λw2 F=>?_;obtain⟨T2,f,G⟩:=(H.o.up q.o).K3 HX.o ae.o F;have p:=Z2 f G;have c4:w2.cell? (Y ep 4)=some (I (e.used:Int)):=f.B0.cell 4;have f4:=f.B0.frozen 4;clear S c2 F f G;go_wp2;go_ret;have N:=p.o.1.B0.B4 4 (I ((e.used+1:Nat):Int));rw[yw]at N;obtain⟨ah,ai⟩:=p.o.1.own (aI.B4 _ _ _ _) N;refine⟨rfl,⟨T2,R,s,u,some ad,k,vw,?_⟩,((q.o.mono H.o.size).trans p.o.2).trans ai⟩;exact BL ah
  ·obtain⟨O,b⟩:=yu (show j<u.length by have:=h.lw;have:=cz d;omega);have X:(s.map ifC++u.map ifW)[e.cs.length+j]?=some (ifW O):=by
    rw[Ph (by simp[h.lc]),Pz,Pe,h.lc,show e.cs.length+j-e.cs.length=j from by omega,b];rfl
   obtain⟨ad,rfl,z⟩:=BM h.row y;have ab:=Z1 (λU m=>z U m _ X);have ac:=Z1 (λU (m:M w U)=>DI hp hi hu d P U T R O (h.up m).g ((h.up m).ws j x O d b));have D:=Do (c:=c) d;have hm:=MN;have al:=y;rw[D];have HX:=Z1 d;have ae:=Z1 b;clear h d b X hr hi hp D z y;generalize af:e.count=n at*
   go_in
   go_wp2_with fail;refine zm (v.o _ (Oy _ _)) λQ a=>?_;have q:=Z1 a;have S:Q.cell? (Y ep 1)=some (.slice (some ad) n k):=by
    have:=(H.o.B0.later a).cell 1;rw[<-af];exact this
   have c2:=ab.o Q a;unfold ifW at c2;have ar:decide ((e.cs.length+j:Int)<0)=false:=by simp;try omega
   clear a;go_wp2_with fail;refine zm (ac.o _ q.o) λw2 F=>?_;obtain⟨T2,f,G⟩:=(H.o.up q.o).M5 HX.o ae.o F;have p:=Z2 f G;have c4:w2.cell? (Y ep 4)=some (I (e.used:Int)):=f.B0.cell 4;have f4:=f.B0.frozen 4;clear S c2 F f G;go_wp2;go_ret;have N:=p.o.1.B0.B4 4 (I ((e.used+1:Nat):Int));rw[yw]at N;obtain⟨ah,ai⟩:=p.o.1.own (aI.B4 _ _ _ _) N;refine⟨rfl,⟨T2,R,s,u,some ad,k,vw,?_⟩,((q.o.mono H.o.size).trans p.o.2).trans ai⟩;exact BL ah
section
variable {c:Cg} {ps:List (List Cl)} {e:En}
def KK(t:Nat):(e.go c t).count=e.count/\(e.go c t).cs.length=e.cs.length/\(e.go c t).ws.length=e.ws.length/\(e.go c t).used<=e.used+1:=by
 unfold En.go;split
 ·split
  ·simp[En.count]
  ·exact⟨rfl,rfl,rfl,OW _⟩
 ·split
  ·simp[En.count]
  ·exact⟨rfl,rfl,rfl,OW _⟩
def qV(p:Int):(ja c e p).count=e.count/\(ja c e p).cs.length=e.cs.length/\(ja c e p).ws.length=e.ws.length/\(ja c e p).used<=e.used+1:=by
 unfold ja;split
 ·exact KK _
 ·exact⟨rfl,rfl,rfl,OW _⟩
def dI.step(hp:ge c ps)(h:dI c ps e)(hu:e.used<=30000)(p:Int):dI c ps (ja c e p):=by
 unfold ja;split
 ·rename_i t a;exact h.go hp hu (vn a).1
 ·exact h
def rU(p:Int)(r:List Int):En.run c e (p::r)=if e.next c p=none then e else En.run c (ja c e p) r:=by
 show(match En.step c e p with|some e'=>En.run c e' r|none=>e)=_;unfold En.step ja
 cases e.next c p with
 |none=>rfl
 |some t=>rw[Oz zS];rfl
def dI.run(hp:ge c ps):∀(l:List Int) {e:En},dI c ps e->e.used+l.length<=30000->dI c ps (En.run c e l)/\(En.run c e l).used<=e.used+l.length/\(En.run c e l).count=e.count/\(En.run c e l).cs.length=e.cs.length/\(En.run c e l).ws.length=e.ws.length
 |[],e,h,_=>⟨h,OA _,rfl,rfl,rfl⟩
 |p::r,e,h,hu=>by
  rw[rU];simp only[OC]at hu;split
  ·exact⟨h,zS,rfl,rfl,rfl⟩
  ·obtain⟨c1,c2,c3,c4⟩:=qV (c:=c) (e:=e) p;obtain⟨a,g,b,d,f⟩:=dI.run hp r (h.step hp zO p) zO;exact⟨a,by simp only[OC];omega,b.trans c1,d.trans c2,f.trans c3⟩
def yy(p:Int):gQ c e p<0↔e.next c p=none:=by
 unfold gQ
 cases e.next c p with
 |none=>simp
 |some t=>simp
end
structure Lp(w wr:World)(c:Cg)(B ep:Nat)(ps:List (List Cl))(e e':En)(l:List Int)(j:Nat):Prop where
 at_:kY wr c B ep e'
 inv:dI c ps e'
 used:e'.used<=e.used+j
 count:e'.count=e.count
 rest:En.run c e l=En.run c e' (l.drop j)
 below:Below B w wr
def KL(w:World)(c:Cg)(B ep:Nat)(e:En)(ps:List (List Cl))(hp:ge c ps)(hi:dI c ps e)(hn0:0<e.count)(h:kY w c B ep e)(l:List Int)(hl:∀p∈l,aq p)(A:Option Addr)(k n:Nat)(hr:an w B 1 A n (i64s l))(hu:e.used+n<=30000):
  C 27 #[Z ep 0,.slice A n k] w λr w'=>(∃q:Int,r=.returned (I q))/\kY w' c B ep (En.run c e l)/\Below B w w':=by
 have y:n=l.length:=by have:=hr.len;simpa[i64s]using this
 have O:=Z1 y;have S:Hid (Lp w w c B ep ps e e l 0):=Z1 ⟨h,hi,OA _,rfl,rfl,Oy _ _⟩;have H:=Z2 hp hl;clear h hi hp hl y
 go_in
 go_wp2;go_loopw [5,10] (λs i wr=>∃j:Nat,j<=n/\i=I j/\s=I j/\Hid (∃d,Lp w wr c B ep ps e d l j)) (λ_ i _=>n-(intOf i).toNat)
 case atStart=>exact⟨0,OK _,rfl,rfl,Z1 ⟨e,S.o⟩⟩
 case round=>
  obtain⟨j,hj,rfl,rfl,L⟩:=hrel;obtain⟨d,b⟩:=L.o;by_cases P:j<n
  ·obtain⟨ad,v,rfl,_,N,R⟩:=(hr.below b.below).at_ P;have t:j<l.length:=by have:=O.o;omega
   have Q:v=I l[j]:=by simp[i64s,t]at N;exact N.symm
   subst Q;have z:=Pu t;have D:=H.o.2 _ (OR t);have u:d.used<=30000:=by have:=b.used;omega
   have T:=Z1 (GH wr c B ep d ps H.o.1 b.inv u (by rw[b.count];exact hn0) b.at_ l[j] D);have a:=Z3 b z u;generalize l[j]=g at*;have aa:(j:Int)<(n:Int):=zO;clear b z N D u L;go_wp2_with fail;refine T.o.mono ?_;rintro r2 w2 ⟨rfl,F,G⟩;have f:=Z2 F G;clear F G;by_cases m:d.next c g=none
   ·have U:=(yy g).2 m;have x:=Z1 m;clear m;go_wp2;go_ret;refine⟨⟨_,rfl⟩,?_,a.o.1.below.trans f.o.2⟩;rw[a.o.1.rest,a.o.2.1,rU,OB x.o];have:=f.o.1;unfold ja at this;rw[x.o]at this;exact this
   ·have ab:¬gQ c d g<0:=λq=>m ((yy g).1 q);have x:=Z1 m;have ac:IntKind.i64.wrap ((j:Int)+1)=(j:Int)+1:=by rw[OX];omega
    clear m;go_wp2;go_roundw
    case rel=>
     obtain⟨X,c2,c3,c4⟩:=qV (c:=c) (e:=d) g;refine⟨j+1,zO,by go_num,by go_num,Z1 ⟨_,f.o.1,a.o.1.inv.step H.o.1 a.o.2.2 g,?_,X.trans a.o.1.count,?_,a.o.1.below.trans f.o.2⟩⟩
     ·have:=a.o.1.used;omega
     ·rw[a.o.1.rest,a.o.2.1,rU,Oz x.o]
    case measure=>simp[intOf];omega
  ·obtain rfl:j=n:=zO;have a:=Z1 b;clear b L;go_wp2;go_ret;refine⟨⟨_,rfl⟩,?_,a.o.below⟩;rw[a.o.rest,List.drop_of_length_le (by have:=O.o;omega)];exact a.o.at_
def da(t:Int)(l:List Ev):List Ev:=(l.filter λx=>x.task==t).filter λx=>x.kind==3
def AV(x:Ev):da t (l++[x])=if x.task=t/\x.kind=3 then da t l++[x]else da t l:=by
 unfold da;by_cases h:x.task=t
 ·by_cases a:x.kind=3<;>simp[h,a]
 ·simp[h]
end Go.Fw
