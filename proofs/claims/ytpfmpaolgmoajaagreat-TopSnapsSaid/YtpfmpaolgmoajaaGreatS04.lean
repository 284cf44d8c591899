/- Lemmas of this claim. Conditions: as each says. -/
import Derived.Lib.AppendZerosOnto
import Derived.Test.YtpfmpaolgmoajaaGreatS01
import Derived.RangeFuncNested
import Derived.RangeFuncBound
import Derived.Shelf.Abstract
import Derived.OwnWalkIn
import Derived.TacticsInMore
import Derived.LoopNIn
import Derived.LoopIn
import Derived.Deep.CutBlock
import Derived.Deep.DeepCutAuto
set_option linter.unusedVariables false
set_option linter.unusedSimpArgs false
set_option maxHeartbeats 4000000
set_option maxRecDepth 20000
set_option linter.defProp false
open Go.Proofs.Tryz
namespace Go.Fw
open Go.Proofs Go.RowKit
variable {cur cs:Array Value}{w w':World}{a:Act}{K:Act->World->Prop}{Q:Exit->Act->World->Prop}{x:Vt}{s B n g k m:Nat}{ops:Array Oper}{rest:List Oper}{v vo:Value}{xs:List Value}{A:Option Addr}{P:Program}{D:DataW Unit}{ad:Addr}(f t b:Int)(S:Nat->Prop)(wr:World)(vl sl:Value)(raw:List Int)(r:Rp)(p:Nat)(long:Int)(l:List Ev)(j:Nat)(i:Bool)(d c:Nat)(W:World)
def fU(cur:Array Value)(o:Nat)(vs:List Value)(h:o+vs.length<=cur.size):(bH cur o vs).toList=cur.toList.take o++(vs++cur.toList.drop (o+vs.length)):=by
 apply QI;intro j;rw[PA];by_cases a:j<o
 ·rw[lJ _ _ _ _ (.inl a),Pk zT,Pw a,PA]
 ·by_cases b:j<o+vs.length
  ·obtain⟨k,rfl⟩:∃k,j=o+k:=⟨j-o,zO⟩;rw[ph _ _ _ _ h zO,Ph zT,Pk zT];congr 1;simp;omega
  ·rw[lJ _ _ _ _ (.inr zO),Ph zT,Ph zT,PM,PA];congr 1;simp;omega
section
variable {P:Program} {T:TypeId}
def DT(w:World)(dT sT ty elem:TypeId)(s g off dLen dCap:Nat)(a:Addr)(sLen sCap:Nat)(cs:List Value){t:TypeId}(hb:Blk w g t cur)
  (hu:P.underlying dT=some (.slice elem))(hs:(P.info? elem).map (·.size)=some s)(hn:cs.length=Nat.min sLen dLen*s)
  (hsrc:∀j v,cs[j]?=some v->w.cell? (a.add j)=some v)(hfit:off+cs.length<=cur.size)(h1:∀v∈cs,v.oneCell'=true):
  (Builtin.copy_ #[dT,sT] ty #[V g off dLen dCap,.slice (some a) sLen sCap]).run P w=.ok (goInt (Nat.min sLen dLen)) (w.setCells g off cs):=by
 have b:=run_storeCells_cells (P:=P) g off cs 0 w (λj e=>by rw[Qt,hb.cell,PE zO];rfl) (λj e=>hb.frozen _) h1
 cases hq:P.info? elem with
 |none=>simp[hq]at hs
 |some i=>
  have d:i.size=s:=by simpa[hq]using hs
  have c:=run_firstCells_some (P:=P) w i.size (Nat.min sLen dLen) a sLen sCap cs (by rw[hn,d]) hsrc;rw[d]at c;simp only[Qt]at b;simp[Builtin.copy_,run_underlying hu,Builtin.lenOf,sizeOf,typeInfo,hq,d,c,b]
def yM{o:Oper}(d x:Operand)(dT sT:TypeId)(ho:o.op=.call {callee:=.builtin .copy,args:=#[d,x],argTypes:=#[dT,sT]})
  {elem:TypeId}(hu:P.underlying dT=some (.slice elem))(hs:(P.info? elem).map (·.size)=some s)(g off dLen dCap:Nat)(hd:a.eval d=V g off dLen dCap)(ad:Addr)(sLen sCap:Nat)(hx:a.eval x=.slice (some ad) sLen sCap)
  {t:TypeId}(hb:Blk w g t cur)(cs:List Value)(hn:cs.length=Nat.min sLen dLen*s)(hsrc:∀j v,cs[j]?=some v->w.cell? (ad.add j)=some v)(hfit:off+cs.length<=cur.size)(h1:∀v∈cs,v.oneCell'=true)
  (h:∀w',Blk w' g t (bH cur off cs)->aI g w w'->K (a.put o.dst (goInt (Nat.min sLen dLen))) w'):o.wp P a w K Q:=by
 have b:=DT (P:=P) w dT sT o.type elem s g off dLen dCap ad sLen sCap cs hb hu hs hn hsrc hfit h1;unfold Oper.wp execOp;simp only[ho,resolve,invoke,builtin,Sem.run_bind,Sem.run_pure,Result.andThen_ok,QS,Pi,Qs,hd,hx,b];exact h _ (hb.setCells cs off) (jx g cs w off)
def ii{o:Oper}(hgd:o.guard=none)(d x:Operand)(dT sT:TypeId)(ho:o.op=.call {callee:=.builtin .copy,args:=#[d,x],argTypes:=#[dT,sT]})
  {elem:TypeId}(hu:P.underlying dT=some (.slice elem))(hs:(P.info? elem).map (·.size)=some s)(g off dLen dCap:Nat)(hd:a.eval d=V g off dLen dCap)(ad:Addr)(sLen sCap:Nat)(hx:a.eval x=.slice (some ad) sLen sCap)
  {t:TypeId}(hb:Blk w g t cur)(cs:List Value)(hn:cs.length=Nat.min sLen dLen*s)(hsrc:∀j v,cs[j]?=some v->w.cell? (ad.add j)=some v)(hfit:off+cs.length<=cur.size)(h1:∀v∈cs,v.oneCell'=true)
  (h:∀w',Blk w' g t (bH cur off cs)->aI g w w'->wpList P ops Q rest (a.put o.dst (goInt (Nat.min sLen dLen))) w'):wpList P ops Q (o::rest) a w:=
 wpList_plain hgd λ_ hK=>yM d x dT sT ho hu hs g off dLen dCap hd ad sLen sCap hx hb cs hn hsrc hfit h1 λw' b c=>hK _ _ (h w' b c)
def jd{o:Oper}(hgd:o.guard=none)(x:Operand)(sT:TypeId)(ho:o.op=.call {callee:=.builtin .clear,args:=#[x],argTypes:=#[sT]})
  {elem:TypeId}(hu:P.underlying sT=some (.slice elem))(z:Value)(hz:∀w,(zeroValue elem).run P w=.ok z w)(g off n c:Nat)(hn:0<n)(hx:a.eval x=V g off n c)
  {t:TypeId}(hb:Blk w g t cur)(hfit:off+(Builtin.zeroCells z.cells n).size<=cur.size)(h1:∀v∈(Builtin.zeroCells z.cells n).toList,v.oneCell'=true)
  (h:∀w',Blk w' g t (bH cur off (Builtin.zeroCells z.cells n).toList)->aI g w w'->wpList P ops Q rest (a.put o.dst (.tuple #[])) w'):wpList P ops Q (o::rest) a w:=by
 have b:=run_storeCells_cells (P:=P) g off (Builtin.zeroCells z.cells n).toList 0 w (λj d=>by rw[Qt,hb.cell,PE (by simp at d;omega)];rfl) (λj d=>hb.frozen _) h1;simp only[Qt]at b;obtain⟨m,rfl⟩:∃m,n=m+1:=⟨n-1,zO⟩;refine wpList_plain hgd λK hK=>?_;unfold Oper.wp execOp;simp only[ho,resolve,invoke,builtin,Sem.run_bind,Sem.run_pure,Result.andThen_ok,QS,Pi,Qs,hx];simp[Builtin.clear_,run_underlying hu,hz,b];exact hK _ _ (h _ (hb.setCells _ off) (jx g _ w off))
def kZ{o:Oper}(hgd:o.guard=none)(d x:Operand)(sT:TypeId)(ho:o.op=.call {callee:=.builtin .append,args:=#[d,x],argTypes:=#[sT,sT]})
  {elem:TypeId}(hu:P.underlying sT=some (.slice elem))(hs:(P.info? elem).map (·.size)=some s)(g off k cap:Nat)(hd:a.eval d=V g off k cap)(ad:Addr)(m c:Nat)(hx:a.eval x=.slice (some ad) m c)
  {t:TypeId}(hb:Blk w g t cur)(cs:List Value)(hn:cs.length=m*s)(hsrc:∀j v,cs[j]?=some v->w.cell? (ad.add j)=some v)(hroom:k+m<=cap)(hfit:off+k*s+cs.length<=cur.size)(h1:∀v∈cs,v.oneCell'=true)
  (h:∀w',Blk w' g t (bH cur (off+k*s) cs)->aI g w w'->wpList P ops Q rest (a.put o.dst (V g off (k+m) cap)) w'):wpList P ops Q (o::rest) a w:=by
 cases hq:P.info? elem with
 |none=>simp[hq]at hs
 |some i=>
  have b:i.size=s:=by simpa[hq]using hs
  have e:=run_append_room_cells (P:=P) w sT o.type elem i hu hq g off k cap ad m c cs (by rw[hn,b]) hsrc h1 hroom (λj f=>by rw[hb.cell,PE (by rw[b];omega)];rfl) (λj _=>hb.frozen _);rw[b]at e;refine wpList_plain hgd λK hK=>?_;unfold Oper.wp execOp;simp only[ho,resolve,invoke,builtin,Sem.run_bind,Sem.run_pure,Result.andThen_ok,QS,Pi,Qs,hd,hx,e];exact hK _ _ (h _ (hb.setCells cs (off+k*s)) (jx g cs w (off+k*s)))
end
def fj{e:TypeId}(h:w.ownsRow B e s v n xs)(hn:0<n):
  ∃g cap cur,v=V g 0 n cap/\B<=g/\Blk w g e cur/\n<=cap/\cap<=maxLen/\cur.size=cap*s/\cur.toList.take (n*s)=xs:=by
 rcases h.2 with⟨_,a⟩|h
 ·omega
 ·exact h
def lf{cap:Nat}{e:TypeId}(hB:B<=g)(hb:Blk w g e cur)(hnc:n<=cap)(hc:cap<=maxLen)(hs:cur.size=cap*s)(ht:cur.toList.take (n*s)=xs)(hl:xs.length=n*s):w.ownsRow B e s (V g 0 n cap) n xs:=
 ⟨hl,.inr ⟨g,cap,cur,rfl,hB,hb,hnc,hc,hs,ht⟩⟩
def el(S:Nat->Prop)(W W':World):Prop:=∀k,S k->W'.heap[k]?=W.heap[k]?
def el.refl:el S W W:=λ_ _=>rfl
def el.trans{S:Nat->Prop}{A B C:World}(h:el S A B)(k:el S B C):el S A C:=λj a=>(k j a).trans (h j a)
def el.put{S:Nat->Prop}{n:Nat}(hS:∀k,S k->k<n)(W:World)(l:Nat)(o o':Obj)(hl:n<=l)(_:W.heap[l]?=some o)(_:o.isCells=false)(_:o.isWalk=false):el S W (W.putObj l o'):=λk a=>World.putObj_heap_other (λe=>by have:=hS k a;omega)
def el.B5{S:Nat->Prop}{W W':World}(hb:Below B W W')(hS:∀k,S k->k<B):el S W W':=λk a=>hb.block k (hS k a)
def wK(p Bb:Nat)(sl:Value)(k:Nat):Prop:=(k=p\/sl.ownBlock=some k)\/k=Bb
def ej.same{α:Type}{cells:List α->List Value}{T e:TypeId}{p Bb:Nat}{sl:Value}{r:Rg α}(h:ej cells s T e w p B sl r)(hS:el (wK p Bb sl) w w'):ej cells s T e w' p B sl r:=by
 refine⟨(hS p (.inl (.inl rfl))).trans h.B0,⟨h.own.1,?_⟩,h.ok⟩
 rcases h.own.2 with c|⟨g,a,b,rfl,d,f,i⟩
 ·exact .inl c
 ·exact .inr ⟨g,a,b,rfl,d,(hS g (.inl (.inr rfl))).trans f,i⟩
def ej.R0{α:Type}{cells:List α->List Value}{T e:TypeId}{p Bb:Nat}{sl:Value}{r:Rg α}(h:ej cells s T e w p B sl r)(hb:Bb<w.heap.size):∀k,wK p Bb sl k->k<w.heap.size:=by
 rintro k ((rfl|a)|rfl)
 ·exact h.B0.lt
 ·exact(h.own.lt k a).2
 ·exact hb
section
open Go.Shelf
set_option maxRecDepth 100000
attribute [local go_sem] Oper.semAt_some
end
def Ie{α:Type}(f:α->List Value)(s:Nat)(hf:∀x,(f x).length=s)(l:List α)(k:Nat)(hk:k<l.length)(x:α)(i:Nat):
  ((l.set k x).flatMap f)[i]?=if k*s<=i/\i<k*s+s then(f x)[i-k*s]? else(l.flatMap f)[i]?:=by
 by_cases h:s=0
 ·subst h;have b:∀(m:List α),m.flatMap f=[]:=λm=>OU (by rw[db f 0 hf];omega);rw[b,b,Oz zO]
 ·have d:0<s:=zO;by_cases j:i<l.length*s
  ·have c:=Nat.div_lt_of_lt_mul (by rw[Qk];exact j);have e:=Rj i d;have g:i=i/s*s+i%s:=by rw[Qk];exact(Nat.div_add_mod i s).symm
   have n:((l.set k x).flatMap f)[i]?=(f ((l.set k x)[i/s]'(by simpa using c)))[i%s]?:=by
    conv=>lhs;rw[g]
    exact kc f s hf (l.set k x) (i/s) (i%s) (by simpa using c) e
   have o:(l.flatMap f)[i]?=(f l[i/s])[i%s]?:=by
    conv=>lhs;rw[g]
    exact kc f s hf l (i/s) (i%s) c e
   rw[n,o,List.getElem_set];by_cases a:k=i/s
   ·rw[OB a,OB (by subst a;omega)];congr 1;subst a;omega
   ·rw[Oz a,Oz ?_];rintro⟨b,q⟩;apply a;have:i/s=k:=by
     apply Nat.div_eq_of_lt_le
     ·exact b
     ·rw[Qj];omega
    exact this.symm
  ·have p:k*s+s<=l.length*s:=by rw[<-Qj];exact Pr s hk
   rw[Ps (by rw[db f s hf];simp;omega),Oz zO,Ps (by rw[db f s hf];omega)]
def If{e:TypeId}{l:List Adv}(h:w.ownsRow B e 5 v n (advs l))(hn:n=l.length)(hk:k<l.length)(hg:v.ownBlock=some g)(a:Adv):
  (((((w.setCell (Y g (k*5)) (I a.tick)).setCell (Y g (k*5+1)) (I a.load)).setCell (Y g (k*5+2)) (I a.want)).setCell (Y g (k*5+3)) (I a.V1)).setCell (Y g (k*5+4)) (I a.I8)).ownsRow B e 5 v n (advs (l.set k a)):=by
 obtain⟨H,h⟩:=h
 rcases h with⟨rfl,rfl⟩|⟨d,f,b,rfl,t,u,m,x,y,o⟩
 ·simp[Value.ownBlock]at hg
 ·obtain rfl:d=g:=by simpa[Value.ownBlock]using hg
  have p:Blk w d e b:=u;have q:=((((p.B4 (k*5) (I a.tick)).B4 (k*5+1) (I a.load)).B4 (k*5+2) (I a.want)).B4 (k*5+3) (I a.V1)).B4 (k*5+4) (I a.I8);refine⟨by rw[kH];simp[hn],.inr ⟨d,f,_,rfl,t,q,m,x,by simpa using y,?_⟩⟩;have r:∀i,i<n*5->b.toList[i]?=(advs l)[i]?:=by intro i z;rw[<-o,Pw z]
  have G:n*5<=b.toList.length:=by
   have A:=congrArg List.length o;rw[PG,kH]at A;omega
  apply QI;intro i;show _=((l.set k a).flatMap Adv.cells)[i]?;rw[Ie Adv.cells 5 Adv.C2 l k hk a i];by_cases c:i<n*5
  ·rw[Pw c];simp only[Ru];by_cases s:k*5<=i/\i<k*5+5
   ·rw[OB s];obtain⟨j,rfl⟩:∃j,i=k*5+j:=⟨i-k*5,zO⟩;have D:j=0\/j=1\/j=2\/j=3\/j=4:=zO;have L:k*5+5<=b.toList.length:=zO;rw[show k*5+j-k*5=j by omega]
    rcases D with rfl|rfl|rfl|rfl|rfl
    all_goals
     simp only[Qo,PI]
     repeat (first|rw[OB trivial]|rw[Oz zO]|rw[OB zO])
     rfl
   ·rw[Oz s];rw[Qf zO,Qf zO,Qf zO,Qf zO,Qf zO];exact r i c
  ·have F:k*5+5<=n*5:=zO;rw[Ps zT,Oz zO,Ps (by show(advs l).length<=i;rw[kH];omega)]
def Adv.val(a:Adv):Value:=.agg #[I a.tick,I a.load,I a.want,I a.V1,I a.I8]
def Adv.arr(a:Adv):Array Value:=#[I a.tick,I a.load,I a.want,I a.V1,I a.I8]
def Adv.zero:Adv:=⟨0,0,0,0,0⟩
def tI{e:TypeId}{l:List Adv}(h:w.ownsRow B e 5 v n (advs l))(hn:n=l.length)(hk:k<l.length):
  ∃g c,v=V g 0 n c/\B<=g/\g<w.heap.size/\n<=c/\
   w.cell? (Y g (k*5))=some (I l[k].tick)/\w.cell? (Y g (k*5+1))=some (I l[k].load)/\w.cell? (Y g (k*5+2))=some (I l[k].want)/\w.cell? (Y g (k*5+3))=some (I l[k].V1)/\w.cell? (Y g (k*5+4))=some (I l[k].I8)/\
   (∀i,w.frozen? (Y g i)=false):=by
 obtain⟨o,h⟩:=h
 rcases h with⟨_,rfl⟩|⟨g,f,d,rfl,p,q,m,t,u,r⟩
 ·simp at o;omega
 ·have b:Blk w g e d:=q;have a:∀j,j<5->w.cell? (Y g (k*5+j))=(Adv.cells l[k])[j]?:=by
   intro j s;rw[b.cell,<-kc Adv.cells 5 Adv.C2 l k j hk s];show d[k*5+j]?=(advs l)[k*5+j]?;rw[<-r,Pw zO];simp
  exact⟨g,f,rfl,p,b.lt,m,a 0 zP,a 1 zP,a 2 zP,a 3 zP,a 4 zP,λi=>b.frozen i⟩
def set5(w:World)(g:Nat)(o:Nat)(a:Adv):World:=
 ((((w.setCell (Y g o) (I a.tick)).setCell (Y g (o+1)) (I a.load)).setCell (Y g (o+2)) (I a.want)).setCell (Y g (o+3)) (I a.V1)).setCell (Y g (o+4)) (I a.I8)
def Blk.set5{t:TypeId}{c0 c1 c2 c3 c4:Value}(h:Blk w g t #[c0,c1,c2,c3,c4])(a:Adv):Blk (Go.Fw.set5 w g 0 a) g t a.arr:=by
 have b:=((((h.B4 0 (I a.tick)).B4 1 (I a.load)).B4 2 (I a.want)).B4 3 (I a.V1)).B4 4 (I a.I8);exact b
def gG(w:World)(g o:Nat)(a:Adv)(k:Nat)(h:k≠g):(set5 w g o a).heap[k]?=w.heap[k]?:=by
 unfold set5;rw[Pd _ _ _ k h,Pd _ _ _ k h,Pd _ _ _ k h,Pd _ _ _ k h,Pd _ _ _ k h]
def ag.set5{L:Nat->Prop}(h:ag L w w')(hg:L g\/w.heap.size<=g)(o:Nat)(a:Adv):ag L w (Go.Fw.set5 w' g o a):=
 ((((h.setCell (p:=Y g o) hg _).setCell (p:=Y g (o+1)) hg _).setCell (p:=Y g (o+2)) hg _).setCell (p:=Y g (o+3)) hg _).setCell (p:=Y g (o+4)) hg _
def Below.set5(h:Below n w w')(hg:n<=g)(o:Nat)(a:Adv):Below n w (Go.Fw.set5 w' g o a):=
 ((((h.setCell (p:=Y g o) hg _).setCell (p:=Y g (o+1)) hg _).setCell (p:=Y g (o+2)) hg _).setCell (p:=Y g (o+3)) hg _).setCell (p:=Y g (o+4)) hg _
def nZ{e:TypeId}(h:w.ownsRow B e s v n xs)(hne:v.ownBlock≠some g)(o:Nat)(a:Adv):(Go.Fw.set5 w g o a).ownsRow B e s v n xs:=
 bA (p:=Y g (o+4)) (bA (p:=Y g (o+3)) (bA (p:=Y g (o+2)) (bA (p:=Y g (o+1)) (bA (p:=Y g o) h hne _) hne _) hne _) hne _) hne _
def kg{o:Oper}{t e e':TypeId}{z:Value}{bytes:Nat}(hT:cE P t e z s bytes)(hs0:0<s)
  (sl x:Operand)(ho:o.op=.call {callee:=.builtin .append,args:=#[sl,x],argTypes:=#[t,t]})
  (hs:a.eval sl=v)(hm:w.ownsRow B e s v n xs)(hB:B<=w.heap.size)(hg:g=w.heap.size)(hx:a.eval x=V g 0 1 1)(hcs:cs.size=s)(h1:∀u∈cs.toList,u.oneCell'=true)
  (hlen:(n+1)*bytes<=140737488355328)(hle:n+1<=maxLen)
  (h:∀v' w',w'.ownsRow B e s v' (n+1) (xs++cs.toList)->w.grownBy w' v.ownBlock->(v'.ownBlock=v.ownBlock\/∀k,v'.ownBlock=some k->w.heap.size<=k)->K (a.put o.dst v') w'):
  o.wp P a (w.alloc (.cells cs e')) K Q:=by
 obtain⟨i,m,p,f,j⟩:=info_parts hT.info;refine dC (w.alloc (.cells cs e')) sl x t ho B e i z s bytes hT.under m p f j hT.cells hs0 v n xs hs (hm.alloc _) _ _ 1 1 cs.toList hx (dD w e' cs s 1 g _ zO hg rfl) h1 hle hlen zT λv' w' q c d=>?_;have hg:w.grownBy w' v.ownBlock:=⟨c.os,c.tape,c.output,OJ zS c.size,λk b l=>(c.block k zT l).trans (Qh w _ k b)⟩;refine h v' w' q hg ?_
 rcases d with d|d
 ·exact .inl d
 ·refine .inr λk b=>?_;rw[d]at b;injection b with b;simp at b;omega
def Blk.G6{t:TypeId}{a:Adv}(h:Blk w g t a.arr):
  w.cell? (Y g 0)=some (I a.tick)/\w.cell? (Y g 1)=some (I a.load)/\w.cell? (Y g 2)=some (I a.want)/\w.cell? (Y g 3)=some (I a.V1)/\w.cell? (Y g 4)=some (I a.I8):=
 ⟨h.cell 0,h.cell 1,h.cell 2,h.cell 3,h.cell 4⟩
def Blk.M0{t:TypeId}(h:Blk w g t cs):
  w.frozen? (Y g 0)=false/\w.frozen? (Y g 1)=false/\w.frozen? (Y g 2)=false/\w.frozen? (Y g 3)=false/\w.frozen? (Y g 4)=false:=⟨h.frozen 0,h.frozen 1,h.frozen 2,h.frozen 3,h.frozen 4⟩
def jg:cE prog 49 62 (.agg #[I 0,I 0,I 0,I 0,I 0]) 5 40:=⟨underlying49,zR,rfl⟩
abbrev RgV(w:World)(p B:Nat)(sl:Value)(r:Rg Adv):Prop:=ej advs 5 348 62 w p B sl r
def Or(n:Int)(w:World)(h:¬(1<=n/\n<=4096)):C 327 #[I n] w λe w'=>e=.returned (.pointer none)/\w=w':=by
 by_cases a:n<1
 ·go_in
  go_wp2;go_ret;exact⟨rfl,rfl⟩
 ·have b:4096<n:=zO
  go_in
  go_wp2;go_ret;exact⟨rfl,rfl⟩
def Ig(n:Nat)(w:World)(h1:1<=n)(h2:n<=4096):C 327 #[I (n:Int)] w λe w'=>e=.returned (Z w.heap.size 0)/\w.alloc (.cells #[.slice none 0 0,I 0,I (n:Int)] 348)=w':=by
 go_in
 go_wp2;go_ret;exact⟨rfl,rfl⟩
def rk(B:Nat)(sl:Value)(r:Rg Adv)(w:World)(h:RgV w p B sl r):C 222 #[Z p 0] w λe w'=>e=.returned (I (r.items.length:Int))/\w=w':=by
 have a:=h.c0;obtain⟨A,c,rfl,_,_⟩:=ak h.own
 go_in
 go_wp2;go_ret;exact⟨rfl,rfl⟩
def Lx(B:Nat)(sl:Value)(r:Rg Adv)(i:Nat)(w:World)(h:RgV w p B sl r)(hi:i<r.list.length):
  C 223 #[Z p 0,I (i:Int)] w (J (.tuple #[r.list[i].val,.bool true]) w):=by
 have S:=λw (h:RgV w p B sl r)=>rk p B sl r w h;have T:=Z1 S;have ai:=Rg.length r;obtain⟨P,f⟩:=Rg.get h.ok hi;have Q:=h.ok.F5;have R:=h.ok.fits;have aj:=h.ok.lt;have U:=h.c0;have X:=h.c1;have u:(IntKind.i64.wrap ((r.from_:Int)+(i:Int))).tmod (r.items.length:Int)=(((r.from_+i)%r.items.length:Nat):Int):=by
  rw[IntWalk.i64_in _ ⟨zO,zO⟩,Ra zO];push_cast;rfl
 rw[f];have HH:=Z1 h;generalize (r.from_+i)%r.items.length=j at P u f ⊢;obtain⟨g,c,rfl,ak,b,al,l,m,n,q,s,_⟩:=tI h.own rfl P;have am:(i:Int)<(r.items.length:Int):=zO;have an:(j:Int)<(r.items.length:Int):=zO;have ao:¬r.items.length=0:=zO;generalize r.items[j]=y at*;obtain⟨x,z,A,D,F⟩:=y;unfold Adv.val;simp only at l m n q s ⊢;have t:=h.B0.lt
 go_in
 go_wp2_with fail;refine(T.o _ ((HH.o.up (ae (Oy _ _) _)).up (ae (Oy _ _) _))).mono ?_;rintro e w1 ⟨rfl,rfl⟩;have d:M w ((w.alloc (.cells #[I 0,I 0,I 0,I 0,I 0] 62)).alloc (.cells #[I 0,I 0,I 0,I 0,I 0] 62)):=ae (ae (Oy _ _) _) _;have a:Blk ((w.alloc (.cells #[I 0,I 0,I 0,I 0,I 0] 62)).alloc (.cells #[I 0,I 0,I 0,I 0,I 0] 62)) w.heap.size 62 #[I 0,I 0,I 0,I 0,I 0]:=(Blk.A8 _ _ _ rfl).alloc _;generalize (w.alloc (.cells #[I 0,I 0,I 0,I 0,I 0] 62)).alloc (.cells #[I 0,I 0,I 0,I 0,I 0] 62)=W2 at*;have d0:=(OF d (p:=Y p 0) t).trans U;have d1:=(OF d (p:=Y p 1) t).trans X;have e0:=(OF d (p:=Y g (j*5)) b).trans l;have e1:=(OF d (p:=Y g (j*5+1)) b).trans m;have e2:=(OF d (p:=Y g (j*5+2)) b).trans n;have e3:=(OF d (p:=Y g (j*5+3)) b).trans q;have e4:=(OF d (p:=Y g (j*5+4)) b).trans s;have f0:=a.frozen 0;have f1:=a.frozen 1;have f2:=a.frozen 2;have f3:=a.frozen 3;have f4:=a.frozen 4;have g0:=a.cell 0;have g1:=a.cell 1;have g2:=a.cell 2;have g3:=a.cell 3;have g4:=a.cell 4;simp at g0 g1 g2 g3 g4;go_wp2;refine zb 18 ?_;repeat still_step
 refine wpStill_nil ?_;go_wp2;have b5:=(a.set5 ⟨x,z,A,D,F⟩).drew;have k:=(Below.set5 d (OA _) 0 ⟨x,z,A,D,F⟩).drew;obtain⟨G,H,L,N,O⟩:=b5.G6;unfold set5 at G H L N O k;simp only[PS]at G H L N O k;refine OH (v:=.tuple #[.agg #[I x,I z,I A,I D,I F],.bool true]) (by simp[results,results223,go_sem,G,H,L,N,O]) rfl ⟨rfl,k⟩
def Ee(B:Nat)(sl:Value)(r:Rg Adv)(x:Adv)(w:World)(h:RgV w p B sl r)(hB:B<=w.heap.size)(hlt:r.items.length<r.room):
  C 363 #[Z p 0,x.val] w λe w'=>e=.returned (.tuple #[Adv.zero.val,.bool false])/\∃sl',RgV w' p B sl' (r.push x)/\ag (λj=>j=p\/sl.ownBlock=some j) w w'/\(sl'.ownBlock=sl.ownBlock\/∀k,sl'.ownBlock=some k->w.heap.size<=k):=by
 obtain⟨l,m,q,s,t⟩:=x;have hb:M w (((w.alloc (.cells (Adv.arr ⟨l,m,q,s,t⟩) 62)).alloc (.cells (Adv.arr ⟨0,0,0,0,0⟩) 62)).alloc (.cells (Adv.arr ⟨0,0,0,0,0⟩) 62)):=ae (ae (ae (Oy _ _) _) _) _;have bx:Blk (((w.alloc (.cells (Adv.arr ⟨l,m,q,s,t⟩) 62)).alloc (.cells (Adv.arr ⟨0,0,0,0,0⟩) 62)).alloc (.cells (Adv.arr ⟨0,0,0,0,0⟩) 62)) w.heap.size 62 (Adv.arr ⟨l,m,q,s,t⟩):=((Blk.A8 _ _ _ rfl).alloc _).alloc _;have bo:Blk (((w.alloc (.cells (Adv.arr ⟨l,m,q,s,t⟩) 62)).alloc (.cells (Adv.arr ⟨0,0,0,0,0⟩) 62)).alloc (.cells (Adv.arr ⟨0,0,0,0,0⟩) 62)) (w.heap.size+1) 62 (Adv.arr ⟨0,0,0,0,0⟩):=(Blk.A8 _ _ _ zS).alloc _;have bn:Blk (((w.alloc (.cells (Adv.arr ⟨l,m,q,s,t⟩) 62)).alloc (.cells (Adv.arr ⟨0,0,0,0,0⟩) 62)).alloc (.cells (Adv.arr ⟨0,0,0,0,0⟩) 62)) (w.heap.size+1+1) 62 (Adv.arr ⟨0,0,0,0,0⟩):=Blk.A8 _ _ _ zS;have b7:=h.B0.lt;have be:=h.ok;have bv:=be.F5;have bw:=be.pos;have h3:=h.up hb;obtain⟨A,c,rfl,_,_⟩:=ak h.own;have HH:=Z1 h;unfold Adv.val Adv.zero;unfold Adv.arr at hb bx bo bn h3;have bz:(r.items.length:Int)<(r.room:Int):=zO;have b8:((r.room:Int)==0)=false:=zT;have au:=Z1 hlt
 go_in
 go_upto_region 2 with fail
 generalize (((w.alloc (.cells #[I l,I m,I q,I s,I t] 62)).alloc (.cells #[I 0,I 0,I 0,I 0,I 0] 62)).alloc (.cells #[I 0,I 0,I 0,I 0,I 0] 62))=W3 at*;have c0:=h3.c0;have c1:=h3.c1;have c2:=h3.c2;go_wp2;refine cM zR zR ?_;repeat still_step
 refine wpStill_nil ?_;go_upto_region 5 with fail
 have h4:=h3.drew;have ao:=hb.drew;have H:=bx.drew;have bj:=bo.drew;have bk:=bn.drew;generalize W3.drew=W4 at*;have d0:=h4.c0;have y0:=H.cell 0;have y1:=H.cell 1;have y2:=H.cell 2;have y3:=H.cell 3;have y4:=H.cell 4;simp at y0 y1 y2 y3 y4;have av:=aB h4.own h4.B0 zP;have b6:=h4.B0.lt;have b9:=H.lt;have aw:B<=W4.drew.heap.size:=by show B<=W4.heap.size;omega
 have aa:=h4.own;have ax:=ao.drew;have ca:=H.drew;have ay:=bj.drew;have T:=bk.drew;have az:=h4.B0.drew;have U:some (w.heap.size+1)≠(Value.slice A r.items.length c).ownBlock:=λe=>by have:=(HH.o.own.lt _ e.symm).2;omega
 have a0:some (w.heap.size+1+1)≠(Value.slice A r.items.length c).ownBlock:=λe=>by have:=(HH.o.own.lt _ e.symm).2;omega
 have X:w.heap.size+1≠p:=zO;have a1:w.heap.size+1+1≠p:=zO;refine pq zR ?_;simp only[zD,zE,Nat.reduceAdd,zG];refine zx 0 ?_;refine zx 1 ?_;refine zx 2 ?_;refine zx 3 ?_;refine zv [4,5] ?_;refine zu (λK hK=>?_) ?_
 ·skip
  go_simp;refine hK _ _ ?_;clear hK;refine zn ?_;refine zr 5 ?_;refine zr 6 ?_;refine zw 7 λK hK=>?_;try simp only[fc]
  refine kg (w:=W4.drew) (n:=r.items.length) (xs:=advs r.items) (B:=B) jg zP (.tmp 34) (.tmp 36) rfl zF aa aw zF zF rfl zV zO zU ?_;intro v' w' u f G;obtain⟨b,d,rfl,_,_⟩:=ak u;have N:(Value.slice b (r.items.length+1) d).ownBlock≠some (w.heap.size+1):=by
   rcases G with e|e
   ·rw[e];exact Pc U
   ·intro e2;have:=e _ e2;have h9:=T.lt;omega
  refine hK _ _ ?_;have i:=az.grown f (Pc av);have f0:=i.frozen 0;have ac:=i.cell 0;simp at ac;have y:=(ay.grown f U).D1 (p:=Y p 0) X (.slice b (r.items.length+1) d);have ad:=(T.grown f a0).D1 (p:=Y p 0) a1 (.slice b (r.items.length+1) d);obtain⟨n0,n1,n2,n3,n4⟩:=Blk.G6 (a:=⟨0,0,0,0,0⟩) ad;obtain⟨q0,q1,q2,q3,q4⟩:=y.M0;obtain⟨o0,o1,o2,o3,o4⟩:=Blk.G6 (a:=⟨0,0,0,0,0⟩) y;simp only at n0 n1 n2 n3 n4 o0 o1 o2 o3 o4;clear hK;refine zn ?_;refine zx 8 ?_;refine zx 9 ?_;refine zr 10 ?_;refine gF zR ?_;go_wp2;have af:=y.set5 ⟨0,0,0,0,0⟩;obtain⟨O,P,Q,R,S⟩:=af.G6;have hq:=Rg.J3 HH.o.ok ⟨l,m,q,s,t⟩;have ai:r.push ⟨l,m,q,s,t⟩={r with items:=r.items++[⟨l,m,q,s,t⟩]}:=by unfold Rg.push;rw[OB au.o]
  rw[ai]at hq ⊢;have aj:=i.B4 0 (.slice b (r.items.length+1) d);have al:=bA (p:=Y p 0) u (aB u i zP) (.slice b (r.items.length+1) d);have am:ag (λj=>j=p\/(Value.slice A r.items.length c).ownBlock=some j) w w':=dl (w1:=W4.drew) (ag.B5 (L:=λ_=>False) ax) f (λ_ h=>h.elim) (λk e=>.inr e);have z:=(am.setCell (p:=Y p 0) (.inl (.inl rfl)) (.slice b (r.items.length+1) d)).set5 (g:=w.heap.size+1) (.inr (OW _)) 0 ⟨0,0,0,0,0⟩;have D:RgV (set5 (w'.setCell (Y p 0) (.slice b (r.items.length+1) d)) (w.heap.size+1) 0 ⟨0,0,0,0,0⟩) p B (.slice b (r.items.length+1) d) {r with items:=r.items++[⟨l,m,q,s,t⟩]}:=by
   refine⟨(gG _ _ _ _ p (Pc X)).trans (show Blk (w'.setCell (Y p 0) (.slice b (r.items.length+1) d)) p 348 _ by simpa using aj),?_,hq⟩;have an:=nZ al N 0 ⟨0,0,0,0,0⟩;simpa[advs,Adv.cells]using an
  unfold set5 at O P Q R S z D;simp only[PS]at O P Q R S z D;refine OH (v:=.tuple #[.agg #[I 0,I 0,I 0,I 0,I 0],.bool false]) (by simp[results,results363,go_sem,O,P,Q,R,S]) rfl ?_;have F:=G.imp id λh k hk=>OJ ao.size (h k hk);exact⟨rfl,_,D,z,F⟩
 refine zu (λK hK=>?_) ?_
 ·skip
  go_simp;refine hK _ _ ?_;clear hK;refine zn ?_;refine zv [4,6] ?_;refine zu (λK hK=>?_) ?_
  ·skip
   go_simp;refine hK _ _ ?_;clear hK;refine zn ?_;refine zr 6 ?_;refine zw 7 λK hK=>?_;try simp only[fc]
   refine kg (w:=W4.drew) (n:=r.items.length) (xs:=advs r.items) (B:=B) jg zP (.tmp 34) (.tmp 36) rfl zF aa aw zF zF rfl zV zO zU ?_;intro v' w' u f G;obtain⟨b,d,rfl,_,_⟩:=ak u;have N:(Value.slice b (r.items.length+1) d).ownBlock≠some (w.heap.size+1):=by
    rcases G with e|e
    ·rw[e];exact Pc U
    ·intro e2;have:=e _ e2;have h9:=T.lt;omega
   refine hK _ _ ?_;have i:=az.grown f (Pc av);have f0:=i.frozen 0;have ac:=i.cell 0;simp at ac;have y:=(ay.grown f U).D1 (p:=Y p 0) X (.slice b (r.items.length+1) d);have ad:=(T.grown f a0).D1 (p:=Y p 0) a1 (.slice b (r.items.length+1) d);obtain⟨n0,n1,n2,n3,n4⟩:=Blk.G6 (a:=⟨0,0,0,0,0⟩) ad;obtain⟨q0,q1,q2,q3,q4⟩:=y.M0;obtain⟨o0,o1,o2,o3,o4⟩:=Blk.G6 (a:=⟨0,0,0,0,0⟩) y;simp only at n0 n1 n2 n3 n4 o0 o1 o2 o3 o4;clear hK;refine zn ?_;refine zx 8 ?_;refine zx 9 ?_;refine zr 10 ?_;refine gF zR ?_;go_wp2;have af:=y.set5 ⟨0,0,0,0,0⟩;obtain⟨O,P,Q,R,S⟩:=af.G6;have hq:=Rg.J3 HH.o.ok ⟨l,m,q,s,t⟩;have ai:r.push ⟨l,m,q,s,t⟩={r with items:=r.items++[⟨l,m,q,s,t⟩]}:=by unfold Rg.push;rw[OB au.o]
   rw[ai]at hq ⊢;have aj:=i.B4 0 (.slice b (r.items.length+1) d);have al:=bA (p:=Y p 0) u (aB u i zP) (.slice b (r.items.length+1) d);have am:ag (λj=>j=p\/(Value.slice A r.items.length c).ownBlock=some j) w w':=dl (w1:=W4.drew) (ag.B5 (L:=λ_=>False) ax) f (λ_ h=>h.elim) (λk e=>.inr e);have z:=(am.setCell (p:=Y p 0) (.inl (.inl rfl)) (.slice b (r.items.length+1) d)).set5 (g:=w.heap.size+1) (.inr (OW _)) 0 ⟨0,0,0,0,0⟩;have D:RgV (set5 (w'.setCell (Y p 0) (.slice b (r.items.length+1) d)) (w.heap.size+1) 0 ⟨0,0,0,0,0⟩) p B (.slice b (r.items.length+1) d) {r with items:=r.items++[⟨l,m,q,s,t⟩]}:=by
    refine⟨(gG _ _ _ _ p (Pc X)).trans (show Blk (w'.setCell (Y p 0) (.slice b (r.items.length+1) d)) p 348 _ by simpa using aj),?_,hq⟩;have an:=nZ al N 0 ⟨0,0,0,0,0⟩;simpa[advs,Adv.cells]using an
   unfold set5 at O P Q R S z D;simp only[PS]at O P Q R S z D;refine OH (v:=.tuple #[.agg #[I 0,I 0,I 0,I 0,I 0],.bool false]) (by simp[results,results363,go_sem,O,P,Q,R,S]) rfl ?_;have F:=G.imp id λh k hk=>OJ ao.size (h k hk);exact⟨rfl,_,D,z,F⟩
  refine zu (λK hK=>?_) ?_
  ·skip
   go_simp;refine hK _ _ ?_;clear hK;refine zn ?_;refine zr 4 ?_;refine zw 7 λK hK=>?_;try simp only[fc]
   refine kg (w:=W4.drew) (n:=r.items.length) (xs:=advs r.items) (B:=B) jg zP (.tmp 34) (.tmp 36) rfl zF aa aw zF zF rfl zV zO zU ?_;intro v' w' u f G;obtain⟨b,d,rfl,_,_⟩:=ak u;have N:(Value.slice b (r.items.length+1) d).ownBlock≠some (w.heap.size+1):=by
    rcases G with e|e
    ·rw[e];exact Pc U
    ·intro e2;have:=e _ e2;have h9:=T.lt;omega
   refine hK _ _ ?_;have i:=az.grown f (Pc av);have f0:=i.frozen 0;have ac:=i.cell 0;simp at ac;have y:=(ay.grown f U).D1 (p:=Y p 0) X (.slice b (r.items.length+1) d);have ad:=(T.grown f a0).D1 (p:=Y p 0) a1 (.slice b (r.items.length+1) d);obtain⟨n0,n1,n2,n3,n4⟩:=Blk.G6 (a:=⟨0,0,0,0,0⟩) ad;obtain⟨q0,q1,q2,q3,q4⟩:=y.M0;obtain⟨o0,o1,o2,o3,o4⟩:=Blk.G6 (a:=⟨0,0,0,0,0⟩) y;simp only at n0 n1 n2 n3 n4 o0 o1 o2 o3 o4;clear hK;refine zn ?_;refine zx 8 ?_;refine zx 9 ?_;refine zr 10 ?_;refine gF zR ?_;go_wp2;have af:=y.set5 ⟨0,0,0,0,0⟩;obtain⟨O,P,Q,R,S⟩:=af.G6;have hq:=Rg.J3 HH.o.ok ⟨l,m,q,s,t⟩;have ai:r.push ⟨l,m,q,s,t⟩={r with items:=r.items++[⟨l,m,q,s,t⟩]}:=by unfold Rg.push;rw[OB au.o]
   rw[ai]at hq ⊢;have aj:=i.B4 0 (.slice b (r.items.length+1) d);have al:=bA (p:=Y p 0) u (aB u i zP) (.slice b (r.items.length+1) d);have am:ag (λj=>j=p\/(Value.slice A r.items.length c).ownBlock=some j) w w':=dl (w1:=W4.drew) (ag.B5 (L:=λ_=>False) ax) f (λ_ h=>h.elim) (λk e=>.inr e);have z:=(am.setCell (p:=Y p 0) (.inl (.inl rfl)) (.slice b (r.items.length+1) d)).set5 (g:=w.heap.size+1) (.inr (OW _)) 0 ⟨0,0,0,0,0⟩;have D:RgV (set5 (w'.setCell (Y p 0) (.slice b (r.items.length+1) d)) (w.heap.size+1) 0 ⟨0,0,0,0,0⟩) p B (.slice b (r.items.length+1) d) {r with items:=r.items++[⟨l,m,q,s,t⟩]}:=by
    refine⟨(gG _ _ _ _ p (Pc X)).trans (show Blk (w'.setCell (Y p 0) (.slice b (r.items.length+1) d)) p 348 _ by simpa using aj),?_,hq⟩;have an:=nZ al N 0 ⟨0,0,0,0,0⟩;simpa[advs,Adv.cells]using an
   unfold set5 at O P Q R S z D;simp only[PS]at O P Q R S z D;refine OH (v:=.tuple #[.agg #[I 0,I 0,I 0,I 0,I 0],.bool false]) (by simp[results,results363,go_sem,O,P,Q,R,S]) rfl ?_;have F:=G.imp id λh k hk=>OJ ao.size (h k hk);exact⟨rfl,_,D,z,F⟩
  exact AllReady.nil
 exact AllReady.nil
def Ik{e:TypeId}(h:Blk w g e #[])(hB:B<=g):w.ownsRow B e s (V g 0 0 0) 0 []:=by
 have:=eI (s:=s) (n:=0) h hB zS (by simp[maxLen])
 simpa using this
def iD(from_ tick:Int):List Adv->Int->Bool->Int×Bool
 |[],b,i=>(b,i)
 |a::r,b,i=>if from_<a.tick/\a.tick<=tick then iD from_ tick r (if i=false\/b<a.want then a.want else b) true else iD from_ tick r b i
def fH(l:List Adv)(tick hold:Int):Int×Bool:=iD (sat (tick-hold)) tick l 0 false
def Ew{l:List Adv}(hk:k<l.length)(h:¬(f<l[k].tick/\l[k].tick<=t)):iD f t (l.drop k) b i=iD f t (l.drop (k+1)) b i:=by
 rw[Pu hk,iD,Oz h]
def Co{l:List Adv}(hk:k<l.length)(h:f<l[k].tick/\l[k].tick<=t)(h2:i=false\/b<l[k].want):iD f t (l.drop k) b i=iD f t (l.drop (k+1)) l[k].want true:=by
 rw[Pu hk,iD,OB h,OB h2]
def Cp{l:List Adv}(hk:k<l.length)(h:f<l[k].tick/\l[k].tick<=t)(h2:¬(i=false\/b<l[k].want)):iD f t (l.drop k) b i=iD f t (l.drop (k+1)) b true:=by
 rw[Pu hk,iD,OB h,Oz h2]
def Ad(l:List Adv)(A:Option Addr)(c n:Nat)(tick hold:Int)(w:World)(hr:an w w.heap.size 5 A n (advs l))(hl:n<=100000)(ht:aq tick)(hh:aq hold)(hall:∀(k:Nat) (h:k<l.length),aq l[k].tick/\aq l[k].want):
  C 135 #[.slice A n c,I tick,I hold] w (J (.tuple #[I (fH l tick hold).1,.bool (fH l tick hold).2]) w):=by
 have y:=tB hr;have z:=Z1 y;clear y
 go_in
 go_wp2_with (go_at_call 166;refine(Bf _ _ _ ht hh).mono ?_;rintro e w' ⟨rfl,rfl⟩)
 generalize B:sat (tick-hold)=f;have D:=Z1 B;clear B;go_loopw [9,10,18] (λb i x wr=>∃(k:Nat) (a:Int) (d:Bool),k<=n/\x=I k/\b=I a/\i=.bool d/\Hid (fH l tick hold=iD f tick (l.drop k) a d)/\M w wr) (λ_ _ x _=>n-(intOf x).toNat)
 case atStart=>exact⟨0,0,false,zO,rfl,rfl,rfl,Z1 (by unfold fH;rw[D.o];rfl),Oy _ _⟩
 case round=>
  obtain⟨k,a,d,O,rfl,rfl,rfl,q,p⟩:=hrel;by_cases F:k<n
  ·have m:k<l.length:=by have:=z.o;omega
   obtain⟨P,G,rfl,_,Q,R,S,T,U⟩:=sd (hr.up p) m;have t:=hall k m;have H:=t.1;have L:=t.2;clear t;by_cases g:f<l[k].tick/\l[k].tick<=tick
   ·by_cases r:d=false\/a<l[k].want
    ·have j:=Z1 (Co f tick a d m g r);obtain⟨u,v⟩:=g
     cases d with
     |false=>
      clear r;go_wp2;go_roundw
      case rel=>exact⟨k+1,_,_,zO,by go_num,rfl,rfl,Z1 (by rw[q.o,j.o]),ae p _⟩
      case measure=>simp[intOf];omega
     |true=>
      have s:a<l[k].want:=by simpa using r
      clear r;go_wp2;go_roundw
      case rel=>exact⟨k+1,_,_,zO,by go_num,rfl,rfl,Z1 (by rw[q.o,j.o]),ae p _⟩
      case measure=>simp[intOf];omega
    ·have j:=Z1 (Cp f tick a d m g r);obtain⟨u,v⟩:=g;have s:d=true/\¬a<l[k].want:=by cases d<;>simp_all
     obtain⟨rfl,N⟩:=s;clear r;go_wp2;go_roundw
     case rel=>exact⟨k+1,_,_,zO,by go_num,rfl,rfl,Z1 (by rw[q.o,j.o]),ae p _⟩
     case measure=>simp[intOf];omega
   ·have j:=Z1 (Ew f tick a d m g);by_cases X:f<l[k].tick
    ·have h6:¬l[k].tick<=tick:=zO;clear g;go_wp2;go_roundw
     case rel=>exact⟨k+1,_,_,zO,by go_num,rfl,rfl,Z1 (by rw[q.o,j.o]),ae p _⟩
     case measure=>simp[intOf];omega
    ·clear g;go_wp2;go_roundw
     case rel=>exact⟨k+1,_,_,zO,by go_num,rfl,rfl,Z1 (by rw[q.o,j.o]),ae p _⟩
     case measure=>simp[intOf];omega
  ·have j:Hid (fH l tick hold=(a,d)):=by
    show _=_;rw[q.o,Pt (by have:=z.o;omega)];rfl
   go_wp2
   go_ret2
   exact⟨by rw[j.o];rfl,p⟩
def ofS(l:List Adv)(tick hold want:Int):Int×Bool:=if(fH l tick hold).2=true/\want<(fH l tick hold).1 then((fH l tick hold).1,true)else(want,false)
def Ng(l:List Adv)(A:Option Addr)(c n:Nat)(p0 p1 p2 p3 p4 hold tick want:Int)(w:World)(hr:an w w.heap.size 5 A n (advs l))(hl:n<=100000)(ht:aq tick)(hh:aq hold)(hall:∀(k:Nat) (h:k<l.length),aq l[k].tick/\aq l[k].want):
  C 87 #[.agg #[I p0,I p1,I p2,I p3,I p4,I hold],I tick,I want,.slice A n c] w
   (J (.tuple #[I (ofS l tick hold want).1,.bool (ofS l tick hold want).2]) w):=by
 have d:Hid (ofS l tick hold want=if(fH l tick hold).2=true/\want<(fH l tick hold).1 then((fH l tick hold).1,true)else(want,false)):=Z1 rfl
 go_in
 go_wp2_with fail;have g:=zh w (.cells #[I p0,I p1,I p2,I p3,I p4,I hold] 51);refine zm (Ad l _ _ _ tick hold _ (hr.up g) hl ht hh hall) λq i=>?_;have a:=af g i
 rcases hq:fH l tick hold with⟨j,m⟩
 rw[hq]at d;have b:=Z1 d.o;clear d hq
 cases m with
 |false=>
  go_wp2
  go_ret2
  exact⟨by rw[b.o];rfl,a⟩
 |true=>
  by_cases h:want<j
  ·have f:Hid (ofS l tick hold want=(j,true)):=by show _=_;rw[b.o,OB ⟨rfl,h⟩]
   go_wp2
   go_ret2
   exact⟨by rw[f.o];rfl,a⟩
  ·have f:Hid (ofS l tick hold want=(want,false)):=by show _=_;rw[b.o,Oz (by intro p;exact h p.2)]
   go_wp2
   go_ret2
   exact⟨by rw[f.o];rfl,a⟩
def cx{T:TypeId}(hT:cU P T n){fn:Func}{t u:Tmp}(h:fn.results=#[.cell t T,.tmp u]){ty:TypeId}(hb:Blk w g ty cs)(hn:cs.size=n)(tmps:Array Value)(ht:tmps[t]?.getD undef=Z g 0):(results fn tmps).run P w=.ok (.tuple #[.agg cs,tmps[u]?.getD undef]) w:=by
 have a:=iA hT w (Y g 0) cs hn (bQ hb);simp[results,h,ht,asAddr,a]
def lj:cU prog 58 2:=⟨zR,zR,zR⟩
def wR:cU prog 51 6:=⟨zR,zR,zR⟩
section
open Go.Shelf
def eu{t:TypeId}{i:Nat}(h:cs[i]?=some v):(w.alloc (.cells cs t)).cell? (Y w.heap.size i)=some v:=by rw[Qg];exact h
end
section
open Go.Shelf Go.WideShapes Go.ChangeShapes Go.Deep
set_option maxRecDepth 100000
structure cV(e:Ev):Prop where
 size:e.cs.size=34
 c0:e.cs[0]?=some (I e.kind)
 c1:e.cs[1]?=some (I e.task)
 c2:e.cs[2]?=some (I e.nth)
 Q7:e.cs[27]?=some (E e.hi)
 Q8:e.cs[28]?=some (E e.lo)
 one:∀u∈e.cs.toList,u.oneCell'=true
 S8:aq e.kind
 Q0:aq e.task
 nthIn:aq e.nth
 hiIn:0<=e.hi/\e.hi<=18446744073709551615
 loIn:0<=e.lo/\e.lo<=18446744073709551615
def cV.all{e:Ev}(h:cV e):e.cs.all (·.oneCell')=true:=Re.2 λu a=>h.one u (Array.mem_toList_iff.2 a)
def AD(h:∀e∈l,cV e):(evs l).length=l.length*34:=by
 unfold evs;induction l with
 |nil=>rfl
 |cons e l ih=>
  rw[Qy,OS,ih (λx a=>h x (by simp[a])),OC,QQ,(h e zS).size];omega
def JC(h:∀e∈l,cV e)(k j:Nat)(hk:k<l.length)(hj:j<34):(evs l)[k*34+j]?=l[k].cs[j]?:=by
 unfold evs;induction l generalizing k with
 |nil=>simp at hk
 |cons e l ih=>
  have b:=(h e zS).size;rw[Qy]
  cases k with
  |zero=>
   rw[Pk zT];simp
  |succ k=>
   rw[Ph zT];rw[show(k+1)*34+j-e.cs.toList.length=k*34+j by simp;omega];rw[ih (λx a=>h x (by simp[a])) k (by simpa using hk)];rfl
def kA{l:List Ev}(ho:∀e∈l,cV e)(h:an w B 34 A n (evs l)):n=l.length:=by
 have:=h.1;rw[AD l ho]at this;omega
def mw{l:List Ev}(ho:∀e∈l,cV e)(h:an w B 34 A n (evs l))(hk:k<l.length):
  ∃b o,A=some (Y b o)/\b<B/\∀j u,l[k].cs.toList[j]?=some u->w.cell? (Y b (o+k*34+j))=some u:=by
 have i:=kA ho h;obtain⟨b,o,rfl,c,d⟩:=h.J6 (k:=k) zP zO;refine⟨b,o,rfl,c,λj u a=>?_⟩;have f:=(ho _ (OR hk)).size;have g:j<34:=by have:=(OZ.1 a).1;simpa[f]using this
 rw[PQ];refine d _ u ?_;rw[JC l ho k j hk g]
 simpa using a
end
def Mi{n:Int}(h:aq n):(Lit.int .i64 n).wf=true:=by
 have a:=h.1;have b:=h.2;simp[Lit.wf,IntKind.min,IntKind.max,IntKind.signed,IntKind.bits];omega
def cQ{t:TypeId}{n:Int}(hu:P.underlying t=some (.int .i64))(h:aq n):P.keyLits (d+1) t [.int .i64 n]=some [.int .i64 n]:=by
 simp[Program.keyLits,hu,Mi h]
def jT{t:TypeId}{fs:Array Field}{cs:List Value}{ls:List (List Lit)}(hu:P.underlying t=some (.struct fs))(hl:cs.length=P.cellsOf t)(hn:fs.all (·.name != "_")=true)(hm:(fs.toList.mapM λf=>P.keyLits d f.type ((cs.drop f.offset).take (P.cellsOf f.type)))=some ls):P.keyLits (d+1) t cs=some ls.flatten:=by
 simp only[Program.keyLits,hu];rw[OB ⟨hl,hn⟩,hm];rfl
def aK(x:Vt):Ev:=⟨x.arr,x.kind,x.task,x.nth,x.key.hi,x.key.lo⟩
def iL(l:List Vt):evs (l.map aK)=vts l:=by simp[evs,vts,aK,Vt.arr,List.flatMap_map]
def JF(l:List Vt)(x:Vt):vts l++x.cells=vts (l++[x]):=by simp[vts]
def oG(h:x.ok):cV (aK x):=by
 refine⟨rfl,rfl,rfl,rfl,rfl,rfl,λu a=>?_,h.kind,h.task,h.nth,h.key.hi,h.key.lo⟩;simp[aK,Vt.arr,Vt.cells,Cl.cells,Cl.arr,Rp.cells,St.cells,Adv.cells,K2.cells]at a
 rcases a with rfl|rfl|rfl|rfl|rfl|rfl|rfl|rfl|rfl|rfl|rfl|rfl|rfl|rfl|rfl|rfl|rfl|rfl|rfl|rfl|rfl|rfl|rfl|rfl|rfl|rfl|rfl|rfl|rfl|rfl|rfl|rfl|rfl|rfl<;>rfl
def jU{l:List Vt}(h:∀x∈l,x.ok):∀e∈l.map aK,cV e:=λe a=>by
 obtain⟨x,b,rfl⟩:=Pa.1 a;exact oG (h x b)
def JG(a:Adv)(h:a.ok)(d:Nat):prog.keyLits (d+2) 62 a.cells=some [.int .i64 a.tick,.int .i64 a.load,.int .i64 a.want,.int .i64 a.V1,.int .i64 a.I8]:=by
 have b:prog.cellsOf 3=1:=by kernel_rfl
 have c:prog.cellsOf 2=1:=by kernel_rfl
 have e:=cQ (t:=2) d underlying2 h.tick;have f:=cQ (t:=2) d underlying2 h.load;have g:=cQ (t:=2) d underlying2 h.want;have i:=cQ (t:=2) d underlying2 h.V1;have j:=cQ (t:=3) d underlying3 h.I8;have:=jT (P:=prog) (t:=62) (cs:=a.cells) (ls:=[[.int .i64 a.tick],[.int .i64 a.load],[.int .i64 a.want],[.int .i64 a.V1],[.int .i64 a.I8]]) (d+1) underlying62 (show 5=_ by kernel_rfl) (by kernel_rfl)
  (by simp only[Adv.cells,List.mapM_cons,List.mapM_nil,b,c,ON,OQ,OM,OO,e,f,g,i,j];rfl)
 simpa using this
def Mk(a:St)(h:a.ok)(d:Nat):prog.keyLits (d+2) 75 a.cells=some [.int .i64 a.count,.int .i64 a.sum,.int .i64 a.least,.int .i64 a.F5,.int .i64 a.F3]:=by
 have b:prog.cellsOf 3=1:=by kernel_rfl
 have c:prog.cellsOf 2=1:=by kernel_rfl
 have e:=cQ (t:=2) d underlying2 h.count;have f:=cQ (t:=2) d underlying2 h.sum;have g:=cQ (t:=2) d underlying2 h.least;have i:=cQ (t:=2) d underlying2 h.F5;have j:=cQ (t:=2) d underlying2 h.F3;have:=jT (P:=prog) (t:=75) (cs:=a.cells) (ls:=[[.int .i64 a.count],[.int .i64 a.sum],[.int .i64 a.least],[.int .i64 a.F5],[.int .i64 a.F3]]) (d+1) underlying75 (show 5=_ by kernel_rfl) (by kernel_rfl)
  (by simp only[St.cells,List.mapM_cons,List.mapM_nil,b,c,ON,OQ,OM,OO,e,f,g,i,j];rfl)
 simpa using this
def BA(h:r.ok):∃ls,prog.keyLits 4 77 r.arr.toList=some ls:=by
 have c:prog.cellsOf 3=1:=by kernel_rfl
 have d:prog.cellsOf 2=1:=by kernel_rfl
 have e:prog.cellsOf 28=1:=by kernel_rfl
 have f:prog.cellsOf 75=5:=by kernel_rfl
 have g:prog.cellsOf 62=5:=by kernel_rfl
 have i:=cQ (t:=28) 2 underlying28 h.err;have j:=cQ (t:=2) 2 underlying2 h.I9;have k:=cQ (t:=3) 2 underlying3 h.handle;have a:=Mk r.stat h.stat 1;have b:=JG r.E0 h.E0 1;simp only[St.cells,Adv.cells]at a b;refine⟨_,jT (P:=prog) (t:=77) (ls:=[[.int .i64 r.err],[.int .i64 r.I9],[.int .i64 r.handle],[.int .i64 r.stat.count,.int .i64 r.stat.sum,.int .i64 r.stat.least,.int .i64 r.stat.F5,.int .i64 r.stat.F3],[.int .i64 r.E0.tick,.int .i64 r.E0.load,.int .i64 r.E0.want,.int .i64 r.E0.V1,.int .i64 r.E0.I8]]) 3 underlying77 (show 13=_ by kernel_rfl) (by kernel_rfl) ?_⟩;simp only[Rp.arr,List.mapM_cons,List.mapM_nil,c,d,e,f,g,ON,OQ,OM,OO,i,j,k,a,b];rfl
def JI{D:Nat}(hm:m<=10000){t:TypeId}(hk:prog.keyTypeAt m t=true)(hs:(match prog.underlying t with|some (.struct _)=>true|_=>false)=true)(cs:Array Value)(hC:cs.size=prog.cellsOf t){ls:List Lit}(hl:prog.keyLits D t cs.toList=some ls)(w:World):
  (binOp .eql t (.agg cs) (.agg cs)).run prog w=.ok (.bool true) w:=by
 have b:(Value.agg cs).formed prog t=true:=by
  unfold Value.formed
  cases hu:prog.underlying t with
  |none=>simp[hu]at hs
  |some d=>cases d<;>simp[hu]at hs ⊢;exact hC
 obtain⟨r,c,a⟩:=run_equalIn_deep (10000-m) m t hk w D D (.agg cs) (.agg cs) ls ls b b hl hl;have e:=a.2 rfl;subst e;rw[run_eql_struct];rw[show 10000-m+m=10000 by omega]at c;rw[c];rfl
def Ml{t:TypeId}(hb:Blk w g t x.arr){pre cs post:List Value}(he:x.cells=pre++(cs++post))(hk:pre.length=k):∀j v,cs[j]?=some v->w.cell? (((Y g k):Addr).add j)=some v:=by
 intro j v a;rw[show((Y g k):Addr).add j=(Y g (k+j)) by unfold Addr.add;split<;>simp_all];rw[hb.cell];show x.cells.toArray[k+j]?=some v;rw[PV,he,Ph zO,show k+j-pre.length=j by omega,Pk (OZ.1 a).1];exact a
def Nv{t:TypeId}(hb:Blk w g t x.arr):∀j v,x.rep.arr.toList[j]?=some v->w.cell? (((Y g 14):Addr).add j)=some v:=
 Ml hb (pre:=[I x.kind,I x.task,I x.nth]++x.call.cells) (post:=x.key.cells++x.E0.cells) rfl rfl
def Nw(h:r.ok)(w:World):(binOp .eql 77 (.agg r.arr) (.agg r.arr)).run prog w=.ok (.bool true) w:=
 JI (m:=4) zP zR zR r.arr (show 13=_ by kernel_rfl) (BA r h).choose_spec w
def FZ(h:r.ok)(w:World):(binOp .neq 77 (.agg r.arr) (.agg r.arr)).run prog w=.ok (.bool false) w:=
 wz (m:=4) zP zR zR r.arr (show 13=_ by kernel_rfl) (BA r h).choose_spec w
structure Tr where
 nth:Int
 last:Int
 hi:Int
 lo:Int
def Tr.zero:Tr:=⟨0,0,0,0⟩
def Tr.is(t:Tr)(x:Ev):Bool:=
 if x.kind=1 then t.last==0||t.last==3 else if x.kind=2 then t.last==1 else if x.kind=3 then t.last==2 else if x.kind=4 then t.last==0||t.last==7
 else if x.kind=5 then t.last==4 else if x.kind=6 then t.last==5 else if x.kind=7 then t.last==5||t.last==6 else false
def Tr.next(t:Tr)(x:Ev):Tr:=⟨if x.kind=1/\t.last=3 then t.nth+1 else t.nth,x.kind,if x.kind=4 then x.hi else t.hi,if x.kind=4 then x.lo else t.lo⟩
def Tr.ok(t:Tr)(x:Ev):Bool:=t.is x&&(x.nth==(t.next x).nth&&(x.hi==(t.next x).hi&&x.lo==(t.next x).lo))
def Tr.arr(t:Tr):Array Value:=#[I t.nth,I t.last,E t.hi,E t.lo]
def Tr.D5(t:Tr)(x:Ev):Array Value:=#[I (t.next x).nth,I t.last,E (t.next x).hi,E (t.next x).lo]
section
open Go.Shelf
set_option maxRecDepth 100000
def Dg(n:Int):n=1\/n=2\/n=3\/n=4\/n=5\/n=6\/n=7\/(n≠1/\n≠2/\n≠3/\n≠4/\n≠5/\n≠6/\n≠7):=zO
end
section
variable {tr:Int->Tr}
def cT(tr:Int->Tr)(x:Ev):Int->Tr:=λt=>if t=x.task then(tr x.task).next x else tr t
def kU(tr:Int->Tr)(x:Ev):Bool:=(decide (0<=x.task)&&decide (x.task<32))&&(tr x.task).ok x
def fy:(Int->Tr)->List Ev->Bool
 |_,[]=>true
 |tr,x::r=>kU tr x&&fy (cT tr x) r
def ix(l:List Ev):Bool:=fy (λ_=>Tr.zero) l
def AF{l:List Ev}(hk:k<l.length):fy tr (l.drop k)=(kU tr l[k]&&fy (cT tr l[k]) (l.drop (k+1))):=by
 rw[Pu hk,fy]
def JK(h:∀q,0<=(tr q).nth/\(tr q).nth<=k)(x:Ev)(q:Int):0<=(cT tr x q).nth/\(cT tr x q).nth<=((k+1:Nat):Int):=by
 unfold cT;split
 ·have:=h x.task;unfold Tr.next;simp only;split<;>omega
 ·have:=h q;omega
def lR(t:Tr):DataW Unit:=.agg [.lit (.int .i64 t.nth),.lit (.int .i64 t.last),.lit (.int .u64 t.hi),.lit (.int .u64 t.lo)]
def Rtr(v:Value):Option (DataW Unit×List MemPlace):=
 match v with
 | .agg cs=>match cs.toList with
  |[.int .i64 a,.int .i64 b,.int .u64 c,.int .u64 d]=>some (lR ⟨a,b,c,d⟩,[])
  |_=>none
 |_=>none
def BB(t:Tr):Rtr (.agg t.arr)=some (lR t,[]):=rfl
def Mo{t:Tr}{ps:List MemPlace}(h:Rtr v=some (lR t,ps)):v=.agg t.arr:=by
 unfold Rtr at h;split at h
 ·rename_i f;split at h
  ·rename_i a b c d e;simp[lR]at h;obtain⟨⟨rfl,rfl,rfl,rfl⟩,rfl⟩:=h;congr 1;exact Su.1 e
  ·cases h
 ·cases h
structure Trk(P:Program)(K:TypeId)(w:World)(b n:Nat)(tr:Int->Tr)(D:DataW Unit):Prop where
 own:w.ownsMap P K Rtr b n D
 at_:∀q:Int,D.atKey (.int .i64 q) (lR Tr.zero)=lR (tr q)
def xI{K:TypeId}{R:Value->Option (DataW Unit×List MemPlace)}{b:Nat}(h:w.ownsMap P K R b n D):Maps.IsMap D:=by
 obtain⟨c,a,_,_,_,rfl⟩:=h;exact⟨_,rfl⟩
def Trk.put{K:TypeId}{b:Nat}(h:Trk P K w b n tr D)(x:Ev)(h':w'.ownsMap P K Rtr b m (D.put (.int .i64 x.task) (lR ((tr x.task).next x)))):Trk P K w' b m (cT tr x) (D.put (.int .i64 x.task) (lR ((tr x.task).next x))):=by
 refine⟨h',λq=>?_⟩;unfold cT;by_cases a:q=x.task
 ·subst a;rw[OB rfl,Maps.atKey_put_same (xI h.own) (by trivial)]
 ·rw[Oz a,Maps.atKey_put_other (by intro e;injection e with _ e;exact a e)];exact h.at_ q
section
open Go.Shelf
def kV:cU prog 151 4:=⟨zR,zR,zR⟩
end
end
def rV:cE prog 25 3 (I 0) 1 8:=⟨underlying25,zR,rfl⟩
def GN(n long:Int)(w:World)(hn:aq n)(hl:long<=100000):
  C 137 #[I n,I long] w λe w'=>∃v,e=.returned v/\aL 1 w w' 3 v long.toNat (i64s (gy n long.toNat)):=by
 have t:¬1048576<long:=zO
 go_in
 go_wp2;go_loopw [5,9] (λv i wr=>∃j:Nat,j<=long.toNat/\i=I j/\aL 1 w wr 3 v j (i64s (gy n j))) (λ_ i _=>long.toNat-(intOf i).toNat)
 case atStart=>exact⟨0,OK _,rfl,Pn _ _ _ _,Oy _ _⟩
 case round=>
  obtain⟨j,u,rfl,a⟩:=hrel;by_cases s:(j:Int)<long
  ·have g:aq (j:Int):=by unfold aq;omega
   have h:=AS n j;have m:=Z1 h;have p:=Z1 a;obtain⟨A,c,rfl,_,_⟩:=ak a.own;have f:=a.own;have k:=a.below.size;clear a h;generalize l:ed (j:Int) n=x at*;have q:=Z1 l;clear l;go_wp2_with fail;refine(pS (j:Int) n _ g hn).mono ?_;rintro e w' ⟨rfl,rfl⟩;rw[q.o]
   go_wp2_with (at_builtin;go_must (refine d9 (w:=wr) (n:=j) (xs:=i64s (gy n j)) rV zP rfl (.tmp 12) (.tmp 16) rfl rfl f k rfl rfl rfl zV zO zU ?_);intro y z b d _)
   have r:=Z1 (p.o.app d b);clear b d;go_roundw
   case rel=>exact⟨j+1,zO,by go_num,by have:=r.o;rw[<-m.o];simpa[i64s]using this⟩
   case measure=>simp[intOf];omega
  ·go_wp2;go_ret;have:j=long.toNat:=zO;exact⟨_,rfl,by rw[<-this];exact a⟩
def fR(w:World)(vo vl:Value)(xs:List Int):Prop:=
 ∃A c,vl=.slice A xs.length c/\xs.length<=c/\c<=maxLen/\an w w.heap.size 1 A xs.length (i64s xs)/\∀ad,A=some ad->0<xs.length->vo.ownBlock≠some ad.block
def fR.F8(w:World)(vo:Value):fR w vo (.slice none 0 0) []:=⟨none,0,rfl,OA _,by simp[maxLen],an.none_,λa e=>by cases e⟩
def yD{w w':World}{e:TypeId}{vo vl:Value}{xs:List Int}{n:Nat}(hn:n=xs.length)(h:aL 1 w w' e vl n (i64s xs))(ho:∀k,vo.ownBlock=some k->k<w.heap.size):fR w' vo vl xs:=by
 subst hn;obtain⟨A,c,rfl,a,b⟩:=ak h.own;refine⟨A,c,rfl,a,b,an.C4 h.own,λd e g f=>?_⟩;subst e;have:=(h.own.lt d.block rfl).1;have:=ho _ f;omega
def fR.other{w w':World}{vo vo' vl:Value}{xs:List Int}(h:fR w vo vl xs)(hg:w.grownBy w' vo.ownBlock)(hv:vo'.ownBlock=vo.ownBlock\/∀k,vo'.ownBlock=some k->w.heap.size<=k):fR w' vo' vl xs:=by
 obtain⟨A,c,rfl,j,l,g,i⟩:=h;have hK:=dl (w1:=w) (ag.refl (λ_=>False) w) hg (λ_ h=>h.elim) λk e=>e;refine⟨A,c,rfl,j,l,(hK.reads g (OA _) λf e a b=>i f e a b).more hg.size,λf e a b=>?_⟩
 rcases hv with hv|hv
 ·exact i f e a (hv.symm.trans b)
 ·have o:=hv _ b;obtain⟨m,d,n,_⟩:=g.2 a;rw[e]at d;injection d with d;subst d;omega
section
variable {P:Program} {w:World} {t e:TypeId} {z:Value} {bytes:Nat}
def ug(hT:cE P t e z 1 bytes)(ty:TypeId){c:Nat}{xs:List Int}(hr:an w w.heap.size 1 (some ad) xs.length (i64s xs))(hc:xs.length<=c)(hk:k<xs.length)
  (hne:vo.ownBlock≠some ad.block)(ho:∀g,vo.ownBlock=some g->g<w.heap.size)(hlen:xs.length*bytes<=140737488355328)(hle:xs.length<=maxLen)(A2:Option Addr)(hA2:A2=if c=k+1 then some ad else some (ad.add (k+1)))(c2:Nat):
  ∃v' w',(Builtin.append_ #[t,t] ty #[.slice (some ad) k k,.slice A2 (xs.length-(k+1)) c2]).run P w=.ok v' w'/\M w w'/\fR w' vo v' (xs.take k++xs.drop (k+1)):=by
 obtain⟨i,s,L,v,y⟩:=info_parts hT.info;have A:(xs.take k++xs.drop (k+1)).length=k+(xs.length-(k+1)):=zT;have l:∀j u,(i64s xs)[j]?=some u->w.cell? (ad.add j)=some u:=by
  obtain⟨a,b,_,h⟩:=hr.2 zO;injection b with b;subst b;exact h
 have B:ad.block<w.heap.size:=by
  obtain⟨a,b,h,_⟩:=hr.2 zO;injection b with b;subst b;exact h
 have hcut:=hr.cut (k:=k+1) (cap:=c) hk hc;rw[Nat.mul_one]at hcut;have N:(i64s xs).drop (k+1)=i64s (xs.drop (k+1)):=by simp[i64s]
 have o:(i64s xs).take k=i64s (xs.take k):=by simp[i64s]
 rw[N]at hcut;by_cases O:xs.length-(k+1)=0
 ·refine⟨.slice (some ad) k k,w,?_,Oy _ _,?_⟩
  ·rw[O]
   cases A2<;>simp[Builtin.append_,run_underlying hT.under,sizeOf,typeInfo,s,Builtin.lenOf,Builtin.firstCells,loadCells,loadCellsFrom,storeCells]
  ·have b:xs.take k++xs.drop (k+1)=xs.take k:=by rw[Pt zO,PC]
   rw[b];have D:(xs.take k).length=k:=zT;refine⟨some ad,k,by rw[D],zO,zO,?_,λS p _=>by injection p with p;subst p;exact hne⟩;rw[D];refine⟨by simp[i64s];omega,λT=>⟨ad,rfl,B,λj u d=>?_⟩⟩;rw[<-o]at d;rw[QX]at d;split at d
   ·exact l j u d
   ·cases d
 ·have F:∃f,A2=some f:=by rw[hA2];split<;>exact⟨_,rfl⟩
  obtain⟨f,rfl⟩:=F;have G:(if c=k+1 then some ad else Option.map (λx=>x.add (k+1)) (some ad))=some f:=by rw[hA2];rfl
  rw[G]at hcut;have q:∀j u,(i64s (xs.drop (k+1)))[j]?=some u->w.cell? (f.add j)=some u:=by
   obtain⟨a,b,_,h⟩:=hcut.2 zO;injection b with b;subst b;exact h
  obtain⟨v',w',r,m,n⟩:=run_append_arg_grows (P:=P) w t ty e i z 1 bytes hT.under s L v y hT.cells zP ad k k (i64s (xs.take k)) (by simp[i64s];omega)
   (λj u d=>by
    rw[<-o,QX]at d;split at d
    ·exact l j u d
    ·cases d) f (xs.length-(k+1)) c2 (i64s (xs.drop (k+1))) (by simp[i64s]) q zO zO (OJ (Pr _ zO) hlen)
  have H:M w w':=⟨n.os,n.tape,n.output,n.size,λj Q=>n.block j Q zS⟩;refine⟨v',w',r,H,?_⟩;have R:i64s (xs.take k)++i64s (xs.drop (k+1))=i64s (xs.take k++xs.drop (k+1)):=by simp[i64s]
  rw[R]at m;exact yD A.symm ⟨m,H⟩ ho
def qF{o:Oper}(hT:cE P t e z 1 bytes)(hgd:o.guard=none)(sl x:Operand)
  (hop:o.op=.call {callee:=.builtin .append,args:=#[sl,x],argTypes:=#[t,t]}){c:Nat}{xs:List Int}{A2:Option Addr}{c2:Nat}(hs:a.eval sl=.slice (some ad) k k)(hx:a.eval x=.slice A2 m c2)(hm:m=xs.length-(k+1))(hr:an w w.heap.size 1 (some ad) xs.length (i64s xs))(hc:xs.length<=c)(hk:k<xs.length)
  (hne:vo.ownBlock≠some ad.block)(ho:∀g,vo.ownBlock=some g->g<w.heap.size)(hlen:xs.length*bytes<=140737488355328)(hle:xs.length<=maxLen)(hA2:A2=if c=k+1 then some ad else some (ad.add (k+1)))
  (h:∀v' w',M w w'->fR w' vo v' (xs.take k++xs.drop (k+1))->wpList P ops Q rest (a.put o.dst v') w'):wpList P ops Q (o::rest) a w:=by
 subst hm;refine wpList_plain hgd λK d=>?_;obtain⟨v',w',b,f,i⟩:=ug (P:=P) hT o.type hr hc hk hne ho hlen hle A2 hA2 c2;unfold Oper.wp;simp[execOp,hop,resolve,invoke,builtin,hs,hx,b,Result.andThen];exact d _ _ (h v' w' f i)
end
def WSt(w wr:World)(n:Nat)(raw:List Int)(vo vl:Value)(j:Nat):Prop:=aL 1 w wr 3 vo j (i64s (cD n raw j).1)/\fR wr vo vl (cD n raw j).2
def Oo(w wr:World)(vo vl:Value)(j:Nat)(out left:List Int):Prop:=aL 1 w wr 3 vo j (i64s out)/\fR wr vo vl left
def Oq(n long:Int)(raw:List Int)(A:Option Addr)(c:Nat)(w:World)(hl:long<=100000)(hn:n<1\/32<n):
  C 91 #[I n,I long,.slice A raw.length c] w λe w'=>e=.returned (.slice none 0 0)/\w=w':=by
 have f:¬1048576<long:=zO;have a:n<1\/(¬n<1/\32<n):=zO;clear hn
 rcases a with hn|⟨hn,b⟩
 all_goals
  go_in
  go_wp2;go_loop [7,14] (λo i=>o=.slice none 0 0/\i=I 0) (λ_ i=>1)
  case atStart=>exact⟨rfl,rfl⟩
  case round=>
   obtain⟨rfl,rfl⟩:=hrel;by_cases d:0<long
   ·go_wp2;go_ret;exact⟨rfl,rfl⟩
   ·go_wp2;go_ret;exact⟨rfl,rfl⟩
def GO(n:Nat)(long:Int)(raw:List Int)(A:Option Addr)(c:Nat)(w:World)(hr:an w w.heap.size 1 A raw.length (i64s raw))(hin:∀x∈raw,aq x)(hn1:1<=n)(hn2:n<=32)(hl:long<=100000)(hrl:raw.length<=100000):
  C 91 #[I (n:Int),I long,.slice A raw.length c] w λe w'=>∃v,e=.returned v/\aL 1 w w' 3 v long.toNat (i64s (cD n raw long.toNat).1):=by
 have a0:=Z1 hin;have HR:=Z1 hr;have h0:¬1048576<long:=zO;have n1:¬(n:Int)<1:=zO;have n2:¬32<(n:Int):=zO;clear hin hr
 go_in
 generalize a1:raw.length=N at*;have HN:=Z1 a1;clear a1;go_wp2;go_loopw [7,8,14] (λvo vl i wr=>∃j:Nat,j<=long.toNat/\i=I j/\WSt w wr n raw vo vl j) (λ_ _ i _=>long.toNat-(intOf i).toNat)
 case atStart=>exact⟨0,OK _,rfl,⟨Pn _ _ _ _,Oy _ _⟩,fR.F8 _ _⟩
 case round=>
  obtain⟨j,hj,rfl,hm,hL⟩:=hrel;by_cases cm:(j:Int)<long
  ·have ae:=tu n hn1 raw j;have l:=na hn1 raw j (cD n raw j).2;have P:=GM hn1 raw j (cD n raw j).2;have a2:=vN ae;have ag:=pU hn1 (cD n raw j).2;have ah:=nC n hn1 raw j;have ai:=(oV ah).2;obtain⟨a,T⟩:∃a,a=placeN n raw j (cD n raw j).2:=⟨_,rfl⟩;rw[<-T]at l P;have HW:=Z3 trivial P ai;clear P ah ai;obtain⟨b,z⟩:∃b,b=(cD n raw j).2:=⟨_,rfl⟩;obtain⟨s,Q⟩:∃s,s=(cD n raw j).1:=⟨_,rfl⟩;rw[<-z]at hL l a2 ag ae;rw[<-Q]at hm;have U:=Z2 z Q;have HM:=Z1 hm;obtain⟨Ao,co,rfl,_,_⟩:=ak hm.own;clear z Q hm;obtain⟨Al,cl,rfl,r,B,p,h⟩:=hL;have HL:Hid (fR wr (.slice Ao j co) (.slice Al b.length cl) b):=Z1 ⟨Al,cl,rfl,r,B,p,h⟩;have cn:j<=100000:=zO;have br:aq (n:Int):=by unfold aq;omega
   clear p h r B;obtain⟨f,m⟩:∃f,f=gj n b:=⟨_,rfl⟩;rw[<-m]at l a2 ag;have D:=Z1 m;have X:Hid ((cD n raw (j+1)).1=s++[f.getD a 0]/\(cD n raw (j+1)).2=f.take a++f.drop (a+1)):=Z1 ⟨by rw[m,U.o.1,U.o.2,T];rfl,by rw[m,U.o.1,T];rfl⟩;clear m T;generalize a3:b.length=ll at*;have al:=Z1 a3;clear a3
   go_upto_if 25 with fail
   go_cut [8] (λv wx=>Oo w wx (.slice Ao j co) v j s f)
   case first=>
    by_cases hz:ll=0
    ·subst hz;go_wp2_with fail;refine(GN (n:Int) (n:Int) _ br zO).mono ?_;rintro e w' ⟨v,rfl,bt⟩;go_wp2;go_meet;have F:=OU al.o;have G:f=gy (n:Int) n:=by rw[D.o,F];rfl
     have R:aL 1 wr w' 3 v n (i64s (gy (n:Int) n)):=by simpa using bt
     exact⟨⟨aN HM.o.own R.below,af HM.o.below R.below⟩,by rw[G];exact yD (lH _ _).symm R λk hk=>(HM.o.own.lt k hk).2⟩
    ·have cp:((ll:Int)==0)=false:=by rw[beq_eq_false_iff_ne];omega
     go_wp2;go_meet;have h:b≠[]:=λe=>hz (by rw[<-al.o,e];rfl);have G:f=b:=by rw[D.o];unfold gj;rw[Oz h]
     exact⟨HM.o,by rw[G];exact HL.o⟩
   case rest=>
    obtain⟨t,bu⟩:=hcut;clear HM HL al;obtain⟨cq,H,rfl,r,B,p,h⟩:=bu;have a4:=t.below;have y:=Z3 p h t;clear p h t
    go_upto_if 31 with fail
    go_cut [10] (λv wy=>v=I (iQ raw j)/\wy=wc)
    case first=>
     by_cases hz:N=0
     ·subst hz;have F:=OU HN.o;have G:iQ raw j=0:=by unfold iQ;rw[OB F]
      have HE:=Z1 G;clear G F;go_wp2;go_meet;exact⟨by rw[HE.o],rfl⟩
     ·have ao:0<N:=zO;have bv:j%N<N:=Rj _ ao;have a5:j%N<raw.length:=by have:=HN.o;omega
      obtain⟨ad,u,rfl,_,L,hc⟩:=(HR.o.up a4).at_ bv;obtain rfl:=ma L a5;have G:iQ raw j=raw[j%N]:=by
       have h2:=HN.o;subst h2;unfold iQ;rw[Oz (λe=>by rw[e]at ao;simp at ao),OP,OL a5];rfl
      have HE:=Z1 G;have bj:(j:Int)%(N:Int)=((j%N:Nat):Int):=zO;have b5:(j:Int).tmod (N:Int)=((j%N:Nat):Int):=by rw[Ra zO];exact bj
      have cr:=hz;have cb:0<(N:Int):=zO;have cc:((j%N:Nat):Int)<(N:Int):=zO;clear G L;generalize raw[j%N]=x at*;generalize j%N=jm at*;go_wp2;go_meet;exact⟨by rw[HE.o],rfl⟩
    case rest=>
     obtain⟨rfl,rfl⟩:=hcut;have bk:aq (iQ raw j):=by
      unfold iQ;split
      ·unfold aq;omega
      ·rename_i S;have a6:j%raw.length<raw.length:=Rj _ (Sa.2 S);rw[OP,OL a6];exact a0.o _ (OR a6)
     have bw:aq (f.length:Int):=by unfold aq;omega
     have O:ed (iQ raw j) (f.length:Int)=(a:Int):=by rw[HW.o.2.1,D.o,U.o.1]
     have a7:=Z1 O;clear O;obtain⟨p,h,t⟩:=y.o;obtain⟨ad,u,rfl,b6,L,hc⟩:=p.at_ l;obtain rfl:=ma L l;have HX:Hid (f[a]=f.getD a 0):=Z1 (by rw[OP,OL l];rfl);have S:=h ad rfl zO;have ap:=t.own;clear p h L t;generalize f[a]=x at*;generalize aa:f.length=fn at*;have q:=Z1 aa;clear aa;generalize iQ raw j=d at*;go_wp2_with fail;refine(pS d (fn:Int) _ bk bw).mono ?_;rintro e w' ⟨rfl,rfl⟩;rw[a7.o];have cd:(a:Int)<(fn:Int):=zO
     go_wp2_with (at_builtin;go_must (refine d9 (w:=wc) (n:=j) (xs:=i64s s) rV zP rfl _ _ rfl rfl ap a4.size rfl rfl rfl zV zO zU ?_);intro v2 w2 ar au a8)
     have b0:=fR.other (w:=wc) (vo:=.slice Ao j co) (vl:=.slice (some ad) f.length H) ⟨some ad,H,rfl,by rw[q.o];exact r,B,by rw[q.o];exact y.o.1,λb1 e' hp=>y.o.2.1 b1 e' (by rw[<-q.o];exact hp)⟩ au a8;have a9:=y.o.2.2.app au ar;obtain⟨A5,c5,e5,_,_,ba,av⟩:=b0;injection e5 with e5 _ e7;subst e5 e7;have H5:=Z4 ba av a9 ar;clear ba av a9 ar au a8 S ap;have hw:IntKind.i64.wrap ((a:Int)+1)=(a:Int)+1:=IntWalk.i64_in _ ⟨zO,zO⟩;have cs:0<=(a:Int)+1:=zO;have ct:((a:Int)+1).toNat=a+1:=zO;have cu:(a:Int)<=(H:Int):=zO;have cv:(a:Int)+1<=(fn:Int):=zO;have cw:(fn:Int)<=(H:Int):=zO;refine zb 8 ?_;repeat still_step
     refine wpStill_nil ?_;have ch:f.length<=32:=by rw[q.o];omega
     refine qF (w:=w2.drew) (ad:=ad) (c:=H) (k:=a) (xs:=f) (vo:=v2) rV rfl (.tmp 53) (.tmp 57) rfl rfl rfl (by rw[q.o]) H5.o.1 (by rw[q.o];exact r) (by rw[q.o];exact l)
      (H5.o.2.1 ad rfl (by rw[q.o];exact ag)) (λg hg=>(H5.o.2.2.1.own.lt g hg).2) zO (by simp[maxLen];omega) ?hA2 ?_
     case hA2=>
      clear HW X HR a0 y a7 HX H5;simp[Addr.add]
     intro v5 w5 aw bb;have bc:aL 1 w w5 3 v2 (j+1) (i64s (cD n raw (j+1)).1):=by
      have h6:=H5.o.2.2.1;rw[X.o.1,<-HX.o];have h7:aL 1 w w2 3 v2 (j+1) (i64s (s++[x])):=by simpa[i64s]using h6
      exact⟨aN h7.own (af (Oy _ _).drew aw),af h7.below (af (Oy _ _).drew aw)⟩
     have bd:fR w5 v2 v5 (cD n raw (j+1)).2:=by rw[X.o.2];exact bb
     have ax:=Z2 bc bd;clear bc bd bb aw H5 y HW X;go_wp2;go_roundw
     case rel=>exact⟨j+1,zO,by go_num,ax.o.1,ax.o.2⟩
     case measure=>simp[intOf];omega
  ·have b4:j=long.toNat:=zO;go_wp2;go_ret;exact⟨_,rfl,by rw[<-b4];exact hm⟩
end Go.Fw
