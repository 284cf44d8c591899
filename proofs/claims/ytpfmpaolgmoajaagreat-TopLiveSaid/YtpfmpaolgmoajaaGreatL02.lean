/- Lemmas of this claim. Conditions: as each says. -/
import Derived.Test.YtpfmpaolgmoajaaGreatL01
import Derived.Lib.Overlaps
import Derived.Deep.CutBlock
import Derived.Deep.DeepCutAuto
set_option linter.unusedVariables false
set_option linter.unusedSimpArgs false
set_option maxHeartbeats 4000000
set_option maxRecDepth 20000
set_option linter.defProp false
open Go.Proofs.Tryz
namespace Go.Fw
open Go.Proofs Go.RowKit
variable {d a vo:Value}{g:Nat}{wr:World}{xs:List Int}{P:Program}{D:DataW Unit}{ad:Addr}(b:Nat)(l:List Smp)(B:Nat)(sl:Value)(A:Option Addr)(room n i:Nat)(v:Value)(x:Smp)(c:Nat)(t:Int)(w:World)(j:Nat)(e:Ending)(TO:Int)(p:Nat->Bool)(long width:Int)(w':World)(vl:Value)(vb:Nat)(s:Smp)(raw:List Int)(k:Nat)(cur:Array Value)
def jB(x:K2):Int:=if x.hi≠0\/9223372036854775807<x.lo then 9223372036854775807 else x.lo
def DV{x:K2}(h:x.ok):aq (jB x):=by
 obtain⟨⟨a,b⟩,c,d⟩:=h;unfold jB aq;split<;>omega
structure DSt where
 q:K2
 r:Int
 x:K2
structure DSt.ok(s:DSt):Prop where
 q:s.q.ok
 r:cK s.r
 x:s.x.ok
def r1W(s:DSt):Int:=orW (wrW (s.r*2)) (s.x.hi/9223372036854775808)
def xhW(s:DSt):Int:=orW (wrW (s.x.hi*2)) (s.x.lo/9223372036854775808)
def xlW(s:DSt):Int:=wrW (s.x.lo*2)
def BV(k:Nat):Int:=wrW (2^k)
def stepW(d:Int)(i:Nat)(s:DSt):DSt:=
 if s.r/9223372036854775808=0/\r1W s<d then⟨s.q,r1W s,⟨xhW s,xlW s⟩⟩
 else if i<64 then⟨⟨orW s.q.hi (BV (63-i)),s.q.lo⟩,wrW (r1W s-d),⟨xhW s,xlW s⟩⟩
 else⟨⟨s.q.hi,orW s.q.lo (BV (127-i))⟩,wrW (r1W s-d),⟨xhW s,xlW s⟩⟩
def mI(d:Int)(s:DSt):Nat->DSt
 |0=>s
 |i+1=>stepW d i (mI d s i)
def lC(x:K2)(d:Int):DSt:=mI d ⟨⟨0,0⟩,0,x⟩ 128
def MY(s:DSt):cK (r1W s):=mc _ _
def Hs{d:Int}{i:Nat}{s:DSt}(h:s.ok):(stepW d i s).ok:=by
 unfold stepW;split
 ·exact⟨h.q,MY s,mc _ _,jA _⟩
 ·split
  ·exact⟨⟨mc _ _,h.q.lo⟩,jA _,mc _ _,jA _⟩
  ·exact⟨⟨h.q.hi,mc _ _⟩,jA _,mc _ _,jA _⟩
def qZ{d:Int}{s:DSt}(h:s.ok):∀i,(mI d s i).ok
 |0=>h
 |i+1=>Hs (qZ h i)
def gC:(K2.mk 0 0).ok:=⟨by unfold cK;decide,by unfold cK;decide⟩
def Ba{x:K2}(h:x.ok):(DSt.mk ⟨0,0⟩ 0 x).ok:=⟨gC,gC.hi,h⟩
def nH(o:K2)(l:List Int):K2:=l.foldl (λo n=>if 0<n then(fk o ⟨0,n⟩).1 else o) o
def fm(l:List Int):K2:=nH ⟨0,0⟩ l
def mJ(s:DSt):K2:=if 0<s.r then(fk s.q ⟨0,1⟩).1 else s.q
def jC(l:List Int):Int:=if l=[]then 0 else jB (mJ (lC (fm l) (l.length:Int)))
def Bc(x1 x2 y1 y2:Int)(w:World):(binOp .eql 279 (.agg #[E x1,E x2]) (.agg #[E y1,E y2])).run prog w=.ok (.bool (x1==y1&&x2==y2)) w:=by
 have a:prog.stoodInHeld 279=false:=zR;rw[run_eql_struct,run_equalIn_agg w 9999 279 _ _ (by simp only[Program.fieldsOf,underlying279]) a];simp only[Program.fieldsOf,underlying279];simp[Op.eqFields,go_sem,underlying56];by_cases b:x1=y1<;>by_cases c:x2=y2<;>simp[b,c]
def Ht(x y:K2)(w:World):
  C 201 #[x.val,y.val] w (J (I (bM x y)) w):=by
 obtain⟨a,c⟩:=x;obtain⟨b,d⟩:=y;have n:M w ((w.alloc (.cells #[E a,E c] 279)).alloc (.cells #[E b,E d] 279)):=ae (ae (Oy _ _) _) _;have j:=Z1 n;clear n;unfold K2.val K2.arr;simp only;have m:Hid (bM ⟨a,c⟩ ⟨b,d⟩=if a=b/\c=d then 0 else if a<b\/(a=b/\c<d)then -1 else 1):=Z1 (by unfold bM;simp);obtain⟨q,p,z⟩:∃q:Bool,(a==b&&c==d)=q/\∀w,(binOp .eql 279 (.agg #[E a,E c]) (.agg #[E b,E d])).run prog w=.ok (.bool q) w:=⟨_,rfl,Bc _ _ _ _⟩;have r:=Z1 p;clear p
 cases q with
 |true=>
  have f:Hid (bM ⟨a,c⟩ ⟨b,d⟩=0):=Z1 (by rw[m.o,OB (by have:=r.o;simpa using this)])
  go_in
  go_wp2;go_ret;exact⟨aC f.o.symm,j.o⟩
 |false=>
  have s:¬(a=b/\c=d):=by have:=r.o;simpa using this
  have l:Hid (bM ⟨a,c⟩ ⟨b,d⟩=if a<b\/(a=b/\c<d)then -1 else 1):=Z1 (by rw[m.o,Oz s]);clear m s;by_cases g:a<b
  ·have f:Hid (bM ⟨a,c⟩ ⟨b,d⟩= -1):=Z1 (by rw[l.o,OB (.inl g)]);have t:decide (a<b)=true:=by simpa using g
   clear g
   go_in
   go_wp2;go_ret;exact⟨aC f.o.symm,j.o⟩
  ·have t:decide (a<b)=false:=by simpa using g
   by_cases i:a=b
   ·have u:(a==b)=true:=by simpa using i
    by_cases k:c<d
    ·have v:decide (c<d)=true:=by simpa using k
     have f:Hid (bM ⟨a,c⟩ ⟨b,d⟩= -1):=Z1 (by rw[l.o,OB (.inr ⟨i,k⟩)]);clear g i k
     go_in
     go_wp2;go_ret;exact⟨aC f.o.symm,j.o⟩
    ·have v:decide (c<d)=false:=by simpa using k
     have f:Hid (bM ⟨a,c⟩ ⟨b,d⟩=1):=Z1 (by rw[l.o,Oz (by rintro(h|⟨_,h⟩)<;>contradiction)]);clear g i k
     go_in
     go_wp2;go_ret;exact⟨aC f.o.symm,j.o⟩
   ·have u:(a==b)=false:=by simpa using i
    have f:Hid (bM ⟨a,c⟩ ⟨b,d⟩=1):=Z1 (by rw[l.o,Oz (by rintro(h|⟨h,_⟩)<;>contradiction)]);clear g i
    go_in
    go_wp2;go_ret;exact⟨aC f.o.symm,j.o⟩
def BW(x:K2)(w:World)(hx:x.ok):
  C 198 #[x.val] w (J (I (jB x)) w):=by
 obtain⟨⟨k,l⟩,m,n⟩:=hx;obtain⟨b,a⟩:=x;simp only at k l m n;have j:M w (w.alloc (.cells #[E b,E a] 279)):=ae (Oy _ _) _;have g:=Z1 j;clear j;have c:Hid (jB ⟨b,a⟩=if b≠0\/9223372036854775807<a then 9223372036854775807 else a):=Z1 rfl;unfold K2.val K2.arr;simp only;by_cases d:b=0
 ·have p:(b !=0)=false:=by simp[d]
  by_cases i:9223372036854775807<a
  ·have f:Hid (jB ⟨b,a⟩=9223372036854775807):=Z1 (by rw[c.o,OB (.inr i)]);have q:decide (9223372036854775807<a)=true:=by simpa using i
   clear d c
   go_in
   go_wp2;go_ret;exact⟨aC f.o.symm,g.o⟩
  ·have f:Hid (jB ⟨b,a⟩=a):=Z1 (by rw[c.o,Oz (by rintro(h|h)<;>contradiction)]);have q:decide (9223372036854775807<a)=false:=by simpa using i
   have r:a<=9223372036854775807:=zO;clear d c
   go_in
   go_wp2;go_ret;exact⟨aC f.o.symm,g.o⟩
 ·have p:(b !=0)=true:=by simpa using d
  have f:Hid (jB ⟨b,a⟩=9223372036854775807):=Z1 (by rw[c.o,OB (.inl d)]);clear d c
  go_in
  go_wp2;go_ret;exact⟨aC f.o.symm,g.o⟩
def ao{w:World}{t:TypeId}{b:Value}(h:Blk w g t #[a,b]):w.cell? (Y g 0)=some a/\w.cell? (Y g 1)=some b:=⟨h.cell 0,h.cell 1⟩
structure fJ(w wr:World)(a b c d:Value):Prop where
 below:M w wr
 x:Blk wr w.heap.size 279 #[a,b]
 z:Blk wr (w.heap.size+1) 279 #[E 0,E 0]
 q:Blk wr (w.heap.size+2) 279 #[c,d]
def fJ.Q9{w:World}{b c:Value}(h:fJ w wr a b c d)(u:Value):fJ w (wr.setCell (Y w.heap.size 0) u) u b c d:=
 ⟨h.below.setCell zS u,by simpa using h.x.B4 0 u,h.z.D1 zS u,h.q.D1 zS u⟩
def fJ.st1{w:World}{b c:Value}(h:fJ w wr a b c d)(u:Value):fJ w (wr.setCell (Y w.heap.size 1) u) a u c d:=
 ⟨h.below.setCell zS u,by simpa using h.x.B4 1 u,h.z.D1 zS u,h.q.D1 zS u⟩
def fJ.sq0{w:World}{b c:Value}(h:fJ w wr a b c d)(u:Value):fJ w (wr.setCell (Y (w.heap.size+2) 0) u) a b u d:=
 ⟨h.below.setCell zS u,h.x.D1 zS u,h.z.D1 zS u,by simpa using h.q.B4 0 u⟩
def fJ.sq1{w:World}{b c:Value}(h:fJ w wr a b c d)(u:Value):fJ w (wr.setCell (Y (w.heap.size+2) 1) u) a b c u:=
 ⟨h.below.setCell zS u,h.x.D1 zS u,h.z.D1 zS u,by simpa using h.q.B4 1 u⟩
def fJ.drew{w:World}{b c:Value}(h:fJ w wr a b c d):fJ w wr.drew a b c d:=⟨fd h.below 1,h.x,h.z,h.q⟩
def Hu(x:K2)(d:Int)(w:World)(hx:x.ok)(hd:0<d)(hd2:cK d):
  C 195 #[x.val,E d] w (J (.tuple #[.agg #[E (lC x d).q.hi,E (lC x d).q.lo],E (lC x d).r,.bool true]) w):=by
 obtain⟨d0,u⟩:=hd2;have X:=Z1 (λi=>qZ (d:=d) (Ba hx) i);have dz:(d==0)=false:=zT;obtain⟨l,m⟩:=x;have HD:Hid (lC ⟨l,m⟩ d=mI d ⟨⟨0,0⟩,0,⟨l,m⟩⟩ 128):=Z1 rfl;have aa:Hid (∀i,mI d ⟨⟨0,0⟩,0,⟨l,m⟩⟩ (i+1)=stepW d i (mI d ⟨⟨0,0⟩,0,⟨l,m⟩⟩ i)):=Z1 (λi=>rfl);have b0:=((Blk.A8 w 279 #[E l,E m] rfl).alloc (.cells #[E 0,E 0] 279)).alloc (.cells #[E 0,E 0] 279);have b1:=(Blk.A8 (w.alloc (.cells #[E l,E m] 279)) 279 #[E 0,E 0] (g:=w.heap.size+1) zS).alloc (.cells #[E 0,E 0] 279);have b2:=Blk.A8 ((w.alloc (.cells #[E l,E m] 279)).alloc (.cells #[E 0,E 0] 279)) 279 #[E 0,E 0] (g:=w.heap.size+2) zS;have hb:M w (((w.alloc (.cells #[E l,E m] 279)).alloc (.cells #[E 0,E 0] 279)).alloc (.cells #[E 0,E 0] 279)):=ae (ae (ae (Oy _ _) _) _) _;have HB:Hid (fJ w _ _ _ _ _):=Z1 ⟨hb,b0,b1,b2⟩;clear hb b0 b1 b2 hx;unfold K2.val K2.arr;simp only
 go_in
 go_wp2;go_loopw [8,14] (λr i wr=>∃(k:Nat),k<=128/\i=I k/\∃s:DSt,r=E s.r/\Hid (s=mI d ⟨⟨0,0⟩,0,⟨l,m⟩⟩ k/\fJ w wr (E s.x.hi) (E s.x.lo) (E s.q.hi) (E s.q.lo))) (λ_ i _=>128-(intOf i).toNat)
 case atStart=>exact⟨0,zO,rfl,⟨⟨0,0⟩,0,⟨l,m⟩⟩,rfl,Z1 ⟨rfl,HB.o⟩⟩
 case round=>
  obtain⟨k,hk,rfl,s,rfl,b⟩:=hrel;have y:=X.o k;rw[<-b.o.1]at y;obtain⟨⟨⟨q0,q1⟩,q2,q3⟩,⟨r0,r1⟩,⟨⟨x0,x1⟩,x2,x3⟩⟩:=y;obtain⟨A,B⟩:=ao b.o.2.x;obtain⟨D,F⟩:=ao b.o.2.q;have e1:bits BinOp.or IntKind.u64 (IntKind.u64.wrap (s.r*2)) (s.x.hi/9223372036854775808)=r1W s:=rfl;have e2:bits BinOp.or IntKind.u64 (IntKind.u64.wrap (s.x.hi*2)) (s.x.lo/9223372036854775808)=xhW s:=rfl;have e3:IntKind.u64.wrap (s.x.lo*2)=xlW s:=rfl;have G:=b.o.2.x.frozen 0;have H:=b.o.2.x.frozen 1;have L:=b.o.2.q.frozen 0;have N:=b.o.2.q.frozen 1;have av:=b.o.2.q.lt;have p:Hid (stepW d k s=mI d ⟨⟨0,0⟩,0,⟨l,m⟩⟩ (k+1)):=Z1 (by rw[aa.o k,<-b.o.1]);by_cases aw:k<128
  ·have O:(s.r/9223372036854775808=0/\r1W s<d)\/(¬(s.r/9223372036854775808=0/\r1W s<d)/\k<64)\/(¬(s.r/9223372036854775808=0/\r1W s<d)/\¬k<64):=by
    by_cases c:s.r/9223372036854775808=0/\r1W s<d
    ·exact .inl c
    ·by_cases t:k<64
     ·exact .inr (.inl ⟨c,t⟩)
     ·exact .inr (.inr ⟨c,t⟩)
   rcases O with⟨c,t⟩|⟨c,P⟩|⟨c,P⟩
   ·have j:Hid (stepW d k s=⟨s.q,r1W s,⟨xhW s,xlW s⟩⟩):=Z1 (OB ⟨c,t⟩);have u:(s.r/9223372036854775808==0)=true:=by simpa using c
    have d2:=decide_eq_true t;clear t c;go_wp2;go_roundw
    case rel=>exact⟨k+1,zO,by go_num,stepW d k s,by rw[j.o],Z1 ⟨p.o,by rw[j.o];exact(b.o.2.Q9 _).st1 _⟩⟩
    case measure=>simp[intOf];omega
   ·have ah:(k:Int)<64:=zO;have ai:(k:Int)<=63:=zO;have w6:IntKind.i64.wrap (63-(k:Int))=63-(k:Int):=IntWalk.i64_in _ zO;have w7:0<=63-(k:Int):=zO;have j:Hid (stepW d k s=⟨⟨orW s.q.hi (BV (63-k)),s.q.lo⟩,wrW (r1W s-d),⟨xhW s,xlW s⟩⟩):=Z1 ((Oz c).trans (OB P));by_cases f:s.r/9223372036854775808=0
    ·have u:(s.r/9223372036854775808==0)=true:=by simpa using f
     have d2:=decide_eq_false (λh=>c ⟨f,h⟩);have a:=(b.o.2.Q9 (E (xhW s))).st1 (E (xlW s));clear c f;go_wp2;generalize (wr.setCell (Y w.heap.size 0) (E (xhW s))).setCell (Y w.heap.size 1) (E (xlW s))=W at*;have Q:=(ao a.q).1;have R:=(ao a.q).2;have S:=a.q.frozen 0;have T:=a.q.frozen 1;have n:=Z1 a;clear a A B D F G H L N
     go_still_tail 7,zR
     go_wp2;go_roundw
     case rel=>exact⟨k+1,zO,by go_num,stepW d k s,by rw[j.o];rfl,Z1 ⟨p.o,by rw[j.o];exact(n.o.sq0 _).drew⟩⟩
     case measure=>simp[intOf];omega
    ·have u:(s.r/9223372036854775808==0)=false:=by simpa using f
     have a:=(b.o.2.Q9 (E (xhW s))).st1 (E (xlW s));clear c f;go_wp2;generalize (wr.setCell (Y w.heap.size 0) (E (xhW s))).setCell (Y w.heap.size 1) (E (xlW s))=W at*;have Q:=(ao a.q).1;have R:=(ao a.q).2;have S:=a.q.frozen 0;have T:=a.q.frozen 1;have n:=Z1 a;clear a A B D F G H L N
     go_still_tail 7,zR
     go_wp2;go_roundw
     case rel=>exact⟨k+1,zO,by go_num,stepW d k s,by rw[j.o];rfl,Z1 ⟨p.o,by rw[j.o];exact(n.o.sq0 _).drew⟩⟩
     case measure=>simp[intOf];omega
   ·have ah:¬(k:Int)<64:=zO;have ai:(k:Int)<=127:=zO;have w6:IntKind.i64.wrap (127-(k:Int))=127-(k:Int):=IntWalk.i64_in _ zO;have w7:0<=127-(k:Int):=zO;have j:Hid (stepW d k s=⟨⟨s.q.hi,orW s.q.lo (BV (127-k))⟩,wrW (r1W s-d),⟨xhW s,xlW s⟩⟩):=Z1 ((Oz c).trans (Oz P));by_cases f:s.r/9223372036854775808=0
    ·have u:(s.r/9223372036854775808==0)=true:=by simpa using f
     have d2:=decide_eq_false (λh=>c ⟨f,h⟩);have a:=(b.o.2.Q9 (E (xhW s))).st1 (E (xlW s));clear c f;go_wp2;generalize (wr.setCell (Y w.heap.size 0) (E (xhW s))).setCell (Y w.heap.size 1) (E (xlW s))=W at*;have Q:=(ao a.q).1;have R:=(ao a.q).2;have S:=a.q.frozen 0;have T:=a.q.frozen 1;have n:=Z1 a;clear a A B D F G H L N
     go_still_tail 7,zR
     go_wp2;go_roundw
     case rel=>exact⟨k+1,zO,by go_num,stepW d k s,by rw[j.o];rfl,Z1 ⟨p.o,by rw[j.o];exact(n.o.sq1 _).drew⟩⟩
     case measure=>simp[intOf];omega
    ·have u:(s.r/9223372036854775808==0)=false:=by simpa using f
     have a:=(b.o.2.Q9 (E (xhW s))).st1 (E (xlW s));clear c f;go_wp2;generalize (wr.setCell (Y w.heap.size 0) (E (xhW s))).setCell (Y w.heap.size 1) (E (xlW s))=W at*;have Q:=(ao a.q).1;have R:=(ao a.q).2;have S:=a.q.frozen 0;have T:=a.q.frozen 1;have n:=Z1 a;clear a A B D F G H L N
     go_still_tail 7,zR
     go_wp2;go_roundw
     case rel=>exact⟨k+1,zO,by go_num,stepW d k s,by rw[j.o];rfl,Z1 ⟨p.o,by rw[j.o];exact(n.o.sq1 _).drew⟩⟩
     case measure=>simp[intOf];omega
  ·obtain rfl:k=128:=zO;have e1:=b.o.2.z.frozen 0;have e2:=b.o.2.z.frozen 1;obtain⟨c2,c3⟩:=ao b.o.2.z;have U:=b.o.2.z.B4 0 (E s.q.hi);have z2:=U.B4 1 (E s.q.lo);have z3:=U.cell 0;have z4:=z2.cell 1;simp at z3 z4;clear U z2;go_wp2;rw[HD.o,<-b.o.1];refine OH (v:=.tuple #[.agg #[E s.q.hi,E s.q.lo],E s.r,.bool true]) (by simp[results,results195,go_sem,z3,z4]) rfl ⟨rfl,?_⟩
   first|exact(b.o.2.below.setCell zS _).setCell zS _|skip
def po(l:List Int):∀(o:K2),o.ok->(∀x∈l,aq x)->(nH o l).ok:=by
 induction l with
 |nil=>intro o h _;exact h
 |cons x r ih=>
  intro o h a;refine ih _ ?_ (λy c=>a y (by simp[c]));have:=a x zS;unfold aq at this;by_cases b:0<x
  ·simp only[b,if_true];exact AZ h ⟨gC.hi,by unfold cK;dsimp only;omega⟩
  ·simp only[b,if_false];exact h
def yN(o:K2)(l:List Int)(x:Int):nH o (l++[x])=if 0<x then(fk (nH o l) ⟨0,x⟩).1 else nH o l:=by
 unfold nH;rw[Qe];rfl
def Bd{x:K2}{d:Int}(h:x.ok):(lC x d).ok:=qZ (Ba h) 128
def wA{s:DSt}(h:s.ok):(mJ s).ok:=by
 unfold mJ;split
 ·exact AZ h.q ⟨gC.hi,by unfold cK;decide⟩
 ·exact h.q
def Hv{l:List Int}(h:∀x∈l,aq x):aq (jC l):=by
 unfold jC;split
 ·exact aD
 ·exact DV (wA (Bd (po l _ gC h)))
def BX(l:List Int)(A:Option Addr)(c n:Nat)(w:World)(hr:an w w.heap.size 1 A n (i64s l))(hn:n<=100000)(hl:∀x∈l,aq x):
  C 196 #[.slice A n c] w (J (.agg #[E (fm l).hi,E (fm l).lo]) w):=by
 have q:n=l.length:=by have:=hr.len;rwa [iW]at this
 have G:=Z1 q;have H:=Z1 hl;have L:=(Blk.A8 w 279 #[E 0,E 0] rfl).alloc (.cells #[E 0,E 0] 279);have N:=Blk.A8 (w.alloc (.cells #[E 0,E 0] 279)) 279 #[E 0,E 0] (g:=w.heap.size+1) zS;have O:M w ((w.alloc (.cells #[E 0,E 0] 279)).alloc (.cells #[E 0,E 0] 279)):=ae (ae (Oy _ _) _) _;have HB:=Z3 O L N;clear O L N q hl
 go_in
 go_wp2;go_loopw [8] (λi wr=>∃(k:Nat),k<=n/\i=I k/\∃o:K2,Hid (o=fm (l.take k)/\M w wr/\Blk wr w.heap.size 279 #[E 0,E 0]/\Blk wr (w.heap.size+1) 279 #[E o.hi,E o.lo])) (λi _=>n-(intOf i).toNat)
 case atStart=>exact⟨0,zO,rfl,⟨0,0⟩,Z1 ⟨rfl,HB.o⟩⟩
 case round=>
  obtain⟨k,hk,rfl,o,b⟩:=hrel;by_cases r:k<n
  ·have h:k<l.length:=by have:=G.o;omega
   obtain⟨ad,u,rfl,am,s,hc⟩:=(hr.below b.o.2.1).at_ r;obtain rfl:=ma s h;have y:=H.o _ (OR h);have P:=OG h;have t:o.ok:=by rw[b.o.1];exact po _ _ gC λx y=>H.o x (Qb y)
   generalize l[k]=x at*;have z:Hid (fm (l.take (k+1))=if 0<x then(fk o ⟨0,x⟩).1 else o):=Z1 (by rw[P,b.o.1];exact yN _ _ _);obtain⟨x0,x1⟩:=y;clear P s;by_cases Q:0<x
   ·have R:=b.o.2.1;have S:(K2.mk 0 x).ok:=⟨gC.hi,by unfold cK;dsimp only;omega⟩;have j:=λW=>qY o ⟨0,x⟩ W t S;have m:Hid (fm (l.take (k+1))=(fk o ⟨0,x⟩).1):=Z1 (by rw[z.o,OB Q]);have B:=Z1 j;obtain⟨T,U⟩:=ao b.o.2.2.2;clear j S z t;have f:=Z2 b.o.2.2.1 b.o.2.2.2;obtain⟨oh,ol⟩:=o;simp only at T U;generalize fk ⟨oh,ol⟩ ⟨0,x⟩=a at*;obtain⟨⟨X,al⟩,ab⟩:=a
    go_wp2_with (go_at_call 197;refine(B.o _).mono ?_;rintro e w1 ⟨rfl,d⟩;have p:=Z1 d;have f0:=(Blk.later f.o.2 d).frozen 0;have f1:=(Blk.later f.o.2 d).frozen 1;have d0:=(ao (Blk.later f.o.2 d)).1;have d1:=(ao (Blk.later f.o.2 d)).2;clear d)
    go_roundw
    case rel=>
     have h2:=(f.o.2.later p.o).B4 0 (E X);have h3:=h2.B4 1 (E al);exact⟨k+1,zO,by go_num,⟨X,al⟩,Z1 ⟨m.o.symm,((af R p.o).setCell zS _).setCell zS _,((f.o.1.later p.o).D1 zS _).D1 zS _,by simpa using h3⟩⟩
    case measure=>simp[intOf];omega
   ·have m:Hid (fm (l.take (k+1))=o):=Z1 (by rw[z.o,Oz Q]);go_wp2;go_roundw
    case rel=>exact⟨k+1,zO,by go_num,o,Z1 ⟨m.o.symm,b.o.2⟩⟩
    case measure=>simp[intOf];omega
  ·obtain rfl:k=n:=zO;have hf:l.take k=l:=OT (by have:=G.o;omega);have D:=b.o.1;rw[hf]at D;have f:=Z1 D;obtain⟨T,U⟩:=ao b.o.2.2.2;have f0:=b.o.2.2.1.frozen 0;have f1:=b.o.2.2.1.frozen 1;have F:=b.o.2.2.1.B4 0 (E o.hi);have z2:=F.B4 1 (E o.lo);have z3:=F.cell 0;have z4:=z2.cell 1;simp at z3 z4;have c2:=(ao b.o.2.2.1).1;have c3:=(ao b.o.2.2.1).2;clear F z2 hf D;have r:=b.o.2.2.1.lt;go_wp2;rw[<-f.o];exact OH (v:=.agg #[E o.hi,E o.lo]) (by simp[results,results196,go_sem,z3,z4]) rfl ⟨rfl,(b.o.2.1.setCell zS _).setCell zS _⟩
def DX(l:List Int)(A:Option Addr)(c n:Nat)(w:World)(hr:an w w.heap.size 1 A n (i64s l))(hn:n<=100000)(hl:∀x∈l,aq x):
  C 164 #[.slice A n c] w (J (I (jC l)) w):=by
 have i:n=l.length:=by have:=hr.len;rwa [iW]at this
 by_cases O:n=0
 ·have HX:Hid (jC l=0):=Z1 (by unfold jC;rw[OB (OU zO)]);have d0:((n:Int)==0)=true:=by rw[O];rfl
  clear i O
  go_in
  go_wp2;go_ret;exact⟨aC HX.o.symm,Oy _ _⟩
 ·have d0:((n:Int)==0)=false:=zT;have T:jC l=jB (mJ (lC (fm l) (n:Int))):=by unfold jC;rw[Oz (λe=>O (by rw[i,e];rfl)),i]
  have y:=λW=>BX l A c n W;have z:(fm l).ok:=po l _ gC hl;have f:=Bd (d:=(n:Int)) z;have B:=wA f;have D:=λW=>Hu (fm l) (n:Int) W z zO (by unfold cK;omega);have P:mJ (lC (fm l) (n:Int))=if 0<(lC (fm l) (n:Int)).r then(fk (lC (fm l) (n:Int)).q ⟨0,1⟩).1 else(lC (fm l) (n:Int)).q:=rfl
  generalize fm l=t at*;generalize lC t (n:Int)=s at*;have F:=Z1 (λW (hr:an W W.heap.size 1 A n (i64s l))=>y W hr hn hl);have G:=Z1 D;have j:=Z1 (λW=>BW (mJ s) W B);have H:=Z1 (λW=>qY s.q ⟨0,1⟩ W f.q ⟨gC.hi,by unfold cK;decide⟩);have Q:=Z1 T;have U:=Z1 hr;obtain⟨th,tl⟩:=t;obtain⟨⟨g,h⟩,r,X⟩:=s;obtain⟨r0,r1⟩:=f.r;clear i O T y z f B D hr hl;simp only at r0 r1;by_cases b:0<r
  ·have L:Hid (mJ ⟨⟨g,h⟩,r,X⟩=(fk ⟨g,h⟩ ⟨0,1⟩).1):=Z1 (by rw[P];exact OB b);have e1:decide (0<r)=true:=by simpa using b
   clear P b;rw[L.o]at Q j;clear L;generalize fk ⟨g,h⟩ ⟨0,1⟩=a at*;obtain⟨⟨ah,al⟩,ab⟩:=a
   go_in
   go_wp2_with (first|(go_at_call 196;refine(F.o _ U.o).mono ?_;rintro e w1 ⟨rfl,k⟩)|(go_at_call 195;refine(G.o _).mono ?_;rintro e u ⟨rfl,m⟩)|(go_at_call 197;refine(H.o _).mono ?_;rintro e w3 ⟨rfl,R⟩;have v:=Blk.later (Blk.A8 u 279 #[E g,E h] rfl) R;have f0:=v.frozen 0;have f1:=v.frozen 1;have g0:=(ao v).1;have g1:=(ao v).2;have S:=(v.B4 0 (E ah)).B4 1 (E al);simp at S;have au:=Z1 S;clear v S)|(go_at_call 198;refine(j.o _).mono ?_;rintro e w4 ⟨rfl,N⟩))
   go_ret;have av:=k.size;have aw:=m.size;have k3:=af (ae (af k m) (.cells #[E g,E h] 279)) R;exact⟨aC Q.o.symm,af ((k3.setCell (p:=Y u.heap.size 0) (by show w.heap.size<=u.heap.size;omega) _).setCell (p:=Y u.heap.size 1) (by show w.heap.size<=u.heap.size;omega) _) N⟩
  ·have L:Hid (mJ ⟨⟨g,h⟩,r,X⟩=⟨g,h⟩):=Z1 (by rw[P];exact Oz b);have e1:decide (0<r)=false:=by simpa using b
   clear P b H;rw[L.o]at Q j;clear L
   go_in
   go_wp2_with (first|(go_at_call 196;refine(F.o _ U.o).mono ?_;rintro e w1 ⟨rfl,k⟩)|(go_at_call 195;refine(G.o _).mono ?_;rintro e u ⟨rfl,m⟩)|(go_at_call 198;refine(j.o _).mono ?_;rintro e w4 ⟨rfl,N⟩))
   go_ret;exact⟨aC Q.o.symm,af (ae (af k m) _) N⟩
def re(s:Smp):Int:=if s.value<0 then 0 else s.value
def dQ(l:List Smp):List Int:=l.map re
def wd(a b:Int)(s:Smp):Bool:=decide (a<=s.tick)&&decide (s.tick<=b)
def cutF(l:List Smp)(a b:Int):List Smp:=l.filter (wd a b)
def je(l:List Int):Int:=l.foldl (λa b=>sat (a+b)) 0
def gD:List Int->Int
 |[]=>0
 |x::r=>r.foldl min x
def gE:List Int->Int
 |[]=>0
 |x::r=>r.foldl max x
def ofF(l:List Smp):St:=if l=[]then .zero else⟨(l.length:Int),je (dQ l),gD (dQ l),gE (dQ l),jC (dQ l)⟩
def fromF(TO width:Int):Int:=sat (sat (TO-width)+1)
def atF(l:List Smp)(TO width:Int):St:=ofF (cutF l (fromF TO width) TO)
def fo(l:List Smp):Prop:=∀s∈l,aq s.tick/\aq s.value
def Lw{s:Smp}(h:aq s.value):aq (re s):=by unfold aq re at*;split<;>omega
def nX{l:List Smp}(h:fo l):∀x∈dQ l,aq x:=by
 intro x a;obtain⟨s,b,rfl⟩:=Pa.1 a;exact Lw (h s b).2
def un(l:List Int)(x:Int):je (l++[x])=sat (je l+x):=by unfold je;rw[Qe];rfl
def Bg(l:List Int):aq (je l):=by
 rcases List.eq_nil_or_concat l with rfl|⟨r,x,rfl⟩
 ·exact aD
 ·rw[List.concat_eq_append,un];exact wB _
def Hw{l:List Int}(h:l≠[]):gD l∈l:=by
 cases l with
 |nil=>exact absurd rfl h
 |cons x r=>
  have:∀(r:List Int) (x:Int),r.foldl min x∈x::r:=by
   intro r;induction r with
   |nil=>intro x;simp
   |cons y r ih=>
    intro x;rw[Qz];have b:=ih (min x y)
    rcases Pj.1 b with a|a
    ·rw[a];by_cases c:x<=y
     ·simp[Int.min_eq_left c]
     ·simp[Int.min_eq_right (show y<=x by omega)]
    ·simp[a]
  exact this r x
def Hx{l:List Int}(h:l≠[]):gE l∈l:=by
 cases l with
 |nil=>exact absurd rfl h
 |cons x r=>
  have:∀(r:List Int) (x:Int),r.foldl max x∈x::r:=by
   intro r;induction r with
   |nil=>intro x;simp
   |cons y r ih=>
    intro x;rw[Qz];have b:=ih (max x y)
    rcases Pj.1 b with a|a
    ·rw[a];by_cases c:x<=y
     ·simp[Int.max_eq_right c]
     ·simp[Int.max_eq_left (show y<=x by omega)]
    ·simp[a]
  exact this r x
def Na{l:List Smp}(h:fo l)(hn:l.length<=100000):(ofF l).ok:=by
 unfold ofF;split
 ·exact⟨aD,aD,aD,aD,aD⟩
 ·rename_i a;have b:dQ l≠[]:=by simpa[dQ]using a
  exact⟨by unfold aq;dsimp only;omega,Bg _,nX h _ (Hw b),nX h _ (Hx b),Hv (nX h)⟩
def Bh{l:List Smp}(h:fo l)(a b:Int):fo (cutF l a b):=λs c=>h s (Pp.1 c).1
def wD{l:List Smp}(h:fo l)(hn:l.length<=100000)(TO width:Int):(atF l TO width).ok:=Na (Bh h _ _) (OJ (PF _ _) hn)
def Bi:cE prog 271 2 (I 0) 1 8:=⟨underlying271,zR,rfl⟩
def gl:cE prog 48 66 (.agg #[I 0,I 0]) 2 16:=⟨underlying48,zR,rfl⟩
def yO(n:Nat)(w:World)(hr:an w w.heap.size 2 A n (smps l))(hn:n<=100000)(hl:fo l):
  C 160 #[.slice A n c] w λe w'=>∃v,e=.returned v/\aL 1 w w' 2 v n (i64s (dQ l)):=by
 have y:=Z1 (iB hr);have O:=Z1 hl;clear hl
 go_in
 go_wp2;go_loopw [3,8] (λv i wr=>∃(k:Nat),k<=n/\i=I k/\∃(z:Option Addr) (B:Nat),v=.slice z k B/\Hid (aL 1 w wr 2 v k (i64s (dQ (l.take k))))) (λ_ i _=>n-(intOf i).toNat)
 case atStart=>exact⟨0,OK _,rfl,none,0,rfl,Z1 (aL.F8 1 w _)⟩
 case round=>
  obtain⟨k,U,rfl,z,B,rfl,q⟩:=hrel;by_cases S:k<n
  ·have g:k<l.length:=by have:=y.o;omega
   obtain⟨b,o,rfl,T,P,Q⟩:=il (hr.up q.o.below) g;have D:=OG g;have F:=O.o _ (OR g);generalize l[k]=x at*;have G:Hid (dQ (l.take (k+1))=dQ (l.take k)++[re x]):=Z1 (by rw[D];simp[dQ]);have H:Hid (re x=if x.value<0 then 0 else x.value):=Z1 rfl;obtain⟨r,d⟩:=x;simp only at P Q F;obtain⟨⟨X,t1⟩,v0,v1⟩:=F;have p:=q.o.alloc (.cells #[I r,I d] 66);have a:=Z1 p;clear D p hr;by_cases h:d<0
   ·have j:Hid (re ⟨r,d⟩=0):=Z1 (by rw[H.o];exact OB h)
    go_wp2_with (at_builtin;go_must (refine bZ Bi zP rfl (.tmp 12) (.tmp 16) rfl rfl a.o.own a.o.le zS rfl rfl zV zO zU ?_);intro R w' f m)
    obtain⟨s,t,rfl,_,_⟩:=ak f;go_roundw
    case rel=>exact⟨k+1,zO,by go_num,s,t,rfl,Z1 (by rw[G.o,j.o];simpa[i64s,show max d 0=0 by omega]using a.o.app m f)⟩
    case measure=>simp[intOf];omega
   ·have j:Hid (re ⟨r,d⟩=d):=Z1 (by rw[H.o];exact Oz h)
    go_wp2_with (at_builtin;go_must (refine bZ Bi zP rfl (.tmp 12) (.tmp 16) rfl rfl a.o.own a.o.le zS rfl rfl zV zO zU ?_);intro R w' f m)
    obtain⟨s,t,rfl,_,_⟩:=ak f;go_roundw
    case rel=>exact⟨k+1,zO,by go_num,s,t,rfl,Z1 (by rw[G.o,j.o];simpa[i64s,show max d 0=d by omega]using a.o.app m f)⟩
    case measure=>simp[intOf];omega
  ·obtain rfl:k=n:=zO;have L:l.take k=l:=OT (by have:=y.o;omega);have u:=q.o;rw[L]at u;have N:=Z1 u;clear u L;go_wp2;go_ret;exact⟨_,rfl,N.o⟩
def Hy(n:Nat)(a b:Int)(w:World)(hr:an w w.heap.size 2 A n (smps l))(hn:n<=100000):
  C 126 #[.slice A n c,I a,I b] w λe w'=>∃v,e=.returned v/\aL 2 w w' 66 v (cutF l a b).length (smps (cutF l a b)):=by
 have G:=Z1 (iB hr)
 go_in
 go_wp2;go_loopw [7,12] (λv i wr=>∃(k:Nat),k<=n/\i=I k/\∃(t:Option Addr) (u m:Nat),v=.slice t m u/\m<=k/\Hid (m=(cutF (l.take k) a b).length/\aL 2 w wr 66 v m (smps (cutF (l.take k) a b)))) (λ_ i _=>n-(intOf i).toNat)
 case atStart=>exact⟨0,OK _,rfl,none,0,0,rfl,OA _,Z1 ⟨rfl,aL.F8 2 w _⟩⟩
 case round=>
  obtain⟨k,hk,rfl,t,u,m,rfl,X,p⟩:=hrel;by_cases aa:k<n
  ·have y:k<l.length:=by have:=G.o;omega
   obtain⟨bb,o,rfl,ab,P,Q⟩:=il (hr.up p.o.2.below) y;have H:=OG y;generalize l[k]=x at*;have q:Hid (cutF (l.take (k+1)) a b=cutF (l.take k) a b++if wd a b x=true then[x]else[]):=Z1 (by rw[H];unfold cutF;rw[Ql];congr 1;by_cases h:wd a b x=true<;>simp[h]);have r:Hid (wd a b x=(decide (a<=x.tick)&&decide (x.tick<=b))):=Z1 rfl;obtain⟨f,L⟩:=x;simp only at P Q;have z:=p.o.2.alloc (.cells #[I f,I L] 66);have g:=Z1 z;clear H z hr;by_cases j:a<=f
   ·have R:decide (a<=f)=true:=by simpa using j
    by_cases s:f<=b
    ·have S:decide (f<=b)=true:=by simpa using s
     have d:Hid (cutF (l.take (k+1)) a b=cutF (l.take k) a b++[⟨f,L⟩]):=Z1 (by rw[q.o,OB (by rw[r.o];simp[j,s])]);clear j s q r
     go_wp2_with (at_builtin;go_must (refine bZ gl zP rfl (.tmp 26) (.tmp 28) rfl rfl g.o.own g.o.le zS rfl rfl zV zO zU ?_);intro v' w' B N)
     obtain⟨T,U,rfl,_,_⟩:=ak B;go_roundw
     case rel=>exact⟨k+1,zO,by go_num,T,U,m+1,rfl,zO,Z1 ⟨by rw[d.o,p.o.1];simp,by rw[d.o];simpa[smps,Smp.cells]using g.o.app N B⟩⟩
     case measure=>simp[intOf];omega
    ·have S:decide (f<=b)=false:=by simpa using s
     have d:Hid (cutF (l.take (k+1)) a b=cutF (l.take k) a b):=Z1 (by rw[q.o,Oz (by rw[r.o];simp[s]),PC]);clear j s q r;go_wp2;go_roundw
     case rel=>exact⟨k+1,zO,by go_num,t,u,m,rfl,zO,Z1 ⟨by rw[d.o,p.o.1],by rw[d.o];exact g.o⟩⟩
     case measure=>simp[intOf];omega
   ·have R:decide (a<=f)=false:=by simpa using j
    have d:Hid (cutF (l.take (k+1)) a b=cutF (l.take k) a b):=Z1 (by rw[q.o,Oz (by rw[r.o];simp[j]),PC]);clear j q r;go_wp2;go_roundw
    case rel=>exact⟨k+1,zO,by go_num,t,u,m,rfl,zO,Z1 ⟨by rw[d.o,p.o.1],by rw[d.o];exact g.o⟩⟩
    case measure=>simp[intOf];omega
  ·obtain rfl:k=n:=zO;have O:l.take k=l:=OT (by have:=G.o;omega);have F:=p.o;rw[O]at F;have D:=Z1 F;clear F O;go_wp2;go_ret;exact⟨_,rfl,by rw[<-D.o.1];exact D.o.2⟩
def Hz(l:List Int)(A:Option Addr)(c n:Nat)(w:World)(hr:an w w.heap.size 1 A n (i64s l))(hn:n<=100000)(hl:∀x∈l,aq x):
  C 161 #[.slice A n c] w λe w'=>e=.returned (I (je l))/\w=w':=by
 have d:Hid (n=l.length):=Z1 (by have:=hr.len;rwa [iW]at this);have m:=Z1 hl;clear hl
 go_in
 go_wp2;go_loopw [3,8] (λv i wr=>∃(k:Nat),k<=n/\i=I k/\w=wr/\v=I (je (l.take k))) (λ_ i _=>n-(intOf i).toNat)
 case atStart=>exact⟨0,OK _,rfl,rfl,rfl⟩
 case round=>
  obtain⟨k,t,rfl,rfl,rfl⟩:=hrel;by_cases f:k<n
  ·have a:k<l.length:=by have:=d.o;omega
   obtain⟨y,u,rfl,p,b,z⟩:=hr.at_ f;obtain rfl:=ma b a;have g:=m.o _ (OR a);have h:=OG a;generalize l[k]=x at*;have q:Hid (je (l.take (k+1))=sat (je (l.take k)+x)):=Z1 (by rw[h,un]);have r:=Z1 (λW=>ke (je (l.take k)) x W (Bg _) g);clear h b g
   go_wp2_with (go_at_call 165;refine(r.o _).mono ?_;rintro e B ⟨rfl,rfl⟩)
   go_roundw
   case rel=>exact⟨k+1,zO,by go_num,trivial,by rw[q.o]⟩
   case measure=>simp[intOf];omega
  ·obtain rfl:k=n:=zO;have j:l.take k=l:=OT (by have:=d.o;omega);have s:Hid (je (l.take k)=je l):=Z1 (by rw[j]);clear j;go_wp2;go_ret;exact⟨aC s.o,rfl⟩
def gm(l:List Smp)(i:Nat)(x:Smp):List Smp:=l.take i++x::l.drop i
def qI(a b:List Smp):smps (a++b)=smps a++smps b:=by simp[smps]
def uo:smps (l.take i)=(smps l).take (i*2):=by
 induction l generalizing i with
 |nil=>simp[smps]
 |cons x r ih=>
  cases i with
  |zero=>simp[smps]
  |succ i=>
   rw[OM];show x.cells++smps (r.take i)=(x.cells++smps r).take ((i+1)*2);rw[ih,show(i+1)*2=x.cells.length+i*2 by simp[Smp.cells];omega,List.take_length_add_append]
def uq:smps (l.drop i)=(smps l).drop (i*2):=by
 have h:smps (l.take i)++smps (l.drop i)=smps l:=by rw[<-qI,Qr]
 by_cases b:i<=l.length
 ·have a:(smps l).drop (smps (l.take i)).length=smps (l.drop i):=by rw[<-h];exact List.drop_left
  rw[dc,PG,Qp b]at a;exact a.symm
 ·rw[Pt zO,Pt (by rw[dc];omega)];rfl
def rf:smps (gm l i x)=(smps l).take (i*2)++(x.cells++(smps l).drop (i*2)):=by
 unfold gm;rw[qI,uo];show _++(x.cells++smps (l.drop i))=_;rw[uq]
def Ia(cur xs x R:List Value)(a b n:Nat)(hb:b=a+x.length)(hxl:xs.length=n)(ht:cur.take n=xs)(ha:a<=n)(hc:b<=cur.length):
  ((cur.take b++(xs.drop a++R)).take a++(x++(cur.take b++(xs.drop a++R)).drop b)).take (n+x.length)=xs.take a++(x++xs.drop a):=by
 have c:(cur.take b++(xs.drop a++R)).take a=xs.take a:=by
  rw[QN zT,Sf,<-ht,Sf,Qp zO,Qp ha]
 have d:(cur.take b++(xs.drop a++R)).drop b=xs.drop a++R:=List.drop_left' zT;rw[c,d,<-Pv x,<-Pv];exact QG zT
def DZ(row xs x R R2:List Value)(a b n:Nat)(hb:b=a+x.length)(hxl:xs.length=n)(ht:row.take a=xs.take a)(ha:a<=n)(hr:a<=row.length):
  ((row.take a++(x++R)).take b++(xs.drop a++R2)).take (n+x.length)=xs.take a++(x++xs.drop a):=by
 have c:(row.take a++(x++R)).take b=xs.take a++x:=by
  rw[ht,<-Pv];exact QG zT
 rw[c,Pv,<-Pv x,<-Pv];exact QG zT
def jf:∀v∈smps l,v.oneCell'=true:=by
 intro v a;obtain⟨s,_,h⟩:=QU.1 a;unfold Smp.cells at h;simp at h
 rcases h with rfl|rfl<;>rfl
def qa(B:Nat)(w:World)(v:Value)(l:List Smp)(i:Nat)(x:Smp)(e:Ending)(w':World):Prop:=
 ∃v',e=.returned v'/\w'.ownsRow B 66 2 v' (l.length+1) (smps (gm l i x))/\w.grownBy w' v.ownBlock/\(v'.ownBlock=v.ownBlock\/∀k,v'.ownBlock=some k->w.heap.size<=k)
def BY(n:Nat)(l:List Smp)(x:Smp)(vb:Nat)(w:World)(h:w.ownsRow B 66 2 (.slice A n c) n (smps l))(hn:n=l.length)(hN:n<=1000)(hB:B<=w.heap.size)
  (hv:Blk w vb 66 #[I x.tick,I x.value]):
  C 210 #[.slice A n c,I n,V vb 0 1 1] w (qa B w (.slice A n c) l n x):=by
 have m:an w w.heap.size 2 (some (Y vb 0)) 1 x.cells:=⟨rfl,λ_=>⟨_,rfl,hv.lt,λj u r=>by
  rw[show((Y vb 0):Addr).add j=(Y vb j) by unfold Addr.add;split<;>simp_all,hv.cell,<-PA];exact r⟩⟩
 have f:smps (gm l n x)=smps l++x.cells:=by
  rw[rf,OT (by rw[dc];omega),Pt (by rw[dc];omega),PC]
 have H:=Z4 h m f hn;have s:n<=c/\c<=maxLen:=by
  obtain⟨F,G,g,t,v⟩:=ak h;injection g with _ _ g;subst g;exact⟨t,v⟩
 obtain⟨z,p⟩:=s;unfold maxLen at p;have D:c<=9223372036854775807:=zO;by_cases q:n=c
 ·subst q
  go_in
  go_wp2_with (at_builtin;go_must (refine bP w rfl (.tmp 23) (.tmp 24) 48 rfl B 66 _ _ 2 16 underlying48 (info_parts gl.info).choose_spec.1 (info_parts gl.info).choose_spec.2.1 (info_parts gl.info).choose_spec.2.2.1 (info_parts gl.info).choose_spec.2.2.2 rfl zP (.slice A n n) n (smps l) rfl H.o.1 w.heap.size _ 1 1 x.cells rfl H.o.2.1 (by simp[Smp.cells,Value.oneCell']) zU zO hB ?_);intro i y d e a)
  go_ret;refine⟨i,rfl,?_,e,?_⟩
  ·rw[H.o.2.2.1,<-H.o.2.2.2];exact d
  ·rcases a with a|a
   ·exact .inl a
   ·refine .inr λk b=>?_;rw[a]at b;injection b with b;omega
 ·go_in
  go_wp2_with (at_builtin;go_must (refine bP w rfl (.tmp 23) (.tmp 24) 48 rfl B 66 _ _ 2 16 underlying48 (info_parts gl.info).choose_spec.1 (info_parts gl.info).choose_spec.2.1 (info_parts gl.info).choose_spec.2.2.1 (info_parts gl.info).choose_spec.2.2.2 rfl zP (.slice A n c) n (smps l) rfl H.o.1 w.heap.size _ 1 1 x.cells rfl H.o.2.1 (by simp[Smp.cells,Value.oneCell']) zU zO hB ?_);intro i y d e a)
  go_ret;refine⟨i,rfl,?_,e,?_⟩
  ·rw[H.o.2.2.1,<-H.o.2.2.2];exact d
  ·rcases a with a|a
   ·exact .inl a
   ·refine .inr λk b=>?_;rw[a]at b;injection b with b;omega
def yP(g c n i:Nat)(l:List Smp)(x:Smp)(vb:Nat)(w:World)(cur:Array Value)(hcur:Blk w g 66 cur)(hBg:B<=g)(hsz:cur.size=c*2)(htk:cur.toList.take (n*2)=smps l)(hn:n=l.length)(hN:n<=1000)(hi:i<n)(hroom:n+1<=c)(hc:c<=maxLen)
  (hv:Blk w vb 66 #[I x.tick,I x.value])(hne:vb≠g):
  C 210 #[V g 0 n c,I i,V vb 0 1 1] w (qa B w (V g 0 n c) l i x):=by
 have q:∀z A,(callFunc 230 #[V vb 0 1 1,V g ((i+1)*2) z A]).run prog w=.ok (.value (.bool false)) w:=λz A=>by
  rw[run_callFunc_extern func230 zR zR zR (e:=Extern.SlicesOverlaps.overlaps #[48,48] #[4]) zR];rw[Lib.run_overlaps_apart w 48 4 66 underlying48 2 (by intro w;kernel_rfl) (Y vb 0) (Y g ((i+1)*2)) 1 1 z A hne 66 66 2 cur.size (by have:=hv;unfold Blk at this;simp[World.shape?,this]) (by have:=hcur;unfold Blk at this;simp[World.shape?,this]) zO (hv.frozen 0) (hv.frozen 2)];rfl
 have r:(prog.info? 66).map (·.size)=some 2:=zR;have s:(smps l).length=n*2:=by rw[dc,hn]
 have d:∀j,j<n*2->cur[j]?=(smps l)[j]?:=λj f=>by rw[<-htk,Pw f,PA]
 unfold maxLen at hc;have F:=Z1 q;have a:=Z7 hcur hsz htk s d hn r;have O:=Z1 hv;have U:¬((i:Int)=(n:Int)):=zO;have G:¬(c:Int)<(n:Int)+1:=zO;have X:¬c=i:=zO;have h4:¬c=i+1:=zO;have S:c<=9223372036854775807:=zO;clear hcur hsz htk hn q s d r hc hv
 go_in
 go_wp2_with (simp only[F.o])
 have w1:IntKind.i64.wrap ((i:Int)+1)=(i:Int)+1:=IntWalk.i64_in _ zO;have w2:(0:Int)<=(i:Int)+1:=zO;have w3:((i:Int)+1).toNat=i+1:=zO;have w4:(i:Int)+1<=(n:Int)+1:=zO;have w5:(i:Int)<=(n:Int)+1:=zO;have w6:¬c=i+1:=zO;have w7:((n:Int)+1).toNat=n+1:=zO;have w8:i<=n:=zO;refine zb 8 ?_;repeat still_step
 refine wpStill_nil ?_;have b:((smps l).drop (i*2)).length=(n-i)*2:=by rw[PW,a.o.2.2.2.1];omega
 refine ii rfl (.tmp 73) (.tmp 76) 48 48 rfl underlying48 a.o.2.2.2.2.2.2 g ((i+1)*2) (n-i) (c-(i+1)) (by simp[Act.eval,Act.put]) (Y g (i*2)) (n+1-i) (c-i) (by simp[Act.eval,Act.put]) a.o.1.drew ((smps l).drop (i*2)) (by rw[b];show _=min _ _*2;rw[Rt zO]) ?_ (by rw[b,a.o.2.1];omega) (λv hv=>jf l v (PN hv)) ?_
 ·intro j v f;have T:j<(n-i)*2:=by rw[<-b];exact(OZ.1 f).1
  rw[show((Y g (i*2)):Addr).add j=(Y g (i*2+j)) by unfold Addr.add;split<;>simp_all,a.o.1.drew.cell,a.o.2.2.2.2.1 _ zO,<-PM];exact f
 intro W hW D;have p:=Z4 hW D (D.B0 O.o.drew hne) b;clear hW D b
 go_wp2_with (refine ii rfl (.tmp 80) (.tmp 81) 48 48 rfl underlying48 a.o.2.2.2.2.2.2 g (i*2) (n+1-i) (c-i) (by simp[Act.eval,Act.put]) (Y vb 0) 1 1 (by simp[Act.eval,Act.put]) p.o.1 x.cells (by show 2=min _ _*2;rw[Qp zO]) (by
   intro j v f;rw[show((Y vb 0):Addr).add j=(Y vb j) by unfold Addr.add;split<;>simp_all,p.o.2.2.1.cell,<-PA];exact f) (by rw[bV,a.o.2.1];show _+2<=_;omega) (by simp[Smp.cells,Value.oneCell']) ?_;intro P t u;have y:=Z2 t u;clear t u)
 go_ret;have Q:w.grownBy P (V g 0 n c).ownBlock:=by
  have h:=p.o.2.1.trans y.o.2;exact⟨h.B7.os,h.B7.tape,h.B7.output,h.B7.size,λk R hne=>h.B7.block k R λe=>hne (by rw[e];rfl)⟩
 have H:=a.o.2.2.2.2.2.1;refine⟨V g 0 (n+1) c,rfl,?_,Q,.inl rfl⟩;have G:=y.o.1;have L:=fU cur ((i+1)*2) ((smps l).drop (i*2)) (by rw[p.o.2.2.2,a.o.2.1];omega);have N:=fU (bH cur ((i+1)*2) ((smps l).drop (i*2))) (i*2) x.cells (by rw[bV,a.o.2.1];show _+2<=_;omega);rw[<-H];refine lf hBg G zO zU (by rw[bV,bV,a.o.2.1]) ?_ (by rw[dc];unfold gm;simp;omega);rw[N,L,rf];have m:x.cells.length=2:=rfl;have:=Ia cur.toList (smps l) x.cells (cur.toList.drop ((i+1)*2+((smps l).drop (i*2)).length)) (i*2) ((i+1)*2) (n*2) (by rw[m];omega) a.o.2.2.2.1 a.o.2.2.1 zO (by simp;rw[a.o.2.1];omega);rw[m]at this;rw[show(n+1)*2=n*2+2 by omega,m,show i*2+2=(i+1)*2 by omega];exact this
def fp:(Builtin.zeroCells (Value.agg #[I 0,I 0]).cells k).size=k*2:=by
 simp[Builtin.zeroCells,Value.cells]
def yQ(g n i:Nat)(l:List Smp)(x:Smp)(vb:Nat)(w:World)(cur:Array Value)(hcur:Blk w g 66 cur)(hsz:cur.size=n*2)(htk:cur.toList.take (n*2)=smps l)(hn:n=l.length)(hN:n<=1000)(hi:i<n)(hB:B<=w.heap.size)
  (hv:Blk w vb 66 #[I x.tick,I x.value]):
  C 210 #[V g 0 n n,I i,V vb 0 1 1] w (qa B w (V g 0 n n) l i x):=by
 have D:(prog.info? 66).map (·.size)=some 2:=zR;have r:(smps l).length=n*2:=by rw[dc,hn]
 have d:∀j,j<n*2->cur[j]?=(smps l)[j]?:=λj b=>by rw[<-htk,Pw b,PA]
 obtain⟨G,A⟩:∃G,G=grownCap w (n+1) n 66:=⟨_,rfl⟩;have ab:n+1<=G:=by rw[A];exact grownCap_ge w _ _ _
 have p:G<=maxLen:=by rw[A];exact grownCap_le_maxLen w (n+1) n _ zU
 obtain⟨a,e⟩:∃a:Array Value,a=((smps l).take (i*2)).toArray++Builtin.zeroCells (Value.agg #[I 0,I 0]).cells (n+1-i)++Builtin.zeroCells (Value.agg #[I 0,I 0]).cells (G-(n+1)):=⟨_,rfl⟩;have t:a.size=G*2:=by
  rw[e,Array.size_append,Array.size_append,fp,fp];simp[r];omega
 have u:a.toList.take (i*2)=(smps l).take (i*2):=by
  rw[e,Array.append_assoc,Array.toList_append];exact QG (by simp[r];omega)
 have F:∀T,(Builtin.append_ #[48,3] T #[V g 0 i n,I ((n:Int)+1-(i:Int))]).run prog w=.ok (V w.heap.size 0 (n+1) G) (w.drew.alloc (.cells a 66)):=λT=>by
  obtain⟨i0,ad,ae,af,H⟩:=info_parts gl.info;have U:(Builtin.firstCells i0.size i (V g 0 i n)).run prog w.drew=.ok ((smps l).take (i*2)).toArray w.drew:=by
   rw[af];exact run_firstCells_some w.drew 2 i (Y g 0) i n ((smps l).take (i*2)) (by rw[PG];omega) (λj v b=>by
    rw[QX]at b;split at b
    ·rw[show((Y g 0):Addr).add j=(Y g j) by unfold Addr.add;split<;>simp_all,hcur.drew.cell,d j zO];exact b
    ·cases b)
  have h:=Lib.run_append_grow_zeros w 48 3 T 66 i0 _ .i64 .i64 underlying48 underlying3 ad ae (some (Y g 0)) i n ((smps l).take (i*2)) U (n+1-i) zO zO zO zO (by rw[H];omega) (by rw[H,show i+(n+1-i)=n+1 by omega];exact growslice_fits zO zO);rw[show i+(n+1-i)=n+1 by omega,<-A,<-e]at h;rw[show(n:Int)+1-(i:Int)=((n+1-i:Nat):Int) by omega];exact h
 have HZ:=Z1 F;have q:=Z7 hcur hsz htk r d hn D;have f:=Z3 t u p;have HV:=Z1 hv;have am:=hcur.lt;have an:=hv.lt;have h1:¬((i:Int)=(n:Int)):=zO;have h2:(n:Int)<(n:Int)+1:=zO;have h3:¬n=i:=zO;have h4:¬G=i+1:=zO;have h5:¬G=i:=zO;unfold maxLen at p;have ao:G<=9223372036854775807:=zO;have ap:i<=n:=zO;clear hcur hsz htk hn F r d D hv e t u A p
 go_in
 go_wp2_with (first
  |(at_builtin;refine Lib.wpList_append_run _ rfl (.tmp 34) (.tmp 39) _ _ rfl _ _ rfl rfl _ _ (HZ.o _) ?_;have L:=Blk.A8 w.drew 66 a rfl;have N:Hid (Blk (w.drew.alloc (.cells a 66)) w.heap.size 66 a/\M w (w.drew.alloc (.cells a 66))):=Z1 ⟨L,(Oy w.heap.size w).drew.alloc (OA _) _⟩;clear L;have s:Blk (w.drew.alloc (.cells a 66)) g 66 cur:=q.o.1.drew.alloc _;have O:Blk (w.drew.alloc (.cells a 66)) vb 66 _:=HV.o.drew.alloc _;generalize w.drew.alloc (.cells a 66)=W1 at*;have H9:=Z2 s O;clear s O)
  |(refine ii rfl (.tmp 43) (.tmp 44) 48 48 rfl underlying48 q.o.2.2.2.2.2.2 w.heap.size (i*2) (n+1-i) (G-i) (by simp[Act.eval,Act.put]) (Y vb 0) 1 1 (by simp[Act.eval,Act.put]) N.o.1 x.cells (by show 2=min _ _*2;rw[Qp zO]) (by
   intro j v b;rw[show((Y vb 0):Addr).add j=(Y vb j) by unfold Addr.add;split<;>simp_all,H9.o.2.cell,<-PA];exact b) (by rw[f.o.1];show _+2<=_;omega) (by simp[Smp.cells,Value.oneCell']) ?_;intro W2 P y;have z:=Z3 P y (y.B0 H9.o.1 zO);clear P y))
 have w1:IntKind.i64.wrap ((i:Int)+1)=(i:Int)+1:=IntWalk.i64_in _ zO;have w2:(0:Int)<=(i:Int)+1:=zO;have w3:((i:Int)+1).toNat=i+1:=zO;have w4:(i:Int)+1<=(n:Int)+1:=zO;have w5:(i:Int)<=(n:Int):=zO;refine zb 8 ?_;repeat still_step
 refine wpStill_nil ?_;have m:((smps l).drop (i*2)).length=(n-i)*2:=by rw[PW,q.o.2.2.2.1];omega
 refine ii rfl (.tmp 50) (.tmp 53) 48 48 rfl underlying48 q.o.2.2.2.2.2.2 w.heap.size ((i+1)*2) (n-i) (G-(i+1)) (by simp[Act.eval,Act.put]) (Y g (i*2)) (n-i) (n-i) (by simp[Act.eval,Act.put]) z.o.1.drew ((smps l).drop (i*2)) (by rw[m];show _=min _ _*2;rw[Nat.min_self]) ?_ (by rw[m,bV,f.o.1];omega) (λv hv=>jf l v (PN hv)) ?_
 ·intro j v b;have aq:j<(n-i)*2:=by rw[<-m];exact(OZ.1 b).1
  rw[show((Y g (i*2)):Addr).add j=(Y g (i*2+j)) by unfold Addr.add;split<;>simp_all,z.o.2.2.drew.cell,q.o.2.2.2.2.1 _ zO,<-PM];exact b
 intro W3 Q R;have X:=Z3 Q R m;clear Q R m;go_wp2;go_ret;have c:=X.o.2.1.below (fd (z.o.2.1.below N.o.2 (OA _)) 1) (OA _);have ah:=q.o.2.2.2.2.2.1;refine⟨V w.heap.size 0 (n+1) G,rfl,?_,⟨c.os,c.tape,c.output,c.size,λk hk _=>c.block k hk⟩,.inr λk hk=>by
  have:w.heap.size=k:=by simpa[Value.ownBlock]using hk
  omega⟩
 have ai:=fU a (i*2) x.cells (by rw[f.o.1];show _+2<=_;omega);have aj:=fU (bH a (i*2) x.cells) ((i+1)*2) ((smps l).drop (i*2)) (by rw[X.o.2.2,bV,f.o.1];omega);rw[<-ah];refine lf hB X.o.1 ab f.o.2.2 (by rw[bV,bV,f.o.1]) ?_ (by rw[dc];unfold gm;simp;omega);rw[aj,ai,rf];have S:x.cells.length=2:=rfl;have:=DZ a.toList (smps l) x.cells (a.toList.drop (i*2+x.cells.length)) ((a.toList.take (i*2)++(x.cells++a.toList.drop (i*2+x.cells.length))).drop ((i+1)*2+((smps l).drop (i*2)).length)) (i*2) ((i+1)*2) (n*2) (by rw[S];omega) q.o.2.2.2.1 f.o.2.1 zO (by simp;rw[f.o.1];omega);rw[S]at this ⊢;rw[show(n+1)*2=n*2+2 by omega];exact this
def BZ(l:List Smp)(x:Smp)(vb:Nat)(w:World)(h:w.ownsRow B 66 2 v n (smps l))(hn:n=l.length)(hN:n<=1000)(hi:i<=n)(hB:B<=w.heap.size)
  (hv:Blk w vb 66 #[.int .i64 x.tick,.int .i64 x.value])(hne:v.ownBlock≠some vb):
  Calls prog 210 #[v,.int .i64 i,.slice (some ⟨vb,0,none⟩) 1 1] w (qa B w v l i x):=by
 by_cases k:i=n
 ·subst k;obtain⟨A,c,rfl,_,_⟩:=ak h;rw[hn]at h ⊢;exact BY B A c _ l x vb w h rfl (by omega) hB hv
 ·obtain⟨g,a,b,rfl,m,d,q,o,f,j⟩:=fj h (by omega);by_cases p:n+1<=a
  ·exact yP B g a n i l x vb w b d m f j hn hN (by omega) p o hv (λe=>hne (by rw[e];rfl))
  ·obtain rfl:a=n:=by omega
   exact yQ B g a i l x vb w b d f j hn hN (by omega) hB hv
def Ib(cur xs Z:List Value)(a n:Nat)(hxl:xs.length=n)(ht:cur.take n=xs)(ha:a<=n)(hz:n<=cur.length)(b:Nat)(hb:b=n-a):
  ((((xs.drop a)++cur.drop b).take b)++Z).take b=xs.drop a:=by
 have c:((xs.drop a)++cur.drop b).take b=xs.drop a:=QG zT;rw[c];exact QG zT
def tF(B:Nat)(w:World)(v:Value)(l:List Smp)(j:Nat)(e:Ending)(w':World):Prop:=
 ∃v',e=.returned v'/\w'.ownsRow B 66 2 v' (l.length-j) (smps (l.drop j))/\w.grownBy w' v.ownBlock/\v'.ownBlock=v.ownBlock
def tG:(zeroValue 66).run prog w=.ok (.agg #[I 0,I 0]) w:=zR
def nf:∀v∈(Builtin.zeroCells (Value.agg #[I 0,I 0]).cells k).toList,v.oneCell'=true:=by
 intro v a;simp[Builtin.zeroCells,Value.cells]at a;obtain⟨j,_,rfl⟩:=a;have:j%2=0\/j%2=1:=zO
 rcases this with h|h<;>rw[h]<;>rfl
def yR(n:Nat)(l:List Smp)(w:World)(h:w.ownsRow B 66 2 (.slice A n c) n (smps l))(hn:n=l.length)(hN:n<=1000):
  C 211 #[.slice A n c,I (0:Nat),I (0:Nat)] w (tF B w (.slice A n c) l 0):=by
 have d:n<=c/\c<=maxLen:=by
  obtain⟨k,m,b,e,f⟩:=ak h;injection b with _ _ b;subst b;exact⟨e,f⟩
 obtain⟨i,a⟩:=d;unfold maxLen at a;have j:c<=9223372036854775807:=zO;have H:=Z2 h hn;clear h hn a;by_cases g:c=0
 ·subst g
  go_in
  go_wp2;go_ret;exact⟨_,rfl,by have:=H.o.1;rw[<-H.o.2];simpa using this,Si w _,rfl⟩
 ·go_in
  go_wp2;go_ret;exact⟨_,rfl,by have:=H.o.1;rw[<-H.o.2];simpa using this,Si w _,rfl⟩
def yS(g c n j:Nat)(l:List Smp)(w:World)(cur:Array Value)(hcur:Blk w g 66 cur)(hBg:B<=g)(hsz:cur.size=c*2)(htk:cur.toList.take (n*2)=smps l)(hn:n=l.length)(hN:n<=1000)(hj:0<j)(hjn:j<=n)(hnc:n<=c)(hc:c<=maxLen):
  C 211 #[V g 0 n c,I (0:Nat),I j] w (tF B w (V g 0 n c) l j):=by
 have u:(prog.info? 66).map (·.size)=some 2:=zR;have x:(smps l).length=n*2:=by rw[dc,hn]
 have q:∀k,k<n*2->cur[k]?=(smps l)[k]?:=λk f=>by rw[<-htk,Pw f,PA]
 unfold maxLen at hc;have H:c<=9223372036854775807:=zO;have a:=Z7 hcur hsz htk x q hn u;have L:¬((j:Int)=0):=zO;have N:((j:Int)==0)=false:=zT;have O:((0:Int)==(j:Int))=false:=zT;have P:¬c=0:=zO;clear hcur hsz htk hn x q u hc;by_cases y:c=j
 ·subst y;obtain rfl:n=c:=zO
  go_in
  go_wp2;refine zb 6 ?_;repeat still_step
  refine wpStill_nil ?_;have d:((smps l).drop (n*2))=[]:=Pt (by rw[a.o.2.2.2.1];omega);refine kZ rfl (.tmp 22) (.tmp 25) 48 rfl underlying48 a.o.2.2.2.2.2.2 g 0 0 n (by simp[Act.eval,Act.put]) (Y g 0) 0 0 (by simp[Act.eval,Act.put]) a.o.1.drew [] zS zS zO zS zS ?_;intro W hW r;have p:=Z2 hW r;clear hW r
  go_wp2_with (refine jd rfl (.tmp 31) 48 rfl underlying48 (.agg #[I 0,I 0]) tG g 0 n n hj (by simp[Act.eval,Act.put]) p.o.1 (by rw[bV,fp,a.o.2.1];omega) (nf _) ?_;intro F h i;have m:=Z2 h i;clear h i)
  go_ret;have b:=p.o.2.trans m.o.2;refine⟨V g 0 0 n,rfl,?_,⟨b.B7.os,b.B7.tape,b.B7.output,b.B7.size,λk f s=>b.B7.block k f λe=>s (by rw[e];rfl)⟩,rfl⟩;have t:=a.o.2.2.2.2.2.1;rw[<-t,QY,Pt zO];exact lf hBg m.o.1 zO zU (by rw[bV,bV,a.o.2.1]) (by simp[smps]) (by simp[smps])
 ·go_in
  go_wp2;refine zb 6 ?_;repeat still_step
  refine wpStill_nil ?_;have d:((smps l).drop (j*2)).length=(n-j)*2:=by rw[PW,a.o.2.2.2.1];omega
  refine kZ rfl (.tmp 22) (.tmp 25) 48 rfl underlying48 a.o.2.2.2.2.2.2 g 0 0 c (by simp[Act.eval,Act.put]) (Y g (j*2)) (n-j) (c-j) (by simp[Act.eval,Act.put]) a.o.1.drew ((smps l).drop (j*2)) d ?_ zO (by rw[d,a.o.2.1];omega) (λv G=>jf l v (PN G)) ?_
  ·intro k v f;have Q:k<(n-j)*2:=by rw[<-d];exact(OZ.1 f).1
   rw[show((Y g (j*2)):Addr).add k=(Y g (j*2+k)) by unfold Addr.add;split<;>simp_all,a.o.1.drew.cell,a.o.2.2.2.2.1 _ zO,<-PM];exact f
  intro W hW r;have p:=Z3 hW r d;clear hW r d;have R:¬c=n-j:=zO;have S:n-j<=n:=zO;have z:n-(n-j)=j:=zO;have T:((n-j:Nat):Int)<=(n:Int):=zO
  go_wp2_with (refine jd rfl (.tmp 31) 48 rfl underlying48 (.agg #[I 0,I 0]) tG g ((n-j)*2) j (c-(n-j)) hj (by simp[Act.eval,Act.put,z]) p.o.1 (by rw[bV,fp,a.o.2.1];omega) (nf _) ?_;intro F h i;have m:=Z2 h i;clear h i)
  go_ret;have b:=p.o.2.1.trans m.o.2;refine⟨V g 0 (n-j) c,zS,?_,⟨b.B7.os,b.B7.tape,b.B7.output,b.B7.size,λk f s=>b.B7.block k f λe=>s (by rw[e];rfl)⟩,rfl⟩;have t:=a.o.2.2.2.2.2.1;rw[<-t];have A:=fU cur 0 ((smps l).drop (j*2)) (by rw[p.o.2.2,a.o.2.1];omega);have D:=m.o.1;rw[Rz,PS]at D;refine lf hBg D zO zU (by rw[bV,bV,a.o.2.1]) ?_ (by rw[dc];simp;omega);rw[fU _ ((n-j)*2) _ (by rw[bV,a.o.2.1,QQ,fp];omega),A,uq];simp only[OO,QA,PS];rw[p.o.2.2];exact Ib cur.toList (smps l) _ (j*2) (n*2) a.o.2.2.2.1 a.o.2.2.1 zO (by simp;rw[a.o.2.1];omega) ((n-j)*2) zO
def sj(v:Value)(l:List Smp)(w:World)(h:w.ownsRow B 66 2 v n (smps l))(hn:n=l.length)(hN:n<=1000)(hj:j<=n):
  C 211 #[v,I (0:Nat),I j] w (tF B w v l j):=by
 by_cases d:j=0
 ·subst d;obtain⟨A,c,rfl,_,_⟩:=ak h;exact yR B A c n l w h hn hN
 ·obtain⟨g,a,b,rfl,e,f,i,k,m,o⟩:=fj h zO;exact yS B g a n j l w b f e m o hn hN zO hj i k
def ea(l:List Smp):Prop:=l.Pairwise λa b=>a.tick<b.tick
def placeF(l:List Smp)(t:Int):Nat:=(l.takeWhile λs=>decide (s.tick<t)).length
def ur:placeF l t<=l.length:=by
 unfold placeF;exact List.Sublist.length_le (List.takeWhile_sublist _)
def rh{α:Type}(p:α->Bool)(l:List α):∀(k:Nat),k<=l.length->(∀(i:Nat) (h:i<l.length),i<k->p l[i]=true)->(∀h:k<l.length,p l[k]=false)->(l.takeWhile p).length=k:=by
 induction l with
 |nil=>intro k a _ _;simp at a ⊢;omega
 |cons x r ih=>
  intro k a b c
  cases k with
  |zero=>
   have:=c zS;simp at this;simp[this]
  |succ k=>
   have d:=b 0 zS zO;simp at d;rw[RZ,d];simp only[if_true,OC];rw[ih k (by simpa using a) (λi h e=>by have:=b (i+1) zT zO;simpa using this) λh=>by have:=c zT;simpa using this]
def Ea(hk:k<=l.length)(h1:∀(i:Nat) (h:i<l.length),i<k->l[i].tick<t)(h2:∀h:k<l.length,t<=l[k].tick):placeF l t=k:=
 rh _ l k hk (λi h a=>by simpa using h1 i h a) (λh=>by simpa using h2 h)
def Bj(p:Nat->Bool)(n k:Nat):Prop:=k<=n/\(∀i,i<k->p i=false)/\(∀i,k<=i->i<n->p i=true)
section
open Go.Shelf
def Ca(g:Nat)(cb:Array Value)(n:Nat)(p:Nat->Bool)(w:World)(eg:∀args w,(callFunc g args).run prog w=.ok (.enter g args) w)(hn:n<=1000)
  (hf:∀(W:World) (i:Nat),i<n->M w W->C g (#[I i]++cb) W (J (.bool (p i)) W))(hmono:∀a b,a<=b->b<n->p a=true->p b=true):
  C 228 #[I n,.func (.func g) #[] cb] w λe w'=>∃k:Nat,e=.returned (I k)/\Bj p n k/\M w w':=by
 have u:=Z1 hf;have q:=Z1 hmono;clear hf hmono
 go_in
 go_wp2;go_loopw [5,6] (λa b wr=>∃(i j:Nat),i<=j/\j<=n/\a=I i/\b=I j/\Hid ((∀t,t<i->p t=false)/\(∀t,j<=t->t<n->p t=true)/\M w wr)) (λa b _=>(intOf b).toNat - (intOf a).toNat)
 case atStart=>exact⟨0,n,OK _,OA _,rfl,rfl,Z1 ⟨λt h=>zO,λt r s=>zO,Oy _ _⟩⟩
 case round=>
  obtain⟨i,j,y,f,rfl,rfl,c⟩:=hrel;by_cases z:i<j
  ·obtain⟨h,v⟩:∃h:Nat,h=(i+j)/2:=⟨_,rfl⟩;have D:((i:Int)+(j:Int))/2=(h:Int):=zO;have A:i<=h:=zO;have B:h<j:=zO;have d:=Z1 (u.o wr h zO c.o.2.2);clear v
   cases hp:p h with
   |true=>
    rw[hp]at d;have l:=Z1 hp;clear hp;go_wp2_with fail;refine zm d.o λx m=>?_;go_wp2;go_roundw
    case rel=>exact⟨i,h,zO,zO,rfl,rfl,Z1 ⟨c.o.1,λt r s=>q.o h t r s l.o,af c.o.2.2 m⟩⟩
    case measure=>simp[intOf];omega
   |false=>
    rw[hp]at d;have l:=Z1 hp;clear hp;go_wp2_with fail;refine zm d.o λx m=>?_;go_wp2;go_roundw
    case rel=>
     refine⟨h+1,j,zO,f,by go_num,rfl,Z1 ⟨λt F=>?_,c.o.2.1,af c.o.2.2 m⟩⟩
     cases hq:p t with
     |false=>rfl
     |true=>exact absurd (q.o t h zO zO hq) (by rw[l.o];decide)
    case measure=>simp[intOf];omega
  ·obtain rfl:i=j:=zO;go_wp2;go_ret;exact⟨i,rfl,⟨f,c.o.1,c.o.2.1⟩,c.o.2.2⟩
structure eC(w:World)(b:Nat)(sl:Value)(l:List Smp)(room:Nat):Prop where
 B0:Blk w b 278 #[sl,I room]
 own:w.ownsRow 0 66 2 sl l.length (smps l)
def eC.up{w w':World}{b:Nat}{sl:Value}{l:List Smp}{room:Nat}(h:eC w b sl l room)(hb:M w w'):eC w' b sl l room:=⟨h.B0.later hb,aN h.own hb⟩
def Cb(l:List Smp)(room:Nat)(t:Int)(B1 B2 i:Nat)(W:World)(h:eC W b sl l room)(h1:Blk W B1 235 #[Z b 0])(h2:Blk W B2 2 #[I t])(hi:i<l.length)(hn:l.length<=1000):
  C 229 (#[I i]++#[Z B1 0,Z B2 0]) W λe w'=>e=.returned (.bool (decide (t<=(l.getD i ⟨0,0⟩).tick)))/\M W w':=by
 obtain⟨A,c,rfl,a,_⟩:=ak h.own;have d:=an.C4 h.own;obtain⟨m,o,rfl,_,f,k⟩:=il d hi;have g:l.getD i ⟨0,0⟩=l[i]:=by simp[List.getD,hi]
 rw[g];generalize l[i].tick=y at*;have j:=(ao h.B0).1;have p:=h1.cell 0;have q:=h2.cell 0;clear h h1 h2 d g k
 revert hi hn a f j
 generalize l.length=n;intro hi hn a f j
 go_in
 go_wp2;refine cM zR zR ?_;repeat still_step
 refine wpStill_nil ?_;go_wp2;go_ret;exact⟨rfl,fd (Oy _ _) 1⟩
def nY(l:List Smp)(room:Nat)(t:Int)(w:World)(h:eC w b sl l room)(hs:ea l)(hn:l.length<=1000):
  C 209 #[Z b 0,I t] w (J (I (placeF l t)) w):=by
 have D:=Z1 h;have q:=(Blk.A8 w 235 #[Z b 0] rfl).alloc (.cells #[I t] 2);have r:=Blk.A8 (w.alloc (.cells #[Z b 0] 235)) 2 #[I t] (g:=w.heap.size+1) zS;have f:M w ((w.alloc (.cells #[Z b 0] 235)).alloc (.cells #[I t] 2)):=ae (ae (Oy _ _) _) _;have j:=Z3 f q r;have H:=(ao (h.up f).B0).1;obtain⟨A,c,rfl,_,_⟩:=ak h.own;have F:Hid (∀W k,M w W->Bj (λi=>decide (t<=(l.getD i ⟨0,0⟩).tick)) l.length k->placeF l t=k):=Z1 (λW k _ m=>Ea l t k m.1 (λi p s=>by
   have:=m.2.1 i s;simp[List.getD,p]at this;exact this) (λu=>by
   have:=m.2.2 k (OA _) u;simp[List.getD,u]at this;exact this))
 have d:∀a b,a<=b->b<l.length->decide (t<=(l.getD a ⟨0,0⟩).tick)=true->decide (t<=(l.getD b ⟨0,0⟩).tick)=true:=by
  intro a b v f h;have x:a<l.length:=zO;simp[List.getD,x,f]at h ⊢
  rcases Ri v with rfl|y
  ·exact h
  ·have:=Qq.1 hs a b x f y;omega
 have z:=Z1 (Ca 229 #[Z w.heap.size 0,Z (w.heap.size+1) 0] l.length (λi=>decide (t<=(l.getD i ⟨0,0⟩).tick)) _ (enters_of func229 zR rfl) hn
  (λW i p hW=>Cb b _ l room t w.heap.size (w.heap.size+1) i W ((D.o.up j.o.1).up hW) (j.o.2.1.later hW) (j.o.2.2.later hW) p hn) d)
 clear f q r h hs d;generalize l.length=n at*
 go_in
 go_wp2_with (go_at_call 228;(refine z.o.mono ?_);rintro e L ⟨k,rfl,G,B⟩)
 go_ret;exact⟨aC (by rw[F.o w k (Oy _ _) G]),af j.o.1 B⟩
end
def fV(room:Nat)(l:List Smp)(x:Smp):List Smp:=
 if placeF l x.tick<l.length/\(l.getD (placeF l x.tick) ⟨0,0⟩).tick=x.tick then l.set (placeF l x.tick) x
 else if room<l.length+1 then(gm l (placeF l x.tick) x).drop 1 else gm l (placeF l x.tick) x
def yT(h:i<=l.length):(gm l i x).length=l.length+1:=by unfold gm;simp;omega
def Ic(x:Smp)(h:k<l.length):smps (l.set k x)=((smps l).set (k*2) (I x.tick)).set (k*2+1) (I x.value):=by
 induction l generalizing k with
 |nil=>simp at h
 |cons y r ih=>
  cases k with
  |zero=>rfl
  |succ k=>
   have:=ih k (by simpa using h);show y.cells++smps (r.set k x)=((y.cells++smps r).set ((k+1)*2) _).set ((k+1)*2+1) _;rw[this,show(k+1)*2=k*2+2 by omega];rfl
def bG(t v:Int):Int:=if t<0 then 3 else if v<0 then 4 else 0
def ri{w:World}{B:Nat}{e:TypeId}{n k:Nat}{A:Option Addr}{c:Nat}{l:List Smp}(h:w.ownsRow B e 2 (.slice A n c) n (smps l))(hn:n=l.length)(hk:k<n):
  ∃g,A=some (Y g 0)/\g<w.heap.size/\w.cell? (Y g (k*2))=some (I (l[k]'(by omega)).tick)/\w.cell? (Y g (k*2+1))=some (I (l[k]'(by omega)).value)/\w.frozen? (Y g (k*2))=false/\w.frozen? (Y g (k*2+1))=false/\
   ∀x:Smp,((w.setCell (Y g (k*2)) (I x.tick)).setCell (Y g (k*2+1)) (I x.value)).ownsRow B e 2 (.slice A n c) n (smps (l.set k x)):=by
 obtain⟨g,z,D,j,m,a,p,q,r,s⟩:=fj h zO;injection j with t _ u;subst t u;obtain⟨b,o,d,_,f,i⟩:=il (k:=k) (an.C4 h) zO;injection d with d;injection d with v y;subst v y;rw[PS]at f i;refine⟨g,rfl,a.lt,f,i,a.frozen _,a.frozen _,λx=>lf m ((a.B4 (k*2) _).B4 (k*2+1) _) p q (by simpa using r) ?_ (by rw[dc];simp;omega)⟩;rw[Ic l k x zO,<-s];simp only[Ru];rw[List.take_set,List.take_set]
def iC(v:Int)(w:World):C 139 #[I t,I v] w λe w'=>e=.returned (I (bG t v))/\w=w':=by
 by_cases b:t<0
 ·have a:Hid (bG t v=3):=Z1 (OB b)
  go_in
  go_wp2;go_ret;exact⟨aC a.o.symm,rfl⟩
 ·by_cases c:v<0
  ·have a:Hid (bG t v=4):=Z1 (by unfold bG;rw[Oz b,OB c])
   go_in
   go_wp2;go_ret;exact⟨aC a.o.symm,rfl⟩
  ·have a:Hid (bG t v=0):=Z1 (by unfold bG;rw[Oz b,Oz c])
   go_in
   go_wp2;go_ret;exact⟨aC a.o.symm,rfl⟩
def tH(w:World)(b:Nat)(sl:Value)(l:List Smp)(room:Nat)(x:Smp)(e:Ending)(w':World):Prop:=
 e=.returned (I 0)/\∃sl',eC w' b sl' (fV room l x) room/\ag (λj=>j=b\/sl.ownBlock=some j) w w'/\(sl'.ownBlock=sl.ownBlock\/∀k,sl'.ownBlock=some k->w.heap.size<=k)
def Eb(l:List Smp)(room:Nat)(x:Smp)(w:World)(h:eC w b sl l room)(hs:ea l)(hn:l.length<=1000)(hroom:1<=room)(hx0:0<=x.tick)(hx1:0<=x.value)(hin:placeF l x.tick<l.length)(heq:(l.getD (placeF l x.tick) ⟨0,0⟩).tick=x.tick):
  C 191 #[Z b 0,I x.tick,I x.value] w (tH w b sl l room x):=by
 have L:=Z1 (λW=>iC x.tick x.value W);rw[show bG x.tick x.value=0 by unfold bG;rw[Oz zO,Oz zO]]at L;have HP:=Z1 (λW (hW:eC W b sl l room)=>nY b sl l room x.tick W hW hs hn);have HX:Hid (fV room l x=l.set (placeF l x.tick) x):=Z1 (OB ⟨hin,heq⟩);have N:l.getD (placeF l x.tick) ⟨0,0⟩=l[placeF l x.tick]:=by simp[List.getD,hin]
 rw[N]at heq;generalize placeF l x.tick=k at*;have u:∀j,sl.ownBlock=some j->j≠b:=λj hj e=>by subst e;exact aB h.own h.B0 zP hj
 obtain⟨A,c,rfl,ar,v⟩:=ak h.own;obtain⟨g,rfl,y,F,O,f0,f1,a⟩:=ri h.own rfl hin;have ah:=Z1 a;have z:g≠b:=u g rfl;have H:=Z1 h;obtain⟨P,Q⟩:=ao h.B0;obtain⟨q,r⟩:=x;simp only at*;rw[heq]at F;have au:((room:Int)==0)=false:=zT;have B:=h.B0.lt;unfold maxLen at v;have HL:=Z1 hin;clear a hs hroom heq N u h v;generalize l[k].value=yv at*;clear hin;generalize f:l.length=n at*;have s:=Z1 f;clear f;have R:k<n:=HL.o
 go_in
 go_wp2_with (first|(go_at_call 139;refine(L.o _).mono ?_;rintro e G ⟨rfl,rfl⟩)|(go_at_call 209;refine(HP.o _ H.o).mono ?_;rintro e G ⟨rfl,S⟩;have d:=Z1 (ae S (.cells #[I q,I r] 66));have e0:=(OF d.o (p:=Y b 0) B).trans P;have e1:=(OF d.o (p:=Y b 1) B).trans Q;have e2:=(OF d.o (p:=Y g (k*2)) y).trans F;have e3:=(OF d.o (p:=Y g (k*2+1)) y).trans O))
 have m:=H.o.up d.o;have D:=Blk.A8 G 66 #[I q,I r] rfl;have T:=Z1 d.o;generalize G.alloc (.cells #[I q,I r] 66)=W at*;have t:W.ownsRow 0 66 2 (V g 0 n c) n (smps l):=by have:=m.own;rwa [s.o]at this
 obtain⟨g',i,av,i0,i1,i2,i3,a⟩:=ri t s.o.symm R;injection i with i;injection i with i _;subst i;obtain⟨d0,d1⟩:=ao D;obtain⟨q0,q1⟩:=ao m.B0;have U:=Z2 m (a ⟨q,r⟩);clear m a D P Q F O e0 e1 e2 e3 f0 f1 t;generalize (l[k]'(by have:=s.o;omega)).tick=y0 at i0;generalize (l[k]'(by have:=s.o;omega)).value=y1 at i1;refine zb 7 ?_;repeat still_step
 refine wpStill_nil ?_;go_wp2;go_ret;have X:=U.o.2;have f:(l.set k ⟨q,r⟩).length=n:=by rw[PI];exact s.o
 refine⟨rfl,V g 0 n c,?_,(((ag.B5 T.o).drew.setCell (.inl (.inr rfl)) _).setCell (.inl (.inr rfl)) _),.inl rfl⟩;rw[HX.o];refine⟨?_,?_⟩
 ·exact((U.o.1.B0.drew.D1 (p:=Y g (k*2)) (Pc z) _).D1 (p:=Y g (k*2+1)) (Pc z) _)
 ·rw[f];exact X.drew
def ag.C8{L:Nat->Prop}{w w':World}(h:ag L w w'){B s n:Nat}{e:TypeId}{v:Value}{xs:List Value}(hv:w.ownsRow B e s v n xs)(hL:∀k,v.ownBlock=some k->¬L k):w'.ownsRow B e s v n xs:=by
 refine⟨hv.1,?_⟩
 rcases hv.2 with a|⟨g,b,c,rfl,d,a,f⟩
 ·exact .inl a
 ·exact .inr ⟨g,b,c,rfl,d,(h.block g (Blk.lt a) (hL g rfl)).trans a,f⟩
def Id(l:List Smp)(room:Nat)(x:Smp)(w:World)(h:eC w b sl l room)(hs:ea l)(hn:l.length<=500)(hroom:1<=room)(hrm:room<=500)(hx0:0<=x.tick)(hx1:0<=x.value)(hno:¬(placeF l x.tick<l.length/\(l.getD (placeF l x.tick) ⟨0,0⟩).tick=x.tick)):
  C 191 #[Z b 0,I x.tick,I x.value] w (tH w b sl l room x):=by
 have HR:=Z1 (λW=>iC x.tick x.value W);rw[show bG x.tick x.value=0 by unfold bG;rw[Oz zO,Oz zO]]at HR;have HP:=Z1 (λW (hW:eC W b sl l room)=>nY b sl l room x.tick W hW hs zO);have HX:Hid (fV room l x=if room<l.length+1 then(gm l (placeF l x.tick) x).drop 1 else gm l (placeF l x.tick) x):=Z1 (Oz hno);have a1:=ur l x.tick;have a2:=yT l (placeF l x.tick) x a1;have a3:∀j,sl.ownBlock=some j->j≠b:=λj G e=>by subst e;exact aB h.own h.B0 zP G
 have X:(¬placeF l x.tick<l.length)\/(placeF l x.tick<l.length/\∃(B o c:Nat) (y:Int),sl=.slice (some (Y B o)) l.length c/\B<w.heap.size/\w.cell? (Y B (o+placeF l x.tick*2))=some (I y)/\(y==x.tick)=false):=by
  by_cases r:placeF l x.tick<l.length
  ·refine .inr ⟨r,?_⟩;obtain⟨A,c,rfl,_,_⟩:=ak h.own;obtain⟨B,o,rfl,hB,T,_⟩:=il (an.C4 h.own) r;refine⟨B,o,c,_,rfl,hB,T,?_⟩;have:(l.getD (placeF l x.tick) ⟨0,0⟩)=l[placeF l x.tick]:=by simp[List.getD,r]
   rw[this]at hno;have:=λe=>hno ⟨r,e⟩
   simpa using this
  ·exact .inl r
 have HT:=Z1 X;generalize placeF l x.tick=k at*;have bc:=Z1 (λ(v:Value) (D:Nat) W (ho:W.ownsRow 0 66 2 v l.length (smps l)) (hv:Blk W D 66 #[I x.tick,I x.value]) aa=>BZ 0 l.length k v l x D W ho rfl zO a1 (OK _) hv aa);have H:=Z1 h;have bl:=Z1 a3;obtain⟨c0,c1⟩:=ao h.B0;have a4:=h.B0.lt;have ci:((room:Int)==0)=false:=zT;obtain⟨m,q⟩:=x;simp only at*;have bn:=ak h.own;obtain⟨A,c,bo,cj,bp⟩:=bn;obtain⟨s,F⟩:∃f:Nat->Prop,∀j,f j↔sl.ownBlock=some j:=⟨_,λ_=>Iff.rfl⟩;have L:=Z1 F;have bq:Hid (∀g,w.heap.size<=g->∀j,s j->j≠g):=Z1 λg hg j G=>by have:=(h.own.lt j ((F j).1 G)).2;omega
 clear F;have a5:=Z1 a2;clear hs hno h a3 X bp a2;subst bo;generalize al:l.length=n at*;have HN:=Z1 al;clear al
 rcases HT.o with r|⟨r,B,o,c',y,he,bs,T,hy⟩
 all_goals
  try (injection he with bt ck bu;subst bt bu)
  have cl:decide ((k:Int)<(n:Int))=decide (k<n):=zS
  go_in
  go_wp2_with (first|(go_at_call 139;refine(HR.o _).mono ?_;rintro e w1 ⟨rfl,rfl⟩)|(go_at_call 209;refine(HP.o _ H.o).mono ?_;rintro e w1 ⟨rfl,ap⟩;have N:=Z1 (ae ap (.cells #[I m,I q] 66));have e0:=(OF N.o (p:=Y b 0) a4).trans c0;have e1:=(OF N.o (p:=Y b 1) a4).trans c1;try (have e2:=(OF N.o (p:=Y B (o+k*2)) bs).trans T)))
  have ab:=H.o.up N.o;have ac:=Blk.A8 w1 66 #[I m,I q] rfl;have a6:=N.o;have aq:=bq.o w1.heap.size ap.size;clear c0 e0 e1 ap;try clear e2
  generalize w1.alloc (.cells #[I m,I q] 66)=W at*;generalize w1.heap.size=D at*;have U:=Z4 ab ac a6 aq;obtain⟨e0,e1⟩:=ao ab.B0;obtain⟨d0,d1⟩:=ao ac;have bx:=ab.B0.lt;have a7:=ac.lt;clear ab ac a6 aq;have hS:=(ag.refl s W).drew;have ar:¬s b:=λe=>bl.o b ((L.o b).1 e) rfl;have au:¬s D:=λe=>U.o.2.2.2 D e rfl;have fb:=U.o.1.B0.frozen 0;refine bW 9 (S:=λV=>ag s W V) zR zR hS ?_;simp only[OM,OO,ON,OQ];try simp only[zD,zE,Nat.reduceAdd,zG]
  refine zL ?_;refine zQ 4 _ ?_ (hy:=λW hW=>by have q0:=(OI (a:=Y b 0) (hW.block b bx ar)).trans e0;exact zf);refine zq 6 _ ?_ (hy:=λW hW=>by have q0:=(OI (a:=Y D 0) (hW.block D a7 au)).trans d0;have q1:=(OI (a:=Y D 1) (hW.block D a7 au)).trans d1;exact zf);refine zo 7 λK hK=>?_;go_simp;refine zJ hK (hS.alloc _) ?_;refine zo 8 λK hK=>?_;go_simp;have ad:=U.o.1.own;rw[HN.o]at ad;refine(bc.o _ W.heap.size _ ((ad.alloc _).drew) ((Blk.A8 W _ _ rfl).drew) (Lt ad)).mono ?_;rintro e w4 ⟨v4,rfl,d,a8,O⟩;rw[HN.o]at d;obtain⟨A4,c4,rfl,_,_⟩:=ak d;have t:=dl (hS.alloc (.cells #[I m,I q] 66)) a8 (λ_ h=>h) λj G=>(L.o j).2 G;have i:=t.B0 U.o.1.B0 ar;have H4:=Z4 i d O t;obtain⟨T,g1⟩:=ao i;have gf:=i.frozen 0;clear a8 ad d O i;refine zJ hK t ?_;rw[bI];clear t hS ar au fb e0 e1 d0 d1;go_wp2;obtain⟨i,d,O,t⟩:=H4.o;have av:=aB d i zP;have P:=i.B4 0 (.slice A4 (n+1) c4);have a9:=bA (p:=Y b 0) d av (.slice A4 (n+1) c4);have ba:ag (λj=>j=b\/s j) W (w4.setCell (Y b 0) (.slice A4 (n+1) c4)):=(t.C3 λ_ h=>.inr h).setCell (p:=Y b 0) (.inl (.inl rfl)) _;have HV:=Z1 (O.imp_right (c:=∀k,(Value.slice A4 (n+1) c4).ownBlock=some k->w.heap.size<=k) λh k hk=>by have:=h k hk;have Q:=U.o.2.2.1.size;have cm:W.heap.size<=(W.alloc (.cells #[I m,I q] 66)).drew.heap.size:=(by show W.heap.size<=(W.alloc _).heap.size;simp);omega);clear i d O t av T g1 gf;generalize w4.setCell (Y b 0) (.slice A4 (n+1) c4)=W5 at*;have R:=Z3 P a9 ba;have T:=P.cell 0;have g1:=P.cell 1;simp at T g1;have f0:=P.frozen 0;clear P a9 ba;refine cM zR zR ?_;repeat still_step
  refine wpStill_nil ?_;by_cases af:room<n+1
  ·have aw:Hid (fV room l ⟨m,q⟩=(gm l k ⟨m,q⟩).drop 1):=Z1 (by rw[HX.o,OB af]);have ax:=sj 0 (n+1) 1 (.slice A4 (n+1) c4) (gm l k ⟨m,q⟩) W5.drew R.o.2.1.drew a5.o.symm zO zO;have bh:=Z1 ax;clear ax;go_wp2_with fail;refine bh.o.mono ?_;rintro e w6 ⟨v6,rfl,ay,u,bb⟩;have ah:=R.o.1.drew.grown u (λe=>aB R.o.2.1 R.o.1 zP e.symm);have f6:=ah.frozen 0;have g6:=ah.cell 0;simp at g6;obtain⟨A6,c6,rfl,_,_⟩:=ak ay;go_wp2;go_ret;have bi:=aB ay ah zP;refine⟨rfl,.slice A6 ((gm l k ⟨m,q⟩).length - 1) c6,?_,?_,?_⟩
   ·rw[aw.o];refine⟨by simpa using ah.B4 0 _,?_⟩;have:=bA (p:=Y b 0) ay bi (.slice A6 ((gm l k ⟨m,q⟩).length - 1) c6)
    simpa using this
   ·have b2:ag (λj=>j=b\/s j) w w6:=by
     have z:=(((ag.B5 U.o.2.2.1).trans R.o.2.2)).drew;refine⟨u.os.trans z.os,u.tape.trans z.tape,u.output.trans z.output,OJ z.size u.size,λj G aa=>?_⟩;refine(u.block j (OV G z.size) λe=>?_).trans (z.block j G aa)
     rcases HV.o with Q|Q
     ·exact aa (.inr ((L.o j).2 (Q▸e.symm)))
     ·have:=Q j e.symm;omega
    exact(b2.setCell (p:=Y b 0) (.inl (.inl rfl)) _).C3 λj h=>h.imp id (L.o j).1
   ·rcases HV.o with Q|Q
    ·exact .inl (bb.trans Q)
    ·exact .inr λk hk=>Q k (bb▸hk)
  ·have aw:Hid (fV room l ⟨m,q⟩=gm l k ⟨m,q⟩):=Z1 (by rw[HX.o,Oz af]);go_wp2;go_ret;refine⟨rfl,_,?_,?_,HV.o⟩
   ·rw[aw.o];exact⟨R.o.1.drew,by rw[a5.o];exact R.o.2.1.drew⟩
   ·exact(((ag.B5 U.o.2.2.1).trans R.o.2.2).drew).C3 λj h=>h.imp id (L.o j).1
def wE(l:List Smp)(room:Nat)(x:Smp)(w:World)(h:eC w b sl l room)(hs:ea l)(hn:l.length<=500)(hroom:1<=room)(hrm:room<=500)(hx0:0<=x.tick)(hx1:0<=x.value):
  C 191 #[Z b 0,I x.tick,I x.value] w (tH w b sl l room x):=by
 by_cases a:placeF l x.tick<l.length/\(l.getD (placeF l x.tick) ⟨0,0⟩).tick=x.tick
 ·exact Eb b sl l room x w h hs zO hroom hx0 hx1 a.1 a.2
 ·exact Id b sl l room x w h hs hn hroom hrm hx0 hx1 a
def wJ(h1:1<=n)(h2:n<=256):C 190 #[I n] w λe w'=>e=.returned (Z w.heap.size 0)/\eC w' w.heap.size (.slice none 0 0) [] n/\w'.heap.size=w.heap.size+1/\M w w':=by
 go_in
 go_wp2;go_ret;exact⟨rfl,⟨Blk.A8 _ _ _ rfl,Pn _ _ _ _⟩,zS,ae (Oy _ _) _⟩
def jq(l:List Smp)(room:Nat)(w:World)(h:eC w b sl l room)(hn:l.length<=1000):
  C 130 #[Z b 0] w λe w'=>∃v,e=.returned v/\aL 2 w w' 66 v l.length (smps l):=by
 obtain⟨f,g⟩:=ao h.B0;obtain⟨A,c,rfl,_,_⟩:=ak h.own;have a:=kI (smps l) A c l.length w (an.C4 h.own) (jf l) zO;clear h
 go_in
 go_wp2_with fail;refine zX a λv i d=>?_;go_wp2;go_ret;exact⟨v,rfl,d⟩
def Cc(l:List Smp)(room:Nat)(w:World)(h:eC w b sl l room)(hn:l.length<=1000):
  C 322 #[Z b 0] w λe w'=>∃b' sl',e=.returned (Z b' 0)/\eC w' b' sl' l room/\w.heap.size<=b'/\(∀k,sl'.ownBlock=some k->w.heap.size<=k)/\M w w':=by
 have g:=jq b sl l room;have q:=Z1 g;have H:=Z1 h;obtain⟨t,r⟩:=ao h.B0;have i:=h.B0.lt;clear h g
 go_in
 go_wp2;have f:=(zi w);refine zH (S:=λV=>M w V) f ?_;refine zq 5 _ ?_ (hy:=λW hW=>by have u:=(OF hW (p:=Y b 1) i).trans r;exact zf);refine zo 1 λK hK=>?_;go_simp;refine zX (q.o w.drew (H.o.up f) hn) λv j d=>?_;have m:=Z1 d;obtain⟨A,c,rfl,_,_⟩:=ak d.own;have a:=af f d.below;clear d;refine zJ hK a ?_;refine zo 7 λK hK=>?_;go_simp;have n:=ae a (.cells #[Value.slice A l.length c,I ↑room] 278);refine zJ hK n ?_;go_wp2;go_ret;refine⟨j.heap.size,_,rfl,⟨Blk.A8 j _ _ rfl,aP (m.o.own.alloc _) (OK _)⟩,a.size,λk s=>(m.o.own.lt k s).1,ae a _⟩
def Ed(l:List Smp)(room:Nat)(t:Int)(w:World)(h:eC w b sl l room)(hs:ea l)(hn:l.length<=500):
  C 317 #[Z b 0,I t] w λe w'=>e=.returned (I (placeF l t:Nat))/\∃sl',eC w' b sl' (l.drop (placeF l t)) room/\ag (λj=>j=b\/sl.ownBlock=some j) w w'/\sl'.ownBlock=sl.ownBlock:=by
 have D:=Z1 (λW (hW:eC W b sl l room)=>nY b sl l room t W hW hs zO);have g:=ur l t;have F:=Z1 (λW (hW:eC W b sl l room)=>sj 0 l.length (placeF l t) sl l W hW.own rfl zO g);generalize placeF l t=k at*;have H:=Z1 h;have O:=h.B0.lt;have s:=aB h.own h.B0 zP;obtain⟨A,c,rfl,_,_⟩:=ak h.own;clear h hs g
 go_in
 go_wp2_with fail;refine zm (D.o _ H.o) λu i=>?_;have d:=H.o.up i;obtain⟨P,Q⟩:=ao d.B0;have m:=Z1 d;clear d;have q:=F.o u m.o;change C 211 #[.slice A l.length c,I 0,I k] u _ at q;have v:=Z1 q;clear q;go_wp2_with fail;refine v.o.mono ?_;rintro e G ⟨R,rfl,f,n,x⟩;have a:=m.o.B0.grown n (Pc s);have S:=a.frozen 0;have N:=a.cell 0;simp at N;obtain⟨y,z,rfl,_,_⟩:=ak f;go_wp2;go_ret;have r:=aB f a zP;refine⟨rfl,.slice y (l.length-k) z,⟨by simpa using a.B4 0 _,?_⟩,?_,x⟩
 ·have:=bA (p:=Y b 0) f r (.slice y (l.length-k) z);rw[PW];exact this
 ·have B:ag (λj=>j=b\/(Value.slice A l.length c).ownBlock=some j) w G:=dl ((ag.B5 (L:=λ_=>False) i)) n (λ_ h=>h.elim) λj e=>.inr e;exact B.setCell (p:=Y b 0) (.inl (.inl rfl)) _
def Ep{l:List Int}(h:l≠[])(x:Int):gD (l++[x])=if x<gD l then x else gD l:=by
 cases l with
 |nil=>exact absurd rfl h
 |cons y r=>
  show(r++[x]).foldl min y=_;rw[Qe];show min (r.foldl min y) x=if x<r.foldl min y then x else r.foldl min y
  split<;>omega
def Er{l:List Int}(h:l≠[])(x:Int):gE (l++[x])=if gE l<x then x else gE l:=by
 cases l with
 |nil=>exact absurd rfl h
 |cons y r=>
  show(r++[x]).foldl max y=_;rw[Qe];show max (r.foldl max y) x=if r.foldl max y<x then x else r.foldl max y
  split<;>omega
def It(l:List Int)(A:Option Addr)(c n:Nat)(w:World)(hr:an w w.heap.size 1 A n (i64s l))(hn:n<=100000)(h0:0<n):
  C 162 #[.slice A n c] w λe w'=>e=.returned (I (gD l))/\w=w':=by
 have j:Hid (n=l.length):=Z1 (by have:=hr.len;rwa [iW]at this);have d:0<l.length:=by have:=j.o;omega
 obtain⟨b,o,rfl,B,a⟩:=hr.J6 (k:=0) zP h0;have D:w.cell? (Y b o)=some (I l[0]):=by simpa using a 0 _ (by simp[i64s,d])
 have u:=Z1 a;clear a;have p:Hid (gD (l.take 1)=l[0]):=Z1 (by rw[List.take_one];cases l with|nil=>simp at d|cons y r=>rfl);generalize l[0]=H at*;have L:¬(n:Int)<1:=zO
 go_in
 go_wp2;go_loopw [3,4] (λv i wr=>∃(k:Nat),1<=k/\k<=n/\i=I k/\w=wr/\v=I (gD (l.take k))) (λ_ i _=>n-(intOf i).toNat)
 case atStart=>exact⟨1,OA _,h0,rfl,rfl,by rw[p.o]⟩
 case round=>
  obtain⟨k,F,N,rfl,rfl,rfl⟩:=hrel;by_cases G:k<n
  ·have g:k<l.length:=by have:=j.o;omega
   have O:w.cell? (Y b (o+k))=some (I l[k]):=u.o k _ (by simp[i64s,g]);have q:=OG g;generalize l[k]=x at*;have h:l.take k≠[]:=by intro e;have:=congrArg List.length e;rw[PG,OE]at this;omega
   have s:Hid (gD (l.take (k+1))=if x<gD (l.take k)then x else gD (l.take k)):=Z1 (by rw[q,Ep h]);clear q h;generalize gD (l.take k)=m at*;by_cases t:x<m
   ·have f:Hid (gD (l.take (k+1))=x):=Z1 (by rw[s.o,OB t]);go_wp2;go_roundw
    case rel=>exact⟨k+1,zO,zO,by go_num,trivial,by rw[f.o]<;>simp<;>omega⟩
    case measure=>simp[intOf];omega
   ·have f:Hid (gD (l.take (k+1))=m):=Z1 (by rw[s.o,Oz t]);go_wp2;go_roundw
    case rel=>exact⟨k+1,zO,zO,by go_num,trivial,by rw[f.o]<;>simp<;>omega⟩
    case measure=>simp[intOf];omega
  ·obtain rfl:k=n:=zO;have z:Hid (gD (l.take k)=gD l):=Z1 (by rw[OT (by have:=j.o;omega)]);go_wp2;go_ret;exact⟨aC z.o,rfl⟩
def Iu(l:List Int)(A:Option Addr)(c n:Nat)(w:World)(hr:an w w.heap.size 1 A n (i64s l))(hn:n<=100000)(h0:0<n):
  C 163 #[.slice A n c] w λe w'=>e=.returned (I (gE l))/\w=w':=by
 have j:Hid (n=l.length):=Z1 (by have:=hr.len;rwa [iW]at this);have d:0<l.length:=by have:=j.o;omega
 obtain⟨b,o,rfl,B,a⟩:=hr.J6 (k:=0) zP h0;have D:w.cell? (Y b o)=some (I l[0]):=by simpa using a 0 _ (by simp[i64s,d])
 have u:=Z1 a;clear a;have p:Hid (gE (l.take 1)=l[0]):=Z1 (by rw[List.take_one];cases l with|nil=>simp at d|cons y r=>rfl);generalize l[0]=H at*;have L:¬(n:Int)<1:=zO
 go_in
 go_wp2;go_loopw [3,4] (λv i wr=>∃(k:Nat),1<=k/\k<=n/\i=I k/\w=wr/\v=I (gE (l.take k))) (λ_ i _=>n-(intOf i).toNat)
 case atStart=>exact⟨1,OA _,h0,rfl,rfl,by rw[p.o]⟩
 case round=>
  obtain⟨k,F,N,rfl,rfl,rfl⟩:=hrel;by_cases G:k<n
  ·have g:k<l.length:=by have:=j.o;omega
   have O:w.cell? (Y b (o+k))=some (I l[k]):=u.o k _ (by simp[i64s,g]);have q:=OG g;generalize l[k]=x at*;have h:l.take k≠[]:=by intro e;have:=congrArg List.length e;rw[PG,OE]at this;omega
   have s:Hid (gE (l.take (k+1))=if gE (l.take k)<x then x else gE (l.take k)):=Z1 (by rw[q,Er h]);clear q h;generalize gE (l.take k)=m at*;by_cases t:m<x
   ·have f:Hid (gE (l.take (k+1))=x):=Z1 (by rw[s.o,OB t]);go_wp2;go_roundw
    case rel=>exact⟨k+1,zO,zO,by go_num,trivial,by rw[f.o]<;>simp<;>omega⟩
    case measure=>simp[intOf];omega
   ·have f:Hid (gE (l.take (k+1))=m):=Z1 (by rw[s.o,Oz t]);go_wp2;go_roundw
    case rel=>exact⟨k+1,zO,zO,by go_num,trivial,by rw[f.o]<;>simp<;>omega⟩
    case measure=>simp[intOf];omega
  ·obtain rfl:k=n:=zO;have z:Hid (gE (l.take k)=gE l):=Z1 (by rw[OT (by have:=j.o;omega)]);go_wp2;go_ret;exact⟨aC z.o,rfl⟩
def Es(a b:Int)(w:World)(ha:aq a)(hb:aq b):
  C 127 #[I a,I b] w λe w'=>e=.returned (I (fromF a b))/\w=w':=by
 have c:=Z1 (λW=>Bf a b W ha hb);have d:=Z1 (λW=>ke (sat (a-b)) 1 W (wB _) (by unfold aq;decide));have f:Hid (fromF a b=sat (sat (a-b)+1)):=Z1 rfl
 go_in
 go_wp2_with (first|(go_at_call 166;refine(c.o _).mono ?_;rintro e g ⟨rfl,rfl⟩)|(go_at_call 165;refine(d.o _).mono ?_;rintro e g ⟨rfl,rfl⟩))
 go_ret;exact⟨aC f.o.symm,rfl⟩
def lK:cU prog 75 5:=⟨zR,zR,zR⟩
def eO{w:World}{t:TypeId}{b c e:Value}(h:Blk w g t #[a,b,c,d,e]):(w.cell? (Y g 0)=some a/\w.cell? (Y g 1)=some b/\w.cell? (Y g 2)=some c/\w.cell? (Y g 3)=some d/\w.cell? (Y g 4)=some e)/\
  (w.frozen? (Y g 0)=false/\w.frozen? (Y g 1)=false/\w.frozen? (Y g 2)=false/\w.frozen? (Y g 3)=false/\w.frozen? (Y g 4)=false):=
 ⟨⟨h.cell 0,h.cell 1,h.cell 2,h.cell 3,h.cell 4⟩,h.frozen 0,h.frozen 1,h.frozen 2,h.frozen 3,h.frozen 4⟩
def km{w:World}{t:TypeId}{b c e:Value}(h:Blk w g t #[a,b,c,d,e])(v0 v1 v2 v3 v4:Value):
  Blk (((((w.setCell (Y g 0) v0).setCell (Y g 1) v1).setCell (Y g 2) v2).setCell (Y g 3) v3).setCell (Y g 4) v4) g t #[v0,v1,v2,v3,v4]/\aI g w (((((w.setCell (Y g 0) v0).setCell (Y g 1) v1).setCell (Y g 2) v2).setCell (Y g 3) v3).setCell (Y g 4) v4):=
 ⟨by have f:=((((h.B4 0 v0).B4 1 v1).B4 2 v2).B4 3 v3).B4 4 v4;simpa using f,((((aI.B4 g w 0 v0).trans (aI.B4 g _ 1 v1)).trans (aI.B4 g _ 2 v2)).trans (aI.B4 g _ 3 v3)).trans (aI.B4 g _ 4 v4)⟩
def Lz(n:Nat)(w:World)(hr:an w w.heap.size 2 A n (smps l))(hn:n<=100000)(hl:fo l):
  C 125 #[.slice A n c] w λe w'=>e=.returned (ofF l).val/\M w w':=by
 have i:=iB hr;have O:=Z1 (λW (hr:an W W.heap.size 2 A n (smps l))=>yO l A c n W hr hn hl);have t:=Z1 (nX hl);have P:=Z1 (hr.up (zh w (.cells #[I 0,I 0,I 0,I 0,I 0] 75)));have Q:=Blk.A8 w 75 #[I 0,I 0,I 0,I 0,I 0] rfl;have R:=Z1 Q;clear Q hr;by_cases q:n=0
 ·have u:Hid (ofF l=.zero):=Z1 (by unfold ofF;rw[OB (OU zO)]);have S:((n:Int)==0)=true:=by rw[q];rfl
  clear i q
  go_in
  go_wp2_with (first|(go_at_call 160;refine(O.o _ P.o).mono ?_;rintro e r ⟨v,rfl,d⟩;obtain⟨a,b,rfl,_,_,f⟩:=d.form;have h:=Z2 (R.o.later d.below) d;have g:=Z1 f;obtain⟨⟨x,y,z,B,D⟩,F,G,H,L,N⟩:=eO h.o.1;clear d f))
  rw[u.o];obtain⟨j,k⟩:=km h.o.1 (I 0) (I 0) (I 0) (I 0) (I 0);exact OH (au lK rfl j rfl _ rfl) rfl ⟨rfl,k.below (af (ae (Oy _ _) _) h.o.2.below) (OA _)⟩
 ·have u:Hid (ofF l=⟨(n:Int),je (dQ l),gD (dQ l),gE (dQ l),jC (dQ l)⟩):=Z1 (by unfold ofF;rw[Oz (λe=>q (by rw[i,e];rfl)),i]);have S:((n:Int)==0)=false:=zT;have s:Hid (∀a b W,an W W.heap.size 1 a n (i64s (dQ l))->(C 161 #[.slice a n b] W λe w'=>e=.returned (I (je (dQ l)))/\W=w')/\(C 162 #[.slice a n b] W λe w'=>e=.returned (I (gD (dQ l)))/\W=w')/\
    (C 163 #[.slice a n b] W λe w'=>e=.returned (I (gE (dQ l)))/\W=w')/\(C 164 #[.slice a n b] W λe w'=>e=.returned (I (jC (dQ l)))/\M W w')):=
   Z1 λa b W hr=>⟨Hz _ a b n W hr hn t.o,It _ a b n W hr hn zO,Iu _ a b n W hr hn zO,DX _ a b n W hr hn t.o⟩
  clear i q;generalize je (dQ l)=T at*;generalize gD (dQ l)=U at*;generalize gE (dQ l)=X at*;generalize jC (dQ l)=z4 at*
  go_in
  go_wp2_with (first|(go_at_call 160;refine(O.o _ P.o).mono ?_;rintro e r ⟨v,rfl,d⟩;obtain⟨a,b,rfl,_,_,f⟩:=d.form;have h:=Z2 (R.o.later d.below) d;have g:=Z1 f;obtain⟨⟨x,y,z,B,D⟩,F,G,H,L,N⟩:=eO h.o.1;clear d f)|(go_at_call 161;refine(s.o a b _ g.o).1.mono ?_;rintro e r ⟨rfl,rfl⟩)|(go_at_call 162;refine(s.o a b _ g.o).2.1.mono ?_;rintro e r ⟨rfl,rfl⟩)|(go_at_call 163;refine(s.o a b _ g.o).2.2.1.mono ?_;rintro e r ⟨rfl,rfl⟩)|(go_at_call 164;refine(s.o a b _ g.o).2.2.2.mono ?_;rintro e w2 ⟨rfl,m⟩;have p:=Z2 m (h.o.1.later m);clear m x y z B D F G H L N;obtain⟨⟨x,y,z,B,D⟩,F,G,H,L,N⟩:=eO p.o.2))
  rw[u.o];obtain⟨j,k⟩:=km p.o.2 (I n) (I T) (I U) (I X) (I z4);exact OH (au lK rfl j rfl _ rfl) rfl ⟨rfl,k.below (af (af (ae (Oy _ _) _) h.o.2.below) p.o.1) (OA _)⟩
def tJ(n:Nat)(a b:Int)(w:World)(hr:an w w.heap.size 2 A n (smps l))(hn:n<=100000)(hl:fo l)(ha:aq a)(hb:aq b):
  C 79 #[.slice A n c,I a,I b] w (J (.agg (atF l a b).arr) w):=by
 have z:=iB hr;have H:=Z1 (λW=>Es a b W ha hb);have L:=Z1 (λW (hr:an W W.heap.size 2 A n (smps l))=>Hy l A c n (fromF a b) a W hr hn);have j:Hid ((cutF l (fromF a b) a).length<=100000):=Z1 (OJ (PF _ _) zO);have u:=Z1 (λh x W (hr:an W W.heap.size 2 h (cutF l (fromF a b) a).length (smps (cutF l (fromF a b) a)))=>Lz (cutF l (fromF a b) a) h x _ W hr j.o (Bh hl _ _));have B:atF l a b=ofF (cutF l (fromF a b) a):=rfl;rw[<-B]at u;have N:=Z1 (hr.up (zh w (.cells #[I 0,I 0,I 0,I 0,I 0] 75)));have k:=Blk.A8 w 75 #[I 0,I 0,I 0,I 0,I 0] rfl;have O:=Z1 k;clear k hr B z hl j;generalize (cutF l (fromF a b) a).length=m at*;generalize cutF l (fromF a b) a=q at*;have p:(atF l a b).arr.size=5:=rfl;have r:(atF l a b).arr.all (·.oneCell')=true:=by simp[St.arr,Value.oneCell']
 have d:(atF l a b).val=.agg (atF l a b).arr:=rfl;rw[d]at u;generalize (atF l a b).arr=cs at*;have f:=Z2 p r;clear p r d
 go_in
 go_wp2_with (first|(go_at_call 127;refine(H.o _).mono ?_;rintro e P ⟨rfl,rfl⟩)|(go_at_call 126;refine(L.o _ N.o).mono ?_;rintro e P ⟨v,rfl,i⟩;obtain⟨h,x,rfl,_,_,s⟩:=i.form;have y:=Z2 (O.o.later i.below) i;have D:=Z1 s;obtain⟨⟨Q,R,S,T,U⟩,X,f1,f2,f3,f4⟩:=eO y.o.1;clear i s)|(go_at_call 125;refine(u.o h x _ D.o).mono ?_;rintro e w2 ⟨rfl,g⟩;have t:=Z2 g (y.o.1.later g);clear g)|(refine zj lK (cs:=cs) (hn:=f.o.1) (h1:=f.o.2) t.o.2 ?_;intro w3 F G))
 exact OH (au lK rfl F f.o.1 _ rfl) rfl ⟨rfl,G.below (af (af (ae (Oy _ _) _) y.o.2.below) t.o.1) (OA _)⟩
def qd{t:TypeId}{q:IntKind}{n:Int}(d:Nat)(hu:P.underlying t=some (.int q))(h:(Lit.int q n).wf=true):P.keyLits (d+1) t [.int q n]=some [.int q n]:=by
 simp[Program.keyLits,hu,h]
def EH{t:TypeId}{fs:Array Field}{f g:Field}{u v:Value}{lu lv:List Lit}(d:Nat)(hu:P.underlying t=some (.struct fs))(hf:fs.toList=[f,g])(hl:P.cellsOf t=2)(hn:fs.all (·.name != "_")=true)
  (o1:f.offset=0)(o2:g.offset=1)(c1:P.cellsOf f.type=1)(c2:P.cellsOf g.type=1)(h1:P.keyLits d f.type [u]=some lu)(h2:P.keyLits d g.type [v]=some lv):P.keyLits (d+1) t [u,v]=some (lu++lv):=by
 simp only[Program.keyLits,hu];rw[OB ⟨by rw[hl];rfl,hn⟩,hf];simp[o1,o2,c1,c2,h1,h2]
def EI{n:Int}(h:cK n):(Lit.int .u64 n).wf=true:=by
 unfold cK at h;simp[Lit.wf,IntKind.min,IntKind.max,IntKind.signed,IntKind.bits];omega
def tN{n:Int}(h:aq n):(Lit.int .i64 n).wf=true:=by
 unfold aq at h;simp[Lit.wf,IntKind.min,IntKind.max,IntKind.signed,IntKind.bits];omega
def lO(k:K2):Lit:=.string (keyBytes [.int .u64 k.hi,.int .u64 k.lo])
def encS(s:ByteArray):Lit:=.string s.data.toList
def encI(n:Int):Lit:=.int .i64 n
def Cx(x:Int×Int):Lit:=.string (keyBytes [.int .i64 x.1,.int .i64 x.2])
def wX:laidOutB prog=true:=zR
def qf:Maps.Keyed prog 58:=Maps.Keyed.of_law (deep_law_laid wX (m:=2) zO (by have h:decide (58<prog.types.size)=true:=zR;exact QL h) zR (by rw[underlying58]))
def Br:Maps.Keyed prog 247:=Maps.Keyed.of_law (deep_law_laid wX (m:=2) zO (by have h:decide (247<prog.types.size)=true:=zR;exact QL h) zR (by rw[underlying247]))
def nI(k:K2)(h:k.ok):keyOf prog 58 k.val=some (lO k):=by
 unfold keyOf;rw[underlying58];have a:prog.keyType 58=true:=by kernel_rfl
 have b:k.val.formed prog 58=true:=by
  unfold K2.val K2.arr Value.formed;rw[underlying58];have:prog.cellsOf 58=2:=by kernel_rfl
  simp[this]
 simp only[a,b,Bool.and_self,if_true];have c:prog.keyLits (prog.types.size+1) 58 k.val.cells.toList=some [.int .u64 k.hi,.int .u64 k.lo]:=by
  have d:∃m,prog.types.size=m+1:=⟨prog.types.size-1,by kernel_rfl⟩;obtain⟨m,e⟩:=d;rw[e];exact EH (m+1) underlying58 rfl (by kernel_rfl) (by kernel_rfl) rfl rfl (by kernel_rfl) (by kernel_rfl) (qd m (by kernel_rfl) (EI h.hi)) (qd m (by kernel_rfl) (EI h.lo))
 rw[c];rfl
def rC(x:Int×Int)(h:aq x.1/\aq x.2):keyOf prog 247 (.agg #[.int .i64 x.1,.int .i64 x.2])=some (Cx x):=by
 unfold keyOf;rw[underlying247];have a:prog.keyType 247=true:=by kernel_rfl
 have b:(Value.agg #[.int .i64 x.1,.int .i64 x.2]).formed prog 247=true:=by
  unfold Value.formed;rw[underlying247];have:prog.cellsOf 247=2:=by kernel_rfl
  simp[this]
 simp only[a,b,Bool.and_self,if_true];have c:prog.keyLits (prog.types.size+1) 247 (Value.agg #[.int .i64 x.1,.int .i64 x.2]).cells.toList=some [.int .i64 x.1,.int .i64 x.2]:=by
  have d:∃m,prog.types.size=m+1:=⟨prog.types.size-1,by kernel_rfl⟩;obtain⟨m,e⟩:=d;rw[e];exact EH (m+1) underlying247 rfl (by kernel_rfl) (by kernel_rfl) rfl rfl (by kernel_rfl) (by kernel_rfl) (qd m (by kernel_rfl) (tN h.1)) (qd m (by kernel_rfl) (tN h.2))
 rw[c];rfl
def jO:gp prog 58 lO K2.val K2.ok:=⟨qf,nI,λx y g h e=>by
 have i:=nI x g;have f:=nI y h;rw[<-e]at f;have:=qf.inj i f;obtain⟨a,b⟩:=x;obtain⟨c,d⟩:=y;simp[K2.val,K2.arr]at this;simp[this]⟩
def KZ:gp prog 247 Cx (λx:Int×Int=>.agg #[I x.1,I x.2]) (λx=>aq x.1/\aq x.2):=⟨Br,rC,λx y g h e=>by
 have i:=rC x g;have f:=rC y h;rw[<-e]at f;have:=Br.inj i f;obtain⟨a,b⟩:=x;obtain⟨c,d⟩:=y;simp at this;simp[this]⟩
def lE:gp prog 9 encS Value.string (λs=>s.size<=maxLen):=⟨Maps.string_keyed underlying9,λx a=>Go.WideMaps.keyOf_string_mk underlying9 a,λx y _ _ e=>by
 unfold encS at e;injection e with e;obtain⟨x⟩:=x;obtain⟨y⟩:=y;congr 1;exact Su.1 e⟩
def IJ:gp prog 3 encI (Value.int .i64) aq:=⟨Maps.int_keyed underlying3,λx a=>Maps.keyOf_int_mk underlying3 (tN a),λx y _ _ e=>by
 unfold encI at e;injection e⟩
def Om(x:ByteArray)(hx:x.size<=maxLen)(h:keyOf prog 9 v=some (encS x)):v=.string x:=lE.keyed.inj h (lE.key x hx)
structure Tr where
 nth:Int
 last:Int
 hi:Int
 lo:Int
def Tr.zero:Tr:=⟨0,0,0,0⟩
def Tr.is(t:Tr)(x:Ev):Bool:=
 if x.kind=1 then t.last==0||t.last==3 else if x.kind=2 then t.last==1 else if x.kind=3 then t.last==2 else if x.kind=4 then t.last==0||t.last==7
 else if x.kind=5 then t.last==4 else if x.kind=6 then t.last==5 else if x.kind=7 then t.last==5||t.last==6 else false
def Tr.next(t:Tr)(x:Ev):Tr:=⟨if x.kind=1/\t.last=3 then t.nth+1 else t.nth,x.kind,if x.kind=4 then x.hi else t.hi,if x.kind=4 then x.lo else t.lo⟩
def Tr.ok(t:Tr)(x:Ev):Bool:=t.is x&&(x.nth==(t.next x).nth&&(x.hi==(t.next x).hi&&x.lo==(t.next x).lo))
def Tr.arr(t:Tr):Array Value:=#[I t.nth,I t.last,E t.hi,E t.lo]
def Tr.D5(t:Tr)(x:Ev):Array Value:=#[I (t.next x).nth,I t.last,E (t.next x).hi,E (t.next x).lo]
section
open Go.Shelf
set_option maxRecDepth 100000
def Dg(n:Int):n=1\/n=2\/n=3\/n=4\/n=5\/n=6\/n=7\/(n≠1/\n≠2/\n≠3/\n≠4/\n≠5/\n≠6/\n≠7):=zO
end
section
variable {tr:Int->Tr}
def cT(tr:Int->Tr)(x:Ev):Int->Tr:=λt=>if t=x.task then(tr x.task).next x else tr t
def kU(tr:Int->Tr)(x:Ev):Bool:=(decide (0<=x.task)&&decide (x.task<32))&&(tr x.task).ok x
def fy:(Int->Tr)->List Ev->Bool
 |_,[]=>true
 |tr,x::r=>kU tr x&&fy (cT tr x) r
def ix(l:List Ev):Bool:=fy (λ_=>Tr.zero) l
def AF{l:List Ev}{k:Nat}(hk:k<l.length):fy tr (l.drop k)=(kU tr l[k]&&fy (cT tr l[k]) (l.drop (k+1))):=by
 rw[Pu hk,fy]
def JK{k:Nat}(h:∀q,0<=(tr q).nth/\(tr q).nth<=k)(x:Ev)(q:Int):0<=(cT tr x q).nth/\(cT tr x q).nth<=((k+1:Nat):Int):=by
 unfold cT;split
 ·have:=h x.task;unfold Tr.next;simp only;split<;>omega
 ·have:=h q;omega
def lR(t:Tr):DataW Unit:=.agg [.lit (.int .i64 t.nth),.lit (.int .i64 t.last),.lit (.int .u64 t.hi),.lit (.int .u64 t.lo)]
def Rtr(v:Value):Option (DataW Unit×List MemPlace):=
 match v with
 | .agg cs=>match cs.toList with
  |[.int .i64 a,.int .i64 b,.int .u64 c,.int .u64 d]=>some (lR ⟨a,b,c,d⟩,[])
  |_=>none
 |_=>none
def BB(t:Tr):Rtr (.agg t.arr)=some (lR t,[]):=rfl
def Mo{v:Value}{t:Tr}{ps:List MemPlace}(h:Rtr v=some (lR t,ps)):v=.agg t.arr:=by
 unfold Rtr at h;split at h
 ·rename_i f;split at h
  ·rename_i a b c d e;simp[lR]at h;obtain⟨⟨rfl,rfl,rfl,rfl⟩,rfl⟩:=h;congr 1;exact Su.1 e
  ·cases h
 ·cases h
structure Trk(P:Program)(K:TypeId)(w:World)(b n:Nat)(tr:Int->Tr)(D:DataW Unit):Prop where
 own:w.ownsMap P K Rtr b n D
 at_:∀q:Int,D.atKey (.int .i64 q) (lR Tr.zero)=lR (tr q)
def xI{K:TypeId}{R:Value->Option (DataW Unit×List MemPlace)}{w:World}{b n:Nat}(h:w.ownsMap P K R b n D):Maps.IsMap D:=by
 obtain⟨c,a,_,_,_,rfl⟩:=h;exact⟨_,rfl⟩
def Trk.put{K:TypeId}{w w':World}{b n m:Nat}(h:Trk P K w b n tr D)(x:Ev)(h':w'.ownsMap P K Rtr b m (D.put (.int .i64 x.task) (lR ((tr x.task).next x)))):Trk P K w' b m (cT tr x) (D.put (.int .i64 x.task) (lR ((tr x.task).next x))):=by
 refine⟨h',λq=>?_⟩;unfold cT;by_cases a:q=x.task
 ·subst a;rw[OB rfl,Maps.atKey_put_same (xI h.own) (by trivial)]
 ·rw[Oz a,Maps.atKey_put_other (by intro e;injection e with _ e;exact a e)];exact h.at_ q
section
open Go.Shelf
def kV:cU prog 151 4:=⟨zR,zR,zR⟩
end
end
def fR(w:World)(vo vl:Value)(xs:List Int):Prop:=
 ∃A c,vl=.slice A xs.length c/\xs.length<=c/\c<=maxLen/\an w w.heap.size 1 A xs.length (i64s xs)/\∀ad,A=some ad->0<xs.length->vo.ownBlock≠some ad.block
def fR.F8(w:World)(vo:Value):fR w vo (.slice none 0 0) []:=⟨none,0,rfl,OA _,by simp[maxLen],an.none_,λa e=>by cases e⟩
def yD{w w':World}{e:TypeId}{vo vl:Value}{xs:List Int}{n:Nat}(hn:n=xs.length)(h:aL 1 w w' e vl n (i64s xs))(ho:∀k,vo.ownBlock=some k->k<w.heap.size):fR w' vo vl xs:=by
 subst hn;obtain⟨A,c,rfl,a,b⟩:=ak h.own;refine⟨A,c,rfl,a,b,an.C4 h.own,λd e g f=>?_⟩;subst e;have:=(h.own.lt d.block rfl).1;have:=ho _ f;omega
def fR.other{w w':World}{vo vo' vl:Value}{xs:List Int}(h:fR w vo vl xs)(hg:w.grownBy w' vo.ownBlock)(hv:vo'.ownBlock=vo.ownBlock\/∀k,vo'.ownBlock=some k->w.heap.size<=k):fR w' vo' vl xs:=by
 obtain⟨A,c,rfl,j,l,g,i⟩:=h;have hK:=dl (w1:=w) (ag.refl (λ_=>False) w) hg (λ_ h=>h.elim) λk e=>e;refine⟨A,c,rfl,j,l,(hK.reads g (OA _) λf e a b=>i f e a b).more hg.size,λf e a b=>?_⟩
 rcases hv with hv|hv
 ·exact i f e a (hv.symm.trans b)
 ·have o:=hv _ b;obtain⟨m,d,n,_⟩:=g.2 a;rw[e]at d;injection d with d;subst d;omega
section
variable {P:Program} {w:World} {t e:TypeId} {z:Value} {bytes:Nat}
def ug(hT:cE P t e z 1 bytes)(ty:TypeId){c k:Nat}(hr:an w w.heap.size 1 (some ad) xs.length (i64s xs))(hc:xs.length<=c)(hk:k<xs.length)
  (hne:vo.ownBlock≠some ad.block)(ho:∀g,vo.ownBlock=some g->g<w.heap.size)(hlen:xs.length*bytes<=140737488355328)(hle:xs.length<=maxLen)(A2:Option Addr)(hA2:A2=if c=k+1 then some ad else some (ad.add (k+1)))(c2:Nat):
  ∃v' w',(Builtin.append_ #[t,t] ty #[.slice (some ad) k k,.slice A2 (xs.length-(k+1)) c2]).run P w=.ok v' w'/\M w w'/\fR w' vo v' (xs.take k++xs.drop (k+1)):=by
 obtain⟨i,s,L,v,y⟩:=info_parts hT.info;have A:(xs.take k++xs.drop (k+1)).length=k+(xs.length-(k+1)):=zT;have l:∀j u,(i64s xs)[j]?=some u->w.cell? (ad.add j)=some u:=by
  obtain⟨a,b,_,h⟩:=hr.2 zO;injection b with b;subst b;exact h
 have B:ad.block<w.heap.size:=by
  obtain⟨a,b,h,_⟩:=hr.2 zO;injection b with b;subst b;exact h
 have hcut:=hr.cut (k:=k+1) (cap:=c) hk hc;rw[Nat.mul_one]at hcut;have N:(i64s xs).drop (k+1)=i64s (xs.drop (k+1)):=by simp[i64s]
 have o:(i64s xs).take k=i64s (xs.take k):=by simp[i64s]
 rw[N]at hcut;by_cases O:xs.length-(k+1)=0
 ·refine⟨.slice (some ad) k k,w,?_,Oy _ _,?_⟩
  ·rw[O]
   cases A2<;>simp[Builtin.append_,run_underlying hT.under,sizeOf,typeInfo,s,Builtin.lenOf,Builtin.firstCells,loadCells,loadCellsFrom,storeCells]
  ·have b:xs.take k++xs.drop (k+1)=xs.take k:=by rw[Pt zO,PC]
   rw[b];have D:(xs.take k).length=k:=zT;refine⟨some ad,k,by rw[D],zO,zO,?_,λS p _=>by injection p with p;subst p;exact hne⟩;rw[D];refine⟨by simp[i64s];omega,λT=>⟨ad,rfl,B,λj u d=>?_⟩⟩;rw[<-o]at d;rw[QX]at d;split at d
   ·exact l j u d
   ·cases d
 ·have F:∃f,A2=some f:=by rw[hA2];split<;>exact⟨_,rfl⟩
  obtain⟨f,rfl⟩:=F;have G:(if c=k+1 then some ad else Option.map (λx=>x.add (k+1)) (some ad))=some f:=by rw[hA2];rfl
  rw[G]at hcut;have q:∀j u,(i64s (xs.drop (k+1)))[j]?=some u->w.cell? (f.add j)=some u:=by
   obtain⟨a,b,_,h⟩:=hcut.2 zO;injection b with b;subst b;exact h
  obtain⟨v',w',r,m,n⟩:=run_append_arg_grows (P:=P) w t ty e i z 1 bytes hT.under s L v y hT.cells zP ad k k (i64s (xs.take k)) (by simp[i64s];omega)
   (λj u d=>by
    rw[<-o,QX]at d;split at d
    ·exact l j u d
    ·cases d) f (xs.length-(k+1)) c2 (i64s (xs.drop (k+1))) (by simp[i64s]) q zO zO (OJ (Pr _ zO) hlen)
  have H:M w w':=⟨n.os,n.tape,n.output,n.size,λj Q=>n.block j Q zS⟩;refine⟨v',w',r,H,?_⟩;have R:i64s (xs.take k)++i64s (xs.drop (k+1))=i64s (xs.take k++xs.drop (k+1)):=by simp[i64s]
  rw[R]at m;exact yD A.symm ⟨m,H⟩ ho
def qF{ops:Array Oper}{rest:List Oper}{o:Oper}{a:Act}{Q:Exit->Act->World->Prop}(hT:cE P t e z 1 bytes)(hgd:o.guard=none)(sl x:Operand)
  (hop:o.op=.call {callee:=.builtin .append,args:=#[sl,x],argTypes:=#[t,t]}){c k m:Nat}{A2:Option Addr}{c2:Nat}(hs:a.eval sl=.slice (some ad) k k)(hx:a.eval x=.slice A2 m c2)(hm:m=xs.length-(k+1))(hr:an w w.heap.size 1 (some ad) xs.length (i64s xs))(hc:xs.length<=c)(hk:k<xs.length)
  (hne:vo.ownBlock≠some ad.block)(ho:∀g,vo.ownBlock=some g->g<w.heap.size)(hlen:xs.length*bytes<=140737488355328)(hle:xs.length<=maxLen)(hA2:A2=if c=k+1 then some ad else some (ad.add (k+1)))
  (h:∀v' w',M w w'->fR w' vo v' (xs.take k++xs.drop (k+1))->wpList P ops Q rest (a.put o.dst v') w'):wpList P ops Q (o::rest) a w:=by
 subst hm;refine wpList_plain hgd λK d=>?_;obtain⟨v',w',b,f,i⟩:=ug (P:=P) hT o.type hr hc hk hne ho hlen hle A2 hA2 c2;unfold Oper.wp;simp[execOp,hop,resolve,invoke,builtin,hs,hx,b,Result.andThen];exact d _ _ (h v' w' f i)
end
def WSt(w wr:World)(n:Nat)(raw:List Int)(vo vl:Value)(j:Nat):Prop:=aL 1 w wr 3 vo j (i64s (cD n raw j).1)/\fR wr vo vl (cD n raw j).2
def Oo(w wr:World)(vo vl:Value)(j:Nat)(out left:List Int):Prop:=aL 1 w wr 3 vo j (i64s out)/\fR wr vo vl left
def Oq(n long:Int)(raw:List Int)(A:Option Addr)(c:Nat)(w:World)(hl:long<=100000)(hn:n<1\/32<n):
  C 91 #[I n,I long,.slice A raw.length c] w λe w'=>e=.returned (.slice none 0 0)/\w=w':=by
 have f:¬1048576<long:=zO;have a:n<1\/(¬n<1/\32<n):=zO;clear hn
 rcases a with hn|⟨hn,b⟩
 all_goals
  go_in
  go_wp2;go_loop [7,14] (λo i=>o=.slice none 0 0/\i=I 0) (λ_ i=>1)
  case atStart=>exact⟨rfl,rfl⟩
  case round=>
   obtain⟨rfl,rfl⟩:=hrel;by_cases d:0<long
   ·go_wp2;go_ret;exact⟨rfl,rfl⟩
   ·go_wp2;go_ret;exact⟨rfl,rfl⟩
def GO(A:Option Addr)(c:Nat)(w:World)(hr:an w w.heap.size 1 A raw.length (i64s raw))(hin:∀x∈raw,aq x)(hn1:1<=n)(hn2:n<=32)(hl:long<=100000)(hrl:raw.length<=100000):
  C 91 #[I (n:Int),I long,.slice A raw.length c] w λe w'=>∃v,e=.returned v/\aL 1 w w' 3 v long.toNat (i64s (cD n raw long.toNat).1):=by
 have a0:=Z1 hin;have HR:=Z1 hr;have h0:¬1048576<long:=zO;have n1:¬(n:Int)<1:=zO;have n2:¬32<(n:Int):=zO;clear hin hr
 go_in
 generalize a1:raw.length=N at*;have HN:=Z1 a1;clear a1;go_wp2;go_loopw [7,8,14] (λvo vl i wr=>∃j:Nat,j<=long.toNat/\i=I j/\WSt w wr n raw vo vl j) (λ_ _ i _=>long.toNat-(intOf i).toNat)
 case atStart=>exact⟨0,OK _,rfl,⟨Pn _ _ _ _,Oy _ _⟩,fR.F8 _ _⟩
 case round=>
  obtain⟨j,hj,rfl,hm,hL⟩:=hrel;by_cases cm:(j:Int)<long
  ·have ae:=tu n hn1 raw j;have l:=na hn1 raw j (cD n raw j).2;have P:=GM hn1 raw j (cD n raw j).2;have a2:=vN ae;have ag:=pU hn1 (cD n raw j).2;have ah:=nC n hn1 raw j;have ai:=(oV ah).2;obtain⟨a,T⟩:∃a,a=placeN n raw j (cD n raw j).2:=⟨_,rfl⟩;rw[<-T]at l P;have HW:=Z3 trivial P ai;clear P ah ai;obtain⟨b,z⟩:∃b,b=(cD n raw j).2:=⟨_,rfl⟩;obtain⟨s,Q⟩:∃s,s=(cD n raw j).1:=⟨_,rfl⟩;rw[<-z]at hL l a2 ag ae;rw[<-Q]at hm;have U:=Z2 z Q;have HM:=Z1 hm;obtain⟨Ao,co,rfl,_,_⟩:=ak hm.own;clear z Q hm;obtain⟨Al,cl,rfl,r,B,p,h⟩:=hL;have HL:Hid (fR wr (.slice Ao j co) (.slice Al b.length cl) b):=Z1 ⟨Al,cl,rfl,r,B,p,h⟩;have cn:j<=100000:=zO;have br:aq (n:Int):=by unfold aq;omega
   clear p h r B;obtain⟨f,m⟩:∃f,f=gj n b:=⟨_,rfl⟩;rw[<-m]at l a2 ag;have D:=Z1 m;have X:Hid ((cD n raw (j+1)).1=s++[f.getD a 0]/\(cD n raw (j+1)).2=f.take a++f.drop (a+1)):=Z1 ⟨by rw[m,U.o.1,U.o.2,T];rfl,by rw[m,U.o.1,T];rfl⟩;clear m T;generalize a3:b.length=ll at*;have al:=Z1 a3;clear a3
   go_upto_if 25 with fail
   go_cut [8] (λv wx=>Oo w wx (.slice Ao j co) v j s f)
   case first=>
    by_cases hz:ll=0
    ·subst hz;go_wp2_with fail;refine zX (GN (n:Int) (n:Int) _ br zO) λv w' bt=>?_;go_wp2;go_meet;have F:=OU al.o;have G:f=gy (n:Int) n:=by rw[D.o,F];rfl
     have R:aL 1 wr w' 3 v n (i64s (gy (n:Int) n)):=by simpa using bt
     exact⟨⟨aN HM.o.own R.below,af HM.o.below R.below⟩,by rw[G];exact yD (lH _ _).symm R λk hk=>(HM.o.own.lt k hk).2⟩
    ·have cp:((ll:Int)==0)=false:=by rw[beq_eq_false_iff_ne];omega
     go_wp2;go_meet;have h:b≠[]:=λe=>hz (by rw[<-al.o,e];rfl);have G:f=b:=by rw[D.o];unfold gj;rw[Oz h]
     exact⟨HM.o,by rw[G];exact HL.o⟩
   case rest=>
    obtain⟨t,bu⟩:=hcut;clear HM HL al;obtain⟨cq,H,rfl,r,B,p,h⟩:=bu;have a4:=t.below;have y:=Z3 p h t;clear p h t
    go_upto_if 31 with fail
    go_cut [10] (λv wy=>v=I (iQ raw j)/\wy=wc)
    case first=>
     by_cases hz:N=0
     ·subst hz;have F:=OU HN.o;have G:iQ raw j=0:=by unfold iQ;rw[OB F]
      have HE:=Z1 G;clear G F;go_wp2;go_meet;exact⟨by rw[HE.o],rfl⟩
     ·have ao:0<N:=zO;have bv:j%N<N:=Rj _ ao;have a5:j%N<raw.length:=by have:=HN.o;omega
      obtain⟨ad,u,rfl,_,L,hc⟩:=(HR.o.up a4).at_ bv;obtain rfl:=ma L a5;have G:iQ raw j=raw[j%N]:=by
       have h2:=HN.o;subst h2;unfold iQ;rw[Oz (λe=>by rw[e]at ao;simp at ao),OP,OL a5];rfl
      have HE:=Z1 G;have bj:(j:Int)%(N:Int)=((j%N:Nat):Int):=zO;have b5:(j:Int).tmod (N:Int)=((j%N:Nat):Int):=by rw[Ra zO];exact bj
      have cr:=hz;have cb:0<(N:Int):=zO;have cc:((j%N:Nat):Int)<(N:Int):=zO;clear G L;generalize raw[j%N]=x at*;generalize j%N=jm at*;go_wp2;go_meet;exact⟨by rw[HE.o],rfl⟩
    case rest=>
     obtain⟨rfl,rfl⟩:=hcut;have bk:aq (iQ raw j):=by
      unfold iQ;split
      ·unfold aq;omega
      ·rename_i S;have a6:j%raw.length<raw.length:=Rj _ (Sa.2 S);rw[OP,OL a6];exact a0.o _ (OR a6)
     have bw:aq (f.length:Int):=by unfold aq;omega
     have O:ed (iQ raw j) (f.length:Int)=(a:Int):=by rw[HW.o.2.1,D.o,U.o.1]
     have a7:=Z1 O;clear O;obtain⟨p,h,t⟩:=y.o;obtain⟨ad,u,rfl,b6,L,hc⟩:=p.at_ l;obtain rfl:=ma L l;have HX:Hid (f[a]=f.getD a 0):=Z1 (by rw[OP,OL l];rfl);have S:=h ad rfl zO;have ap:=t.own;clear p h L t;generalize f[a]=x at*;generalize aa:f.length=fn at*;have q:=Z1 aa;clear aa;generalize iQ raw j=d at*;go_wp2_with fail;refine zY (pS d (fn:Int) _ bk bw) ?_;rw[a7.o];have cd:(a:Int)<(fn:Int):=zO
     go_wp2_with (at_builtin;go_must (refine d9 (w:=wc) (n:=j) (xs:=i64s s) rV zP rfl _ _ rfl rfl ap a4.size rfl rfl rfl zV zO zU ?_);intro v2 w2 ar au a8)
     have b0:=fR.other (w:=wc) (vo:=.slice Ao j co) (vl:=.slice (some ad) f.length H) ⟨some ad,H,rfl,by rw[q.o];exact r,B,by rw[q.o];exact y.o.1,λb1 e' hp=>y.o.2.1 b1 e' (by rw[<-q.o];exact hp)⟩ au a8;have a9:=y.o.2.2.app au ar;obtain⟨A5,c5,e5,_,_,ba,av⟩:=b0;injection e5 with e5 _ e7;subst e5 e7;have H5:=Z4 ba av a9 ar;clear ba av a9 ar au a8 S ap;have hw:IntKind.i64.wrap ((a:Int)+1)=(a:Int)+1:=IntWalk.i64_in _ ⟨zO,zO⟩;have cs:0<=(a:Int)+1:=zO;have ct:((a:Int)+1).toNat=a+1:=zO;have cu:(a:Int)<=(H:Int):=zO;have cv:(a:Int)+1<=(fn:Int):=zO;have cw:(fn:Int)<=(H:Int):=zO;refine zb 8 ?_;repeat still_step
     refine wpStill_nil ?_;have ch:f.length<=32:=by rw[q.o];omega
     refine qF (w:=w2.drew) (ad:=ad) (c:=H) (k:=a) (xs:=f) (vo:=v2) rV rfl (.tmp 53) (.tmp 57) rfl rfl rfl (by rw[q.o]) H5.o.1 (by rw[q.o];exact r) (by rw[q.o];exact l)
      (H5.o.2.1 ad rfl (by rw[q.o];exact ag)) (λg hg=>(H5.o.2.2.1.own.lt g hg).2) zO (by simp[maxLen];omega) ?hA2 ?_
     case hA2=>
      clear HW X HR a0 y a7 HX H5;simp[Addr.add]
     intro v5 w5 aw bb;have bc:aL 1 w w5 3 v2 (j+1) (i64s (cD n raw (j+1)).1):=by
      have h6:=H5.o.2.2.1;rw[X.o.1,<-HX.o];have h7:aL 1 w w2 3 v2 (j+1) (i64s (s++[x])):=by simpa[i64s]using h6
      exact⟨aN h7.own (af (Oy _ _).drew aw),af h7.below (af (Oy _ _).drew aw)⟩
     have bd:fR w5 v2 v5 (cD n raw (j+1)).2:=by rw[X.o.2];exact bb
     have ax:=Z2 bc bd;clear bc bd bb aw H5 y HW X;go_wp2;go_roundw
     case rel=>exact⟨j+1,zO,by go_num,ax.o.1,ax.o.2⟩
     case measure=>simp[intOf];omega
  ·have b4:j=long.toNat:=zO;go_wp2;go_ret;exact⟨_,rfl,by rw[<-b4];exact hm⟩
end Go.Fw
