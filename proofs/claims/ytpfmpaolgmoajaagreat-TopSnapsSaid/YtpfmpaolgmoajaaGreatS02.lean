/- Lemmas of this claim. Conditions: as each says. -/
import Derived.Test.YtpfmpaolgmoajaaGreatS01
set_option linter.unusedVariables false
set_option linter.unusedSimpArgs false
set_option maxHeartbeats 4000000
set_option maxRecDepth 20000
set_option linter.defProp false
open Go.Proofs.Tryz
namespace Go.Fw
open Go.Proofs Go.RowKit
variable {i r cnt B:Nat}{a b u sl:Value}{wr w':World}{cs:Array Value}(xs:List Value)(A:Option Addr)(c n:Nat)(x:K2)(l:List Int)(t d:Int)(w:World)(q p:Nat)
def jB(x:K2):Int:=if x.hi≠0\/9223372036854775807<x.lo then 9223372036854775807 else x.lo
def DV{x:K2}(h:x.ok):aq (jB x):=by
 obtain⟨⟨a,b⟩,c,d⟩:=h;unfold jB aq;split<;>omega
structure DSt where
 q:K2
 r:Int
 x:K2
structure DSt.ok(s:DSt):Prop where
 q:s.q.ok
 r:cK s.r
 x:s.x.ok
def r1W(s:DSt):Int:=orW (wrW (s.r*2)) (s.x.hi/9223372036854775808)
def xhW(s:DSt):Int:=orW (wrW (s.x.hi*2)) (s.x.lo/9223372036854775808)
def xlW(s:DSt):Int:=wrW (s.x.lo*2)
def BV(k:Nat):Int:=wrW (2^k)
def stepW(d:Int)(i:Nat)(s:DSt):DSt:=
 if s.r/9223372036854775808=0/\r1W s<d then⟨s.q,r1W s,⟨xhW s,xlW s⟩⟩
 else if i<64 then⟨⟨orW s.q.hi (BV (63-i)),s.q.lo⟩,wrW (r1W s-d),⟨xhW s,xlW s⟩⟩
 else⟨⟨s.q.hi,orW s.q.lo (BV (127-i))⟩,wrW (r1W s-d),⟨xhW s,xlW s⟩⟩
def mI(d:Int)(s:DSt):Nat->DSt
 |0=>s
 |i+1=>stepW d i (mI d s i)
def lC(x:K2)(d:Int):DSt:=mI d ⟨⟨0,0⟩,0,x⟩ 128
def MY(s:DSt):cK (r1W s):=mc _ _
def Hs{d:Int}{s:DSt}(h:s.ok):(stepW d i s).ok:=by
 unfold stepW;split
 ·exact⟨h.q,MY s,mc _ _,jA _⟩
 ·split
  ·exact⟨⟨mc _ _,h.q.lo⟩,jA _,mc _ _,jA _⟩
  ·exact⟨⟨h.q.hi,mc _ _⟩,jA _,mc _ _,jA _⟩
def qZ{d:Int}{s:DSt}(h:s.ok):∀i,(mI d s i).ok
 |0=>h
 |i+1=>Hs (qZ h i)
def gC:(K2.mk 0 0).ok:=⟨by unfold cK;decide,by unfold cK;decide⟩
def Ba{x:K2}(h:x.ok):(DSt.mk ⟨0,0⟩ 0 x).ok:=⟨gC,gC.hi,h⟩
def nH(o:K2)(l:List Int):K2:=l.foldl (λo n=>if 0<n then(fk o ⟨0,n⟩).1 else o) o
def fm(l:List Int):K2:=nH ⟨0,0⟩ l
def mJ(s:DSt):K2:=if 0<s.r then(fk s.q ⟨0,1⟩).1 else s.q
def jC(l:List Int):Int:=if l=[]then 0 else jB (mJ (lC (fm l) (l.length:Int)))
def Bc(x1 x2 y1 y2:Int)(w:World):(binOp .eql 279 (.agg #[E x1,E x2]) (.agg #[E y1,E y2])).run prog w=.ok (.bool (x1==y1&&x2==y2)) w:=by
 have a:prog.stoodInHeld 279=false:=zR;rw[run_eql_struct,run_equalIn_agg w 9999 279 _ _ (by simp only[Program.fieldsOf,underlying279]) a];simp only[Program.fieldsOf,underlying279];simp[Op.eqFields,go_sem,underlying56];by_cases b:x1=y1<;>by_cases c:x2=y2<;>simp[b,c]
def Ht(y:K2)(w:World):
  C 201 #[x.val,y.val] w (J (I (bM x y)) w):=by
 obtain⟨a,c⟩:=x;obtain⟨b,d⟩:=y;have n:M w ((w.alloc (.cells #[E a,E c] 279)).alloc (.cells #[E b,E d] 279)):=ae (ae (Oy _ _) _) _;have j:=Z1 n;clear n;unfold K2.val K2.arr;simp only;have m:Hid (bM ⟨a,c⟩ ⟨b,d⟩=if a=b/\c=d then 0 else if a<b\/(a=b/\c<d)then -1 else 1):=Z1 (by unfold bM;simp);obtain⟨q,p,z⟩:∃q:Bool,(a==b&&c==d)=q/\∀w,(binOp .eql 279 (.agg #[E a,E c]) (.agg #[E b,E d])).run prog w=.ok (.bool q) w:=⟨_,rfl,Bc _ _ _ _⟩;have r:=Z1 p;clear p
 cases q with
 |true=>
  have f:Hid (bM ⟨a,c⟩ ⟨b,d⟩=0):=Z1 (by rw[m.o,OB (by have:=r.o;simpa using this)])
  go_in
  go_wp2;go_ret;exact⟨aC f.o.symm,j.o⟩
 |false=>
  have s:¬(a=b/\c=d):=by have:=r.o;simpa using this
  have l:Hid (bM ⟨a,c⟩ ⟨b,d⟩=if a<b\/(a=b/\c<d)then -1 else 1):=Z1 (by rw[m.o,Oz s]);clear m s;by_cases g:a<b
  ·have f:Hid (bM ⟨a,c⟩ ⟨b,d⟩= -1):=Z1 (by rw[l.o,OB (.inl g)]);have t:decide (a<b)=true:=by simpa using g
   clear g
   go_in
   go_wp2;go_ret;exact⟨aC f.o.symm,j.o⟩
  ·have t:decide (a<b)=false:=by simpa using g
   by_cases i:a=b
   ·have u:(a==b)=true:=by simpa using i
    by_cases k:c<d
    ·have v:decide (c<d)=true:=by simpa using k
     have f:Hid (bM ⟨a,c⟩ ⟨b,d⟩= -1):=Z1 (by rw[l.o,OB (.inr ⟨i,k⟩)]);clear g i k
     go_in
     go_wp2;go_ret;exact⟨aC f.o.symm,j.o⟩
    ·have v:decide (c<d)=false:=by simpa using k
     have f:Hid (bM ⟨a,c⟩ ⟨b,d⟩=1):=Z1 (by rw[l.o,Oz (by rintro(h|⟨_,h⟩)<;>contradiction)]);clear g i k
     go_in
     go_wp2;go_ret;exact⟨aC f.o.symm,j.o⟩
   ·have u:(a==b)=false:=by simpa using i
    have f:Hid (bM ⟨a,c⟩ ⟨b,d⟩=1):=Z1 (by rw[l.o,Oz (by rintro(h|⟨h,_⟩)<;>contradiction)]);clear g i
    go_in
    go_wp2;go_ret;exact⟨aC f.o.symm,j.o⟩
def BW(hx:x.ok):
  C 198 #[x.val] w (J (I (jB x)) w):=by
 obtain⟨⟨k,l⟩,m,n⟩:=hx;obtain⟨b,a⟩:=x;simp only at k l m n;have j:M w (w.alloc (.cells #[E b,E a] 279)):=ae (Oy _ _) _;have g:=Z1 j;clear j;have c:Hid (jB ⟨b,a⟩=if b≠0\/9223372036854775807<a then 9223372036854775807 else a):=Z1 rfl;unfold K2.val K2.arr;simp only;by_cases d:b=0
 ·have p:(b !=0)=false:=by simp[d]
  by_cases i:9223372036854775807<a
  ·have f:Hid (jB ⟨b,a⟩=9223372036854775807):=Z1 (by rw[c.o,OB (.inr i)]);have q:decide (9223372036854775807<a)=true:=by simpa using i
   clear d c
   go_in
   go_wp2;go_ret;exact⟨aC f.o.symm,g.o⟩
  ·have f:Hid (jB ⟨b,a⟩=a):=Z1 (by rw[c.o,Oz (by rintro(h|h)<;>contradiction)]);have q:decide (9223372036854775807<a)=false:=by simpa using i
   have r:a<=9223372036854775807:=zO;clear d c
   go_in
   go_wp2;go_ret;exact⟨aC f.o.symm,g.o⟩
 ·have p:(b !=0)=true:=by simpa using d
  have f:Hid (jB ⟨b,a⟩=9223372036854775807):=Z1 (by rw[c.o,OB (.inl d)]);clear d c
  go_in
  go_wp2;go_ret;exact⟨aC f.o.symm,g.o⟩
def ao{w:World}{g:Nat}{t:TypeId}(h:Blk w g t #[a,b]):w.cell? (Y g 0)=some a/\w.cell? (Y g 1)=some b:=⟨h.cell 0,h.cell 1⟩
structure fJ(w wr:World)(a b c d:Value):Prop where
 below:M w wr
 x:Blk wr w.heap.size 279 #[a,b]
 z:Blk wr (w.heap.size+1) 279 #[E 0,E 0]
 q:Blk wr (w.heap.size+2) 279 #[c,d]
def fJ.Q9{w:World}{c d:Value}(h:fJ w wr a b c d)(u:Value):fJ w (wr.setCell (Y w.heap.size 0) u) u b c d:=
 ⟨h.below.setCell zS u,by simpa using h.x.B4 0 u,h.z.D1 zS u,h.q.D1 zS u⟩
def fJ.st1{w:World}{c d:Value}(h:fJ w wr a b c d)(u:Value):fJ w (wr.setCell (Y w.heap.size 1) u) a u c d:=
 ⟨h.below.setCell zS u,by simpa using h.x.B4 1 u,h.z.D1 zS u,h.q.D1 zS u⟩
def fJ.sq0{w:World}{c d:Value}(h:fJ w wr a b c d)(u:Value):fJ w (wr.setCell (Y (w.heap.size+2) 0) u) a b u d:=
 ⟨h.below.setCell zS u,h.x.D1 zS u,h.z.D1 zS u,by simpa using h.q.B4 0 u⟩
def fJ.sq1{w:World}{c d:Value}(h:fJ w wr a b c d)(u:Value):fJ w (wr.setCell (Y (w.heap.size+2) 1) u) a b c u:=
 ⟨h.below.setCell zS u,h.x.D1 zS u,h.z.D1 zS u,by simpa using h.q.B4 1 u⟩
def fJ.drew{w:World}{c d:Value}(h:fJ w wr a b c d):fJ w wr.drew a b c d:=⟨fd h.below 1,h.x,h.z,h.q⟩
def Hu(hx:x.ok)(hd:0<d)(hd2:cK d):
  C 195 #[x.val,E d] w (J (.tuple #[.agg #[E (lC x d).q.hi,E (lC x d).q.lo],E (lC x d).r,.bool true]) w):=by
 obtain⟨d0,u⟩:=hd2;have X:=Z1 (λi=>qZ (d:=d) (Ba hx) i);have dz:(d==0)=false:=zT;obtain⟨l,m⟩:=x;have HD:Hid (lC ⟨l,m⟩ d=mI d ⟨⟨0,0⟩,0,⟨l,m⟩⟩ 128):=Z1 rfl;have aa:Hid (∀i,mI d ⟨⟨0,0⟩,0,⟨l,m⟩⟩ (i+1)=stepW d i (mI d ⟨⟨0,0⟩,0,⟨l,m⟩⟩ i)):=Z1 (λi=>rfl);have b0:=((Blk.A8 w 279 #[E l,E m] rfl).alloc (.cells #[E 0,E 0] 279)).alloc (.cells #[E 0,E 0] 279);have b1:=(Blk.A8 (w.alloc (.cells #[E l,E m] 279)) 279 #[E 0,E 0] (g:=w.heap.size+1) zS).alloc (.cells #[E 0,E 0] 279);have b2:=Blk.A8 ((w.alloc (.cells #[E l,E m] 279)).alloc (.cells #[E 0,E 0] 279)) 279 #[E 0,E 0] (g:=w.heap.size+2) zS;have hb:M w (((w.alloc (.cells #[E l,E m] 279)).alloc (.cells #[E 0,E 0] 279)).alloc (.cells #[E 0,E 0] 279)):=ae (ae (ae (Oy _ _) _) _) _;have HB:Hid (fJ w _ _ _ _ _):=Z1 ⟨hb,b0,b1,b2⟩;clear hb b0 b1 b2 hx;unfold K2.val K2.arr;simp only
 go_in
 go_wp2;go_loopw [8,14] (λr i wr=>∃(k:Nat),k<=128/\i=I k/\∃s:DSt,r=E s.r/\Hid (s=mI d ⟨⟨0,0⟩,0,⟨l,m⟩⟩ k/\fJ w wr (E s.x.hi) (E s.x.lo) (E s.q.hi) (E s.q.lo))) (λ_ i _=>128-(intOf i).toNat)
 case atStart=>exact⟨0,zO,rfl,⟨⟨0,0⟩,0,⟨l,m⟩⟩,rfl,Z1 ⟨rfl,HB.o⟩⟩
 case round=>
  obtain⟨k,hk,rfl,s,rfl,b⟩:=hrel;have y:=X.o k;rw[<-b.o.1]at y;obtain⟨⟨⟨q0,q1⟩,q2,q3⟩,⟨r0,r1⟩,⟨⟨x0,x1⟩,x2,x3⟩⟩:=y;obtain⟨A,B⟩:=ao b.o.2.x;obtain⟨D,F⟩:=ao b.o.2.q;have e1:bits BinOp.or IntKind.u64 (IntKind.u64.wrap (s.r*2)) (s.x.hi/9223372036854775808)=r1W s:=rfl;have e2:bits BinOp.or IntKind.u64 (IntKind.u64.wrap (s.x.hi*2)) (s.x.lo/9223372036854775808)=xhW s:=rfl;have e3:IntKind.u64.wrap (s.x.lo*2)=xlW s:=rfl;have G:=b.o.2.x.frozen 0;have H:=b.o.2.x.frozen 1;have L:=b.o.2.q.frozen 0;have N:=b.o.2.q.frozen 1;have av:=b.o.2.q.lt;have p:Hid (stepW d k s=mI d ⟨⟨0,0⟩,0,⟨l,m⟩⟩ (k+1)):=Z1 (by rw[aa.o k,<-b.o.1]);by_cases aw:k<128
  ·have O:(s.r/9223372036854775808=0/\r1W s<d)\/(¬(s.r/9223372036854775808=0/\r1W s<d)/\k<64)\/(¬(s.r/9223372036854775808=0/\r1W s<d)/\¬k<64):=by
    by_cases c:s.r/9223372036854775808=0/\r1W s<d
    ·exact .inl c
    ·by_cases t:k<64
     ·exact .inr (.inl ⟨c,t⟩)
     ·exact .inr (.inr ⟨c,t⟩)
   rcases O with⟨c,t⟩|⟨c,P⟩|⟨c,P⟩
   ·have j:Hid (stepW d k s=⟨s.q,r1W s,⟨xhW s,xlW s⟩⟩):=Z1 (OB ⟨c,t⟩);have u:(s.r/9223372036854775808==0)=true:=by simpa using c
    have d2:=decide_eq_true t;clear t c;go_wp2;go_roundw
    case rel=>exact⟨k+1,zO,by go_num,stepW d k s,by rw[j.o],Z1 ⟨p.o,by rw[j.o];exact(b.o.2.Q9 _).st1 _⟩⟩
    case measure=>simp[intOf];omega
   ·have ah:(k:Int)<64:=zO;have ai:(k:Int)<=63:=zO;have w6:IntKind.i64.wrap (63-(k:Int))=63-(k:Int):=IntWalk.i64_in _ zO;have w7:0<=63-(k:Int):=zO;have j:Hid (stepW d k s=⟨⟨orW s.q.hi (BV (63-k)),s.q.lo⟩,wrW (r1W s-d),⟨xhW s,xlW s⟩⟩):=Z1 ((Oz c).trans (OB P));by_cases f:s.r/9223372036854775808=0
    ·have u:(s.r/9223372036854775808==0)=true:=by simpa using f
     have d2:=decide_eq_false (λh=>c ⟨f,h⟩);have a:=(b.o.2.Q9 (E (xhW s))).st1 (E (xlW s));clear c f;go_wp2;generalize (wr.setCell (Y w.heap.size 0) (E (xhW s))).setCell (Y w.heap.size 1) (E (xlW s))=W at*;have Q:=(ao a.q).1;have R:=(ao a.q).2;have S:=a.q.frozen 0;have T:=a.q.frozen 1;have n:=Z1 a;clear a A B D F G H L N
     go_still_tail 7,zR
     go_wp2;go_roundw
     case rel=>exact⟨k+1,zO,by go_num,stepW d k s,by rw[j.o];rfl,Z1 ⟨p.o,by rw[j.o];exact(n.o.sq0 _).drew⟩⟩
     case measure=>simp[intOf];omega
    ·have u:(s.r/9223372036854775808==0)=false:=by simpa using f
     have a:=(b.o.2.Q9 (E (xhW s))).st1 (E (xlW s));clear c f;go_wp2;generalize (wr.setCell (Y w.heap.size 0) (E (xhW s))).setCell (Y w.heap.size 1) (E (xlW s))=W at*;have Q:=(ao a.q).1;have R:=(ao a.q).2;have S:=a.q.frozen 0;have T:=a.q.frozen 1;have n:=Z1 a;clear a A B D F G H L N
     go_still_tail 7,zR
     go_wp2;go_roundw
     case rel=>exact⟨k+1,zO,by go_num,stepW d k s,by rw[j.o];rfl,Z1 ⟨p.o,by rw[j.o];exact(n.o.sq0 _).drew⟩⟩
     case measure=>simp[intOf];omega
   ·have ah:¬(k:Int)<64:=zO;have ai:(k:Int)<=127:=zO;have w6:IntKind.i64.wrap (127-(k:Int))=127-(k:Int):=IntWalk.i64_in _ zO;have w7:0<=127-(k:Int):=zO;have j:Hid (stepW d k s=⟨⟨s.q.hi,orW s.q.lo (BV (127-k))⟩,wrW (r1W s-d),⟨xhW s,xlW s⟩⟩):=Z1 ((Oz c).trans (Oz P));by_cases f:s.r/9223372036854775808=0
    ·have u:(s.r/9223372036854775808==0)=true:=by simpa using f
     have d2:=decide_eq_false (λh=>c ⟨f,h⟩);have a:=(b.o.2.Q9 (E (xhW s))).st1 (E (xlW s));clear c f;go_wp2;generalize (wr.setCell (Y w.heap.size 0) (E (xhW s))).setCell (Y w.heap.size 1) (E (xlW s))=W at*;have Q:=(ao a.q).1;have R:=(ao a.q).2;have S:=a.q.frozen 0;have T:=a.q.frozen 1;have n:=Z1 a;clear a A B D F G H L N
     go_still_tail 7,zR
     go_wp2;go_roundw
     case rel=>exact⟨k+1,zO,by go_num,stepW d k s,by rw[j.o];rfl,Z1 ⟨p.o,by rw[j.o];exact(n.o.sq1 _).drew⟩⟩
     case measure=>simp[intOf];omega
    ·have u:(s.r/9223372036854775808==0)=false:=by simpa using f
     have a:=(b.o.2.Q9 (E (xhW s))).st1 (E (xlW s));clear c f;go_wp2;generalize (wr.setCell (Y w.heap.size 0) (E (xhW s))).setCell (Y w.heap.size 1) (E (xlW s))=W at*;have Q:=(ao a.q).1;have R:=(ao a.q).2;have S:=a.q.frozen 0;have T:=a.q.frozen 1;have n:=Z1 a;clear a A B D F G H L N
     go_still_tail 7,zR
     go_wp2;go_roundw
     case rel=>exact⟨k+1,zO,by go_num,stepW d k s,by rw[j.o];rfl,Z1 ⟨p.o,by rw[j.o];exact(n.o.sq1 _).drew⟩⟩
     case measure=>simp[intOf];omega
  ·obtain rfl:k=128:=zO;have e1:=b.o.2.z.frozen 0;have e2:=b.o.2.z.frozen 1;obtain⟨c2,c3⟩:=ao b.o.2.z;have U:=b.o.2.z.B4 0 (E s.q.hi);have z2:=U.B4 1 (E s.q.lo);have z3:=U.cell 0;have z4:=z2.cell 1;simp at z3 z4;clear U z2;go_wp2;rw[HD.o,<-b.o.1];refine OH (v:=.tuple #[.agg #[E s.q.hi,E s.q.lo],E s.r,.bool true]) (by simp[results,results195,go_sem,z3,z4]) rfl ⟨rfl,?_⟩
   first|exact(b.o.2.below.setCell zS _).setCell zS _|skip
def yV:∃z,cE prog 36 58 z 2 16:=by
 have h:(prog.info? 58).map (λi=>(i.zero.isSome,i.size,i.bytes,(i.zero.map λz=>z.cells.size)))=some (true,2,16,some 2):=zR
 cases hi:prog.info? 58 with
 |none=>simp[hi]at h
 |some i=>
  cases hzz:i.zero with
  |none=>simp[hi,hzz]at h
  |some z=>
   simp[hi,hzz]at h;exact⟨z,underlying36,by simp[hi,hzz,h],h.2.2⟩
def NS(hr:an w w.heap.size 2 A n xs)(h1:∀u∈xs,u.oneCell'=true)(hn:n<=100000):
  C 157 #[.slice A n c] w λe w'=>∃v,e=.returned v/\aL 2 w w' 58 v n xs:=by
 rcases A with _|j
 ·have a:n=0:=by
   rcases PR n with a|a
   ·exact a
   ·obtain⟨j,h,_⟩:=hr.2 a
    cases h
  subst a;have m:=OU (by simpa using hr.1);rw[m];clear hr m;have D:∀w,(binOp .eql 36 (.slice none 0 c) (.slice none 0 0)).run prog w=.ok (.bool true) w:=λw=>zR
  go_in
  go_wp2;go_ret;exact⟨_,rfl,aL.F8 2 w 58⟩
 ·obtain⟨z,l⟩:=yV;have F:=Blk.A8 w 58 #[] (g:=w.heap.size) rfl;have p:=eI (B:=w.heap.size) (s:=2) (n:=0) F (OA _) zS (by simp[maxLen]);have q:=hr.alloc (OA _) (.cells #[] 58);obtain⟨i,r,t,d,f⟩:=info_parts l.info;have b:=Z4 r t d f;clear r t d f;have D:∀w,(binOp .eql 36 (.slice (some j) n c) (.slice none 0 0)).run prog w=.ok (.bool false) w:=λw=>zR
  go_in
  go_wp2_with (at_builtin;go_must (refine bP (w.alloc (.cells #[] 58)) rfl (.tmp 5) (.tmp 6) _ rfl w.heap.size 58 i z 2 16 l.under b.o.1 b.o.2.1 b.o.2.2.1 b.o.2.2.2 l.cells zP _ 0 [] rfl p w.heap.size (some j) n c xs rfl q h1 zU zO zS ?_);intro G w' x y _)
  go_ret;refine⟨G,rfl,by simpa using x,?_⟩;exact(ae (Oy _ w) (.cells #[] 58)).grown y zS λk H=>(p.lt k H).1
def wF:∃z,cE prog 48 66 z 2 16:=by
 have h:(prog.info? 66).map (λi=>(i.zero.isSome,i.size,i.bytes,(i.zero.map λz=>z.cells.size)))=some (true,2,16,some 2):=zR
 cases hi:prog.info? 66 with
 |none=>simp[hi]at h
 |some i=>
  cases hzz:i.zero with
  |none=>simp[hi,hzz]at h
  |some z=>
   simp[hi,hzz]at h;exact⟨z,underlying48,by simp[hi,hzz,h],h.2.2⟩
def kI(hr:an w w.heap.size 2 A n xs)(h1:∀u∈xs,u.oneCell'=true)(hn:n<=100000):
  C 108 #[.slice A n c] w λe w'=>∃v,e=.returned v/\aL 2 w w' 66 v n xs:=by
 rcases A with _|j
 ·have a:n=0:=by
   rcases PR n with a|a
   ·exact a
   ·obtain⟨j,h,_⟩:=hr.2 a
    cases h
  subst a;have m:=OU (by simpa using hr.1);rw[m];clear hr m;have D:∀w,(binOp .eql 48 (.slice none 0 c) (.slice none 0 0)).run prog w=.ok (.bool true) w:=λw=>zR
  go_in
  go_wp2;go_ret;exact⟨_,rfl,aL.F8 2 w 66⟩
 ·obtain⟨z,l⟩:=wF;have F:=Blk.A8 w 66 #[] (g:=w.heap.size) rfl;have p:=eI (B:=w.heap.size) (s:=2) (n:=0) F (OA _) zS (by simp[maxLen]);have q:=hr.alloc (OA _) (.cells #[] 66);obtain⟨i,r,t,d,f⟩:=info_parts l.info;have b:=Z4 r t d f;clear r t d f;have D:∀w,(binOp .eql 48 (.slice (some j) n c) (.slice none 0 0)).run prog w=.ok (.bool false) w:=λw=>zR
  go_in
  go_wp2_with (at_builtin;go_must (refine bP (w.alloc (.cells #[] 66)) rfl (.tmp 5) (.tmp 6) _ rfl w.heap.size 66 i z 2 16 l.under b.o.1 b.o.2.1 b.o.2.2.1 b.o.2.2.2 l.cells zP _ 0 [] rfl p w.heap.size (some j) n c xs rfl q h1 zU zO zS ?_);intro G w' x y _)
  go_ret;refine⟨G,rfl,by simpa using x,?_⟩;exact(ae (Oy _ w) (.cells #[] 66)).grown y zS λk H=>(p.lt k H).1
def wG:∃z,cE prog 170 224 z 3 24:=by
 have h:(prog.info? 224).map (λi=>(i.zero.isSome,i.size,i.bytes,(i.zero.map λz=>z.cells.size)))=some (true,3,24,some 3):=zR
 cases hi:prog.info? 224 with
 |none=>simp[hi]at h
 |some i=>
  cases hzz:i.zero with
  |none=>simp[hi,hzz]at h
  |some z=>
   simp[hi,hzz]at h;exact⟨z,underlying170,by simp[hi,hzz,h],h.2.2⟩
def yW(hr:an w w.heap.size 3 A n xs)(h1:∀u∈xs,u.oneCell'=true)(hn:n<=100000):
  C 329 #[.slice A n c] w λe w'=>∃v,e=.returned v/\aL 3 w w' 224 v n xs:=by
 rcases A with _|j
 ·have a:n=0:=by
   rcases PR n with a|a
   ·exact a
   ·obtain⟨j,h,_⟩:=hr.2 a
    cases h
  subst a;have m:=OU (by simpa using hr.1);rw[m];clear hr m;have D:∀w,(binOp .eql 170 (.slice none 0 c) (.slice none 0 0)).run prog w=.ok (.bool true) w:=λw=>zR
  go_in
  go_wp2;go_ret;exact⟨_,rfl,aL.F8 3 w 224⟩
 ·obtain⟨z,l⟩:=wG;have F:=Blk.A8 w 224 #[] (g:=w.heap.size) rfl;have p:=eI (B:=w.heap.size) (s:=3) (n:=0) F (OA _) zS (by simp[maxLen]);have q:=hr.alloc (OA _) (.cells #[] 224);obtain⟨i,r,t,d,f⟩:=info_parts l.info;have b:=Z4 r t d f;clear r t d f;have D:∀w,(binOp .eql 170 (.slice (some j) n c) (.slice none 0 0)).run prog w=.ok (.bool false) w:=λw=>zR
  go_in
  go_wp2_with (at_builtin;go_must (refine bP (w.alloc (.cells #[] 224)) rfl (.tmp 5) (.tmp 6) _ rfl w.heap.size 224 i z 3 24 l.under b.o.1 b.o.2.1 b.o.2.2.1 b.o.2.2.2 l.cells zP _ 0 [] rfl p w.heap.size (some j) n c xs rfl q h1 zU zO zS ?_);intro G w' x y _)
  go_ret;refine⟨G,rfl,by simpa using x,?_⟩;exact(ae (Oy _ w) (.cells #[] 224)).grown y zS λk H=>(p.lt k H).1
def wH:∃z,cE prog 134 268 z 3 24:=by
 have h:(prog.info? 268).map (λi=>(i.zero.isSome,i.size,i.bytes,(i.zero.map λz=>z.cells.size)))=some (true,3,24,some 3):=zR
 cases hi:prog.info? 268 with
 |none=>simp[hi]at h
 |some i=>
  cases hzz:i.zero with
  |none=>simp[hi,hzz]at h
  |some z=>
   simp[hi,hzz]at h;exact⟨z,underlying134,by simp[hi,hzz,h],h.2.2⟩
def yX(hr:an w w.heap.size 3 A n xs)(h1:∀u∈xs,u.oneCell'=true)(hn:n<=100000):
  C 156 #[.slice A n c] w λe w'=>∃v,e=.returned v/\aL 3 w w' 268 v n xs:=by
 rcases A with _|j
 ·have a:n=0:=by
   rcases PR n with a|a
   ·exact a
   ·obtain⟨j,h,_⟩:=hr.2 a
    cases h
  subst a;have m:=OU (by simpa using hr.1);rw[m];clear hr m;have D:∀w,(binOp .eql 134 (.slice none 0 c) (.slice none 0 0)).run prog w=.ok (.bool true) w:=λw=>zR
  go_in
  go_wp2;go_ret;exact⟨_,rfl,aL.F8 3 w 268⟩
 ·obtain⟨z,l⟩:=wH;have F:=Blk.A8 w 268 #[] (g:=w.heap.size) rfl;have p:=eI (B:=w.heap.size) (s:=3) (n:=0) F (OA _) zS (by simp[maxLen]);have q:=hr.alloc (OA _) (.cells #[] 268);obtain⟨i,r,t,d,f⟩:=info_parts l.info;have b:=Z4 r t d f;clear r t d f;have D:∀w,(binOp .eql 134 (.slice (some j) n c) (.slice none 0 0)).run prog w=.ok (.bool false) w:=λw=>zR
  go_in
  go_wp2_with (at_builtin;go_must (refine bP (w.alloc (.cells #[] 268)) rfl (.tmp 5) (.tmp 6) _ rfl w.heap.size 268 i z 3 24 l.under b.o.1 b.o.2.1 b.o.2.2.1 b.o.2.2.2 l.cells zP _ 0 [] rfl p w.heap.size (some j) n c xs rfl q h1 zU zO zS ?_);intro G w' x y _)
  go_ret;refine⟨G,rfl,by simpa using x,?_⟩;exact(ae (Oy _ w) (.cells #[] 268)).grown y zS λk H=>(p.lt k H).1
def wI:∃z,cE prog 35 79 z 34 280:=by
 have h:(prog.info? 79).map (λi=>(i.zero.isSome,i.size,i.bytes,(i.zero.map λz=>z.cells.size)))=some (true,34,280,some 34):=zR
 cases hi:prog.info? 79 with
 |none=>simp[hi]at h
 |some i=>
  cases hzz:i.zero with
  |none=>simp[hi,hzz]at h
  |some z=>
   simp[hi,hzz]at h;exact⟨z,underlying35,by simp[hi,hzz,h],h.2.2⟩
def yY(hr:an w w.heap.size 34 A n xs)(h1:∀u∈xs,u.oneCell'=true)(hn:n<=100000):
  C 73 #[.slice A n c] w λe w'=>∃v,e=.returned v/\aL 34 w w' 79 v n xs:=by
 rcases A with _|j
 ·have a:n=0:=by
   rcases PR n with a|a
   ·exact a
   ·obtain⟨j,h,_⟩:=hr.2 a
    cases h
  subst a;have m:=OU (by simpa using hr.1);rw[m];clear hr m;have D:∀w,(binOp .eql 35 (.slice none 0 c) (.slice none 0 0)).run prog w=.ok (.bool true) w:=λw=>zR
  go_in
  go_wp2;go_ret;exact⟨_,rfl,aL.F8 34 w 79⟩
 ·obtain⟨z,l⟩:=wI;have F:=Blk.A8 w 79 #[] (g:=w.heap.size) rfl;have p:=eI (B:=w.heap.size) (s:=34) (n:=0) F (OA _) zS (by simp[maxLen]);have q:=hr.alloc (OA _) (.cells #[] 79);obtain⟨i,r,t,d,f⟩:=info_parts l.info;have b:=Z4 r t d f;clear r t d f;have D:∀w,(binOp .eql 35 (.slice (some j) n c) (.slice none 0 0)).run prog w=.ok (.bool false) w:=λw=>zR
  go_in
  go_wp2_with (at_builtin;go_must (refine bP (w.alloc (.cells #[] 79)) rfl (.tmp 5) (.tmp 6) _ rfl w.heap.size 79 i z 34 280 l.under b.o.1 b.o.2.1 b.o.2.2.1 b.o.2.2.2 l.cells zP _ 0 [] rfl p w.heap.size (some j) n c xs rfl q h1 zU zO zS ?_);intro G w' x y _)
  go_ret;refine⟨G,rfl,by simpa using x,?_⟩;exact(ae (Oy _ w) (.cells #[] 79)).grown y zS λk H=>(p.lt k H).1
section
open Go.Maps
def cw{κ α:Type}(l:List (κ×α)):Prop:=(l.map (·.1)).Nodup
section
variable {κ α β:Type} [DecidableEq κ]
def ap:List (κ×α)->κ->Option α
 |[],_=>none
 |e::r,x=>if e.1=x then some e.2 else ap r x
def aR:List (κ×α)->κ->α->List (κ×α)
 |[],x,v=>[(x,v)]
 |e::r,x,v=>if e.1=x then(x,v)::r else e::aR r x v
def ft(l:List (κ×α))(x:κ):List (κ×α):=l.filter λe=>!decide (e.1=x)
def lD(l:List (κ×α))(x:κ)(v:α):ap (aR l x v) x=some v:=by
 induction l with
 |nil=>simp[aR,ap]
 |cons e r ih=>
  by_cases h:e.1=x
  ·simp[aR,ap,h]
  ·simp[aR,ap,h,ih]
def iE(l:List (κ×α)){x y:κ}(v:α)(hy:y≠x):ap (aR l x v) y=ap l y:=by
 induction l with
 |nil=>simp[aR,ap,Pc hy]
 |cons e r ih=>
  by_cases h:e.1=x
  ·have:e.1≠y:=λa=>hy (a.symm.trans h);simp[aR,ap,h,this,Pc hy]
  ·simp only[aR,Oz h,ap,ih]
def wO(l:List (κ×α))(x y:κ)(v:α):ap (aR l x v) y=if y=x then some v else ap l y:=by
 split
 ·rename_i h;rw[h,lD]
 ·rename_i h;exact iE l v h
def bR{l:List (κ×α)}{x:κ}{v:α}(h:ap l x=some v):(x,v)∈l:=by
 induction l with
 |nil=>cases h
 |cons e r ih=>
  by_cases a:e.1=x
  ·simp[ap,a]at h;rw[<-h,<-a];exact Qc
  ·simp[ap,a]at h;exact Pm _ (ih h)
def gz{l:List (κ×α)}{x:κ}:ap l x=none↔x∉l.map (·.1):=by
 induction l with
 |nil=>simp[ap]
 |cons e r ih=>
  by_cases a:e.1=x
  ·simp[ap,a]
  ·simp[ap,a,ih,Pc a]
def gY{l:List (κ×α)}{x:κ}:(ap l x).isSome=true↔x∈l.map (·.1):=by
 cases h:ap l x with
 |none=>simpa using gz.1 h
 |some v=>simpa using ⟨v,bR h⟩
def im{l:List (κ×α)}(hd:cw l){x:κ}{v:α}(h:(x,v)∈l):ap l x=some v:=by
 induction l with
 |nil=>cases h
 |cons e r ih=>
  unfold cw at hd;rw[Pi,QB]at hd
  rcases Pj.1 h with h|h
  ·subst h;simp[ap]
  ·have:e.1≠x:=λa=>hd.1 (by rw[a];exact Pq (f:=(·.1)) h);simp[ap,this,ih hd.2 h]
def uB{l l':List (κ×α)}(hd:cw l)(hp:l.Perm l')(x:κ):ap l x=ap l' x:=by
 have a:=(hp.map _).nodup_iff.1 hd
 cases h:ap l x with
 |none=>
  rw[gz]at h;exact(gz.2 λb=>h ((hp.map _).mem_iff.2 b)).symm
 |some v=>exact(im a (hp.mem_iff.1 (bR h))).symm
def wP(l:List (κ×α))(x:κ)(v:α):(aR l x v).map (·.1)=if x∈l.map (·.1)then l.map (·.1)else l.map (·.1)++[x]:=by
 induction l with
 |nil=>simp[aR]
 |cons e r ih=>
  by_cases a:e.1=x
  ·simp[aR,a]
  ·simp only[aR,Oz a,Pi,ih,Pj,Pc a,false_or];split<;>simp
def lM(l:List (κ×α))(x:κ)(v:α):(aR l x v).length=if(ap l x).isSome=true then l.length else l.length+1:=by
 have h:=congrArg List.length (wP l x v);rw[Pe]at h;rw[h];by_cases a:x∈l.map (·.1)
 ·rw[OB a,OB (gY.2 a)];simp
 ·rw[Oz a,Oz λe=>a (gY.1 e)];simp
def wQ{l:List (κ×α)}(hd:cw l)(x:κ)(v:α):cw (aR l x v):=by
 unfold cw at*;rw[wP];split
 ·exact hd
 ·rename_i h;rw[Qa];exact⟨hd,zS,λa d b c e=>by simp at c;subst c;subst e;exact h d⟩
def LA{l:List (κ×α)}{x:κ}{v:α}{e:κ×α}(h:e∈aR l x v):e=(x,v)\/(e∈l/\e.1≠x)\/(e∈l):=by
 induction l with
 |nil=>simp[aR]at h;exact .inl h
 |cons a r ih=>
  by_cases b:a.1=x
  ·simp only[aR,OB b,Pj]at h
   rcases h with h|h
   ·exact .inl h
   ·exact .inr (.inr (Pm _ h))
  ·simp only[aR,Oz b,Pj]at h
   rcases h with h|h
   ·exact .inr (.inr (by rw[h];exact Qc))
   ·rcases ih h with h|⟨h,c⟩|h
    ·exact .inl h
    ·exact .inr (.inl ⟨Pm _ h,c⟩)
    ·exact .inr (.inr (Pm _ h))
def io{l:List (κ×α)}(hd:cw l)(x:κ)(v:α):(aR l x v).Perm ((x,v)::ft l x):=by
 induction l with
 |nil=>simp[aR,ft]
 |cons e r ih=>
  unfold cw at hd;rw[Pi,QB]at hd;by_cases b:e.1=x
  ·have:ft (e::r) x=r:=by
    unfold ft;rw[So,Oz (by simp[b])];refine QR.2 λa c=>?_;have:a.1≠x:=λd=>hd.1 (by rw[b,<-d];exact Pq (f:=(·.1)) c);simp[this]
   rw[this];simp[aR,b]
  ·have:ft (e::r) x=e::ft r x:=by
    unfold ft;rw[So,OB (by simp[b])]
   rw[this];simp only[aR,Oz b];exact((ih hd.2).cons e).trans (List.Perm.swap _ _ _)
def Iw{l:List (κ×α)}(hd:cw l)(x:κ):cw (ft l x):=hd.sublist (List.filter_sublist.map _)
def rv(l:List (κ×α))(f:κ->α->β)(x:κ):ap (l.map λe=>(e.1,f e.1 e.2)) x=(ap l x).map (f x):=by
 induction l with
 |nil=>rfl
 |cons e r ih=>
  by_cases a:e.1=x
  ·simp[ap,a]
  ·simp only[Pi,ap,Oz a,ih]
end
def Rv(v:Value):Option (DataW Value×List MemPlace):=some (.held v,[])
def sw{v:Value}{ps:List MemPlace}(h:Rv v=some (.held u,ps)):v=u:=by
 unfold Rv at h;injection h with h;injection h with h;injection h
structure gp(P:Program)(k:TypeId){κ:Type}(enc:κ->Lit)(val:κ->Value)(E3:κ->Prop):Prop where
 keyed:Keyed P k
 key:∀x,E3 x->keyOf P k (val x)=some (enc x)
 inj:∀x y,E3 x->E3 y->enc x=enc y->x=y
def gp.lit{P:Program}{k:TypeId}{κ:Type}{enc:κ->Lit}{val:κ->Value}{E3:κ->Prop}(K:gp P k enc val E3){x:κ}(hx:E3 x):WideAt.IsKeyLit (enc x):=K.keyed.key (K.key x hx)
section
variable {P:Program} {k:TypeId} {κ:Type} {enc:κ→Lit} {val:κ→Value} {E3:κ→Prop} {w w':World} {b:Nat} {l:List (κ×Value)}
structure aw(P:Program)(k:TypeId)(enc:κ->Lit)(E3:κ->Prop)(w:World)(b:Nat)(l:List (κ×Value)):Prop where
 own:∃es,w.ownsMap P k Rv b l.length (.map es)/\es.Perm (l.map λp=>(enc p.1,DataW.held p.2))
 D7:cw l
 E3:∀p∈l,E3 p.1
def aw.lt(h:aw P k enc E3 w b l):b<w.heap.size:=by obtain⟨_,h,_⟩:=h.own;exact h.lt
def aw.D3(h:aw P k enc E3 w b l)(hb:w'.heap[b]?=w.heap[b]?):aw P k enc E3 w' b l:=by
 obtain⟨⟨c,⟨d,a,e,f⟩,g⟩,i,j⟩:=h;exact⟨⟨c,⟨d,a,hb.trans e,f⟩,g⟩,i,j⟩
def aw.B7{L:Nat->Prop}(h:aw P k enc E3 w b l)(hK:ag L w w')(hL:¬L b):aw P k enc E3 w' b l:=h.D3 (hK.block b h.lt hL)
def aw.up(h:aw P k enc E3 w b l)(hb:M w w'):aw P k enc E3 w' b l:=h.D3 (hb.block b h.lt)
def aw.made(w:World):aw P k enc E3 (w.alloc (.map #[] 0)) w.heap.size []:=
 ⟨⟨[],World.ownsMap_made w P k Rv,.nil⟩,Sh,λp a=>by cases a⟩
def aw.made_at{g:Nat}(w:World)(hg:g=w.heap.size):aw P k enc E3 (w.alloc (.map #[] 0)) g []:=by subst hg;exact aw.made w
def aw.len{t e:TypeId}(h:aw P k enc E3 w b l)(ht:P.underlying t=some (.map k e))(ty:TypeId):(Builtin.len_ #[t] ty #[.map (some b)]).run P w=.ok (I (l.length:Int)) w:=by
 obtain⟨⟨d,a,c⟩,f,g⟩:=h;have:=a.len ht ty;rw[this,Maps.size_eq,c.length_eq,Pe]
structure dx(P:Program)(k:TypeId)(enc:κ->Lit)(E3:κ->Prop)(w:World)(b r:Nat)(l:List (κ×Value))(todo:List κ)(cnt:Nat):Prop where
 own:∃es left,w.ranges P k Rv b r l.length (.map es) left cnt/\es.Perm (l.map λp=>(enc p.1,DataW.held p.2))/\∀kl,left kl=true↔∃x∈todo,enc x=kl
 D7:cw l
 E3:∀p∈l,E3 p.1
 sub:∀x∈todo,x∈l.map (·.1)
 nodup:todo.Nodup
def dx.left_eq{todo:List κ}(h:dx P k enc E3 w b r l todo cnt):w.rangeLeft b r=cnt:=by obtain⟨_,_,h,_⟩:=h.own;exact h.left_eq
def dx.D3{todo:List κ}(h:dx P k enc E3 w b r l todo cnt)(hb:w'.heap[b]?=w.heap[b]?)(hr:w'.heap[r]?=w.heap[r]?):dx P k enc E3 w' b r l todo cnt:=by
 obtain⟨⟨f,d,⟨g,a,c,e,i,j,m,n,o,p,q⟩,s⟩,t,u,v,x⟩:=h;exact⟨⟨f,d,⟨g,a,c,e,i,hb.trans j,m,n,o,hr.trans p,q⟩,s⟩,t,u,v,x⟩
def dx.lt{todo:List κ}(h:dx P k enc E3 w b r l todo cnt):b<w.heap.size/\r<w.heap.size:=by obtain⟨_,_,h,_⟩:=h.own;exact⟨h.owns.lt,h.lt⟩
def dx.up{todo:List κ}(h:dx P k enc E3 w b r l todo cnt)(hb:M w w'):dx P k enc E3 w' b r l todo cnt:=h.D3 (hb.block b h.lt.1) (hb.block r h.lt.2)
def aw.range{t e:TypeId}(h:aw P k enc E3 w b l)(K:gp P k enc val E3)(ht:P.underlying t=some (.map k e)):
  ∃w',(Instr.range t (.map (some b))).run P w=.ok (Z w.heap.size 0) w'/\dx P k enc E3 w' b w.heap.size l (l.map (·.1)) l.length/\M w w'/\w'.heap.size=w.heap.size+1:=by
 obtain⟨⟨i,s,c⟩,m,n⟩:=h;obtain⟨w',u,o,a,v⟩:=s.range K.keyed ht;refine⟨w',u,⟨⟨i,Maps.has (.map i),?_,c,λA=>?_⟩,m,n,λx g=>g,m⟩,⟨a.os,a.tape,a.output,a.size,λj y=>a.block j y zS⟩,v⟩
 ·rw[Maps.size_eq,c.length_eq,Pe]at o;exact o
 ·rw[Maps.has_eq,Sq];constructor
  ·rintro⟨p,r,z⟩;obtain⟨q,d,rfl⟩:=Pa.1 (c.mem_iff.1 r);exact⟨q.1,Pq (f:=(·.1)) d,WideAt.sameKey_eq z⟩
  ·rintro⟨x,g,rfl⟩;obtain⟨q,d,rfl⟩:=Pa.1 g;exact⟨_,c.mem_iff.2 (Pq (f:=λp=>(enc p.1,DataW.held p.2)) d),WideAt.sameKey_self (K.lit (n q d))⟩
end
section
variable {P:Program} {k:TypeId} {κ:Type} [DecidableEq κ] {enc:κ→Lit} {val:κ→Value} {E3:κ→Prop} {w w':World} {b:Nat} {l:List (κ×Value)}
def oe{x:κ}(K:gp P k enc val E3)(hx:E3 x){es:List (Lit×DataW Value)}(hp:es.Perm (l.map λp=>(enc p.1,DataW.held p.2)))(hd:cw l)(hm:∀p∈l,E3 p.1):
  es.find? (λp=>p.1.sameKey (enc x))=(ap l x).map λv=>(enc x,DataW.held v):=by
 cases hg:ap l x with
 |none=>
  rw[QH];refine RB.2 λp c b=>?_;obtain⟨q,a,rfl⟩:=Pa.1 (hp.mem_iff.1 c);have:=K.inj _ _ (hm q a) hx (WideAt.sameKey_eq b);exact gz.1 hg (by rw[<-this];exact Pq (f:=(·.1)) a)
 |some v=>
  have d:=hp.mem_iff.2 (Pa.2 ⟨(x,v),bR hg,rfl⟩);rw[PT]
  cases hf:es.find? (λp=>p.1.sameKey (enc x))with
  |none=>
   have:=RB.1 hf _ d;exact absurd (WideAt.sameKey_self (K.lit hx)) this
  |some p=>
   have b:=List.find?_some hf;obtain⟨q,a,rfl⟩:=Pa.1 (hp.mem_iff.1 (List.mem_of_find?_eq_some hf));have e:=K.inj _ _ (hm q a) hx (WideAt.sameKey_eq b);obtain⟨g,h⟩:=q;simp only at e;subst e;have:=im hd a;rw[hg]at this;injection this with this;rw[this]
def LB{x:κ}(K:gp P k enc val E3)(hx:E3 x){es:List (Lit×DataW Value)}(hp:es.Perm (l.map λp=>(enc p.1,DataW.held p.2)))(hd:cw l)(hm:∀p∈l,E3 p.1):
  es.any (λp=>p.1.sameKey (enc x))=(ap l x).isSome:=by
 have h:=oe K hx hp hd hm;have:(es.find? λp=>p.1.sameKey (enc x)).isSome=(ap l x).isSome:=by rw[h];simp
 rw[<-this,List.isSome_find?]
section
variable {t e:TypeId} {x:κ} {z:Value}
def aw.look(h:aw P k enc E3 w b l)(K:gp P k enc val E3)(ht:P.underlying t=some (.map k e))(hz:(zeroValue e).run P w=.ok z w)(hx:E3 x):
  (Instr.lookup t (.map (some b)) (val x) false).run P w=.ok ((ap l x).getD z) w:=by
 obtain⟨⟨j,d,f⟩,g,i⟩:=h;obtain⟨v,m,c,a⟩:=d.lookup K.keyed ht hz (zd:=.held z) (zp:=[]) rfl (K.key x hx);rw[DataW.atKey,oe K hx f g i]at a;rw[c]
 cases hg:ap l x with
 |none=>rw[hg]at a;exact congrArg (λu=>Result.ok u w) (sw a)
 |some u=>rw[hg]at a;exact congrArg (λu=>Result.ok u w) (sw a)
def aw.look_ok(h:aw P k enc E3 w b l)(K:gp P k enc val E3)(ht:P.underlying t=some (.map k e))(hz:(zeroValue e).run P w=.ok z w)(hx:E3 x):
  (Instr.lookup t (.map (some b)) (val x) true).run P w=.ok (.tuple #[(ap l x).getD z,.bool (ap l x).isSome]) w:=by
 obtain⟨⟨j,i,d⟩,f,g⟩:=h;obtain⟨v,m,a,c⟩:=i.look_ok K.keyed ht hz (zd:=.held z) (zp:=[]) rfl (K.key x hx);rw[DataW.atKey,oe K hx d f g]at c;rw[Maps.has_eq,LB K hx d f g]at a;rw[a]
 cases hg:ap l x with
 |none=>rw[hg]at c;rw[show v=z from sw c];rfl
 |some u=>rw[hg]at c;rw[show v=u from sw c];rfl
end
def qJ(x:Lit×DataW Value):∀l:List (Lit×DataW Value),(DataW.insert x l).Perm (x::l)
 |[]=>.refl _
 |y::r=>by
  unfold DataW.insert;split
  ·exact .refl _
  ·exact((qJ x r).cons y).trans (List.Perm.swap _ _ _)
def sy{x:κ}(K:gp P k enc val E3)(hx:E3 x){es:List (Lit×DataW Value)}(hp:es.Perm (l.map λp=>(enc p.1,DataW.held p.2)))(hm:∀p∈l,E3 p.1):
  (es.filter λp=>!p.1.sameKey (enc x)).Perm ((ft l x).map λp=>(enc p.1,DataW.held p.2)):=by
 refine(hp.filter _).trans ?_;unfold ft;rw[Rk];refine .of_eq (congrArg _ (QK λp a=>?_));have:p.1=x↔(enc p.1).sameKey (enc x)=true:=⟨λh=>by rw[h];exact WideAt.sameKey_self (K.lit hx),λh=>K.inj _ _ (hm p a) hx (WideAt.sameKey_eq h)⟩;by_cases h:p.1=x
 ·simp[h,WideAt.sameKey_self (K.lit hx)]
 ·have b:(enc p.1).sameKey (enc x)=false:=by
   cases hs:(enc p.1).sameKey (enc x)with
   |false=>rfl
   |true=>exact absurd (this.2 hs) h
  simp[h,b]
def qK{n m:Nat}{es:List (Lit×DataW Value)}(h:w.ownsMap P k Rv b n (.map es))(hm:m=es.length):w.ownsMap P k Rv b m (.map es):=by
 obtain⟨d,a,e,f,g,c⟩:=h;refine⟨d,a,e,f,?_,c⟩;injection c with c;rw[hm,c,length_sorted];simp
def aw.S5{x:κ}{v:Value}{n:Nat}{es:List (Lit×DataW Value)}(K:gp P k enc val E3)(hx:E3 x)(hp:es.Perm (l.map λp=>(enc p.1,DataW.held p.2)))(hd:cw l)(hm:∀p∈l,E3 p.1)
  (ho:w'.ownsMap P k Rv b n ((DataW.map es).put (enc x) (.held v))):aw P k enc E3 w' b (aR l x v):=by
 have a:(DataW.insert (enc x,DataW.held v) (es.filter λp=>!p.1.sameKey (enc x))).Perm ((aR l x v).map λp=>(enc p.1,DataW.held p.2)):=
  ((qJ _ _).trans ((sy K hx hp hm).cons _)).trans (((io hd x v).map (λ(p:κ×Value)=>(enc p.1,(DataW.held p.2:DataW Value)))).symm)
 refine⟨⟨_,qK ho ?_,a⟩,wQ hd x v,λp c=>?_⟩
 ·rw[a.length_eq,Pe]
 ·rcases LA c with rfl|⟨h,_⟩|h
  ·exact hx
  ·exact hm p h
  ·exact hm p h
def cZ{ops:Array Oper}{rest:List Oper}{o:Oper}{a:Act}{Q:Exit->Act->World->Prop}(hg:o.guard=none)(m x v:Operand)(t e:TypeId)(hop:o.op=Op.mapUpdate t m x v)
  (K:gp P k enc val E3)(ht:P.underlying t=some (.map k e))(y:κ)(hy:E3 y)(u:Value)(hm:a.eval m=.map (some b))(hx:a.eval x=val y)(hv:a.eval v=u)(h:aw P k enc E3 w b l)(hn:l.length<=100000)
  (hK:∀w',aw P k enc E3 w' b (aR l y u)->ag (λj=>j=b) w w'->w'.heap.size=w.heap.size->wpList P ops Q rest (a.put o.dst undef) w'):wpList P ops Q (o::rest) a w:=by
 obtain⟨⟨c,p,q⟩,r,d⟩:=h;refine wpList_mapUpdate_in w hg m x v t hop k e K.keyed ht Rv b l.length (.map c) hm p zU (val y) u (enc y) hx hv (K.key y hy) (.held u) [] rfl λw' s f=>?_;have hg:=f.grown;refine hK w' (aw.S5 K hy q r d s) ⟨hg.os,hg.tape,hg.output,hg.size,λj z g=>hg.block j z λe=>g (by injection e)⟩ ?_;obtain⟨c,n,A,i,B,rfl⟩:=f;simp[Go.ChangeMaps.setBlock]
def mf{ops:Array Oper}{rest:List Oper}{o:Oper}{a:Act}{Q:Exit->Act->World->Prop}(hg:o.guard=none)(m x:Operand)(t e:TypeId)(hop:o.op=Op.call {callee:=Callee.builtin Builtin.delete,args:=#[m,x],argTypes:=#[t,k]})
  (K:gp P k enc val E3)(ht:P.underlying t=some (.map k e))(y:κ)(hy:E3 y)(hm:a.eval m=.map (some b))(hx:a.eval x=val y)(h:aw P k enc E3 w b l)
  (hK:∀w',aw P k enc E3 w' b (ft l y)->ag (λj=>j=b) w w'->w'.heap.size=w.heap.size->wpList P ops Q rest (a.put o.dst (.tuple #[])) w'):wpList P ops Q (o::rest) a w:=by
 obtain⟨⟨f,s,u⟩,v,c⟩:=h;refine wpList_delete_own w hg m x t k hop e K.keyed ht Rv b l.length (.map f) hm s (val y) (enc y) hx (K.key y hy) λw' z g=>?_;have hg:=g.grown;have d:=sy K hy u c;refine hK w' ⟨⟨_,qK z (by rw[d.length_eq,Pe]),d⟩,Iw v y,λp i=>c p (Pp.1 i).1⟩ ⟨hg.os,hg.tape,hg.output,hg.size,λj A n=>hg.block j A λe=>n (by injection e)⟩ ?_;obtain⟨f,r,B,q,D,rfl⟩:=g;simp[Go.ChangeMaps.setBlock]
def dx.next{todo:List κ}(h:dx P k enc E3 w b r l todo cnt)(K:gp P k enc val E3)(hval:∀v x,E3 x->keyOf P k v=some (enc x)->v=val x)(ty:TypeId):
  (todo=[]/\(Instr.next (Z r 0) false ty).run P w=.ok (.tuple #[.bool false]) w)\/
  ∃x v w' cnt',x∈todo/\ap l x=some v/\(Instr.next (Z r 0) false ty).run P w=.ok (.tuple #[.bool true,val x,v]) w'/\
   dx P k enc E3 w' b r l (todo.erase x) cnt'/\cnt'<cnt/\ag (λj=>j=r) w w'/\w'.heap.size=w.heap.size/\(Instr.entry (Z r 0)).run P w'=.ok (.tuple #[val x,v]) w':=by
 obtain⟨⟨L,N,O,A,n⟩,B,g,i,o⟩:=h
 rcases O.next K.keyed ty with⟨h0,p,s⟩|⟨D,v,F,y,w',cnt',p,s,m,Q,R,S,T,f,U,G⟩
 ·refine .inl ⟨?_,s⟩
  cases todo with
  |nil=>rfl
  |cons x r=>have:=(n (enc x)).2 ⟨x,zS,rfl⟩;rw[p]at this;cases this
 ·obtain⟨x,t,rfl⟩:=(n F).1 s;have c:E3 x:=by
   obtain⟨q,z,rfl⟩:=Pa.1 (i x t);exact g q z
  obtain rfl:=hval D x c p;have X:ap l x=some v:=by
   have:=Q (.held undef);rw[DataW.atKey,oe K c A B g]at this;obtain⟨u,hu⟩:=Rd.1 (gY.2 (i x t));rw[hu]at this ⊢;unfold Rv at m;injection m with m;rw[<-m]at this;simp only[PT]at this;injection this with this;rw[this]
  refine .inr ⟨x,v,w',cnt',t,X,R,⟨⟨L,_,S,A,λF=>?_⟩,B,g,λy a=>i y (List.mem_of_mem_erase a),o.erase x⟩,T,⟨f.os,f.tape,f.output,f.size,λj hj d=>f.block j hj λe=>d (by injection e)⟩,U,G⟩;simp only[OY,Sl,n];constructor
  ·rintro⟨⟨y,a,rfl⟩,d⟩;refine⟨y,?_,rfl⟩;rw[List.Nodup.mem_erase_iff o];refine⟨λe=>?_,a⟩;subst e;rw[WideAt.sameKey_self (K.lit c)]at d
   cases d
  ·rintro⟨y,a,rfl⟩;rw[List.Nodup.mem_erase_iff o]at a;refine⟨⟨y,a.2,rfl⟩,?_⟩
   cases hsk:(enc y).sameKey (enc x)with
   |false=>rfl
   |true=>
    have H:E3 y:=by
     obtain⟨q,z,rfl⟩:=Pa.1 (i y a.2);exact g q z
    exact absurd (K.inj _ _ H c (WideAt.sameKey_eq hsk)) a.1
end
end
def bF(q n:Nat)(cs cs':Array Value):Prop:=cs'.size=cs.size/\∀j,j<q\/q+n<=j->cs'[j]?=cs[j]?
def bF.refl(n:Nat)(cs:Array Value):bF q n cs cs:=⟨rfl,λ_ _=>rfl⟩
def bF.trans{q n:Nat}{a b c:Array Value}(h:bF q n a b)(k:bF q n b c):bF q n a c:=⟨k.1.trans h.1,λj d=>(k.2 j d).trans (h.2 j d)⟩
def bF.B4{q n:Nat}{a b:Array Value}(h:bF q n a b)(h1:q<=i)(h2:i<q+n)(v:Value):bF q n a (b.setIfInBounds i v):=
 ⟨by rw[Array.size_setIfInBounds];exact h.1,λj c=>by rw[RR zO];exact h.2 j c⟩
def bF.more{q n q' n':Nat}{a b:Array Value}(h:bF q n a b)(h1:q'<=q)(h2:q+n<=q'+n'):bF q' n' a b:=⟨h.1,λj c=>h.2 j zO⟩
def cP(h:cs[i]?=some u)(v:Value):(cs.setIfInBounds i v)[i]?=some v:=by
 have:=(PX.1 h).1;simp[this]
def bf{j:Nat}(h:i≠j)(v:Value):(cs.setIfInBounds i v)[j]?=cs[j]?:=RR h
def mj(ht: -9223372036854775808<=t/\t<=9223372036854775807):C 280 #[I t] w λe w'=>e=.returned (.int .u32 (bitN t:Int))/\w=w':=by
 obtain⟨j,k⟩:=ht;by_cases a:0<=t/\t<32
 ·have c:=Z1 (mi a);obtain⟨g,i⟩:=a;have l:¬t<0:=zO;have m:¬32<=t:=zO
  go_in
  go_wp2;go_ret;refine⟨aC ?_,rfl⟩;rw[c.o];have d:=iG t;rw[c.o]at d;have e:((2:Int)^t.toNat)=((2^t.toNat:Nat):Int):=zS;rw[e];generalize 2^t.toNat=b at*;clear e;omega
 ·have c:Hid ((0:Int)=(bitN t:Int)):=by show _=_;rw[lm a];rfl
  have f:t<0\/(¬t<0/\32<=t):=zO;clear a
  rcases f with h|⟨h,n⟩
  all_goals
   go_in
   go_wp2;go_ret;exact⟨aC c.o,rfl⟩
structure bt(w:World)(p q B:Nat)(t:TypeId)(cs:Array Value)(sl:Value)(l:Lk):Prop where
 B0:Blk w p t cs
 line:aQ w B 393 2 sl l.line.length (eJ l.line)
 r:cs[q]?=some (.int .u32 l.r)
 m:cs[q+1]?=some (.int .u32 l.w)
 s:cs[q+2]?=some sl
def bt.c0{w:World}{p q:Nat}{t:TypeId}{l:Lk}(h:bt w p q B t cs sl l):w.cell? (Y p q)=some (.int .u32 l.r):=(h.B0.cell q).trans h.r
def bt.c1{w:World}{p q:Nat}{t:TypeId}{l:Lk}(h:bt w p q B t cs sl l):w.cell? (Y p (q+1))=some (.int .u32 l.w):=(h.B0.cell (q+1)).trans h.m
def bt.c2{w:World}{p q:Nat}{t:TypeId}{l:Lk}(h:bt w p q B t cs sl l):w.cell? (Y p (q+2))=some sl:=(h.B0.cell (q+2)).trans h.s
def bt.up{w:World}{p q:Nat}{t:TypeId}{l:Lk}(h:bt w p q B t cs sl l)(hb:M w w'):bt w' p q B t cs sl l:=
 ⟨h.B0.later hb,h.line.later hb,h.r,h.m,h.s⟩
def bt.D3{w:World}{p q:Nat}{t:TypeId}{cs':Array Value}{l:Lk}(h:bt w p q B t cs sl l)(hne:393≠t){k:Nat}
  (hb:Blk w' p t cs')(hr:cs'[q]?=some (.int .u32 r))(hm:cs'[q+1]?=some (.int .u32 k))(hs:cs'[q+2]?=some sl)(hK:ag (λj=>j=p) w w'):bt w' p q B t cs' sl ⟨r,k,l.line⟩:=
 ⟨hb,h.line.D3 λk a=>hK.block k (h.line.lt k a).2 λe=>h.line.ne h.B0 hne (by rw[a,e]),hr,hm,hs⟩
def ml(q B:Nat)(ty:TypeId)(cs:Array Value)(sl:Value)(l:Lk)(t:Int)(w:World)(h:bt w p q B ty cs sl l)(hl:l.ok)(ht: -9223372036854775808<=t/\t<=9223372036854775807):
  C 272 #[Z p q,I t] w λe w'=>e=.returned (I (eD l t))/\w=w':=by
 have H:=h.c0;have L:=h.c1;have j:=iG t;have u:=Bn l.w (bitN t) hl.w j;have v:=Bn l.r (bitN t) hl.r j;have s:eD l t=if bitN t=0 then 0 else if l.w&&& bitN t≠0 then 2 else if l.r&&& bitN t≠0 then 1 else 0:=rfl
 have k:=mj t w ht;generalize bitN t=b at*;have g:=Z1 s;have f:=Z1 k;clear s k;by_cases i:b=0
 ·have c:Hid (eD l t=0):=by show _=_;rw[g.o,OB i]
  have z:((b:Int)==0)=true:=zT;clear i u v
  go_in
  go_wp2_with fail;refine f.o.mono ?_;rintro e m ⟨rfl,rfl⟩;go_wp2;go_ret;exact⟨aC c.o.symm,rfl⟩
 ·have z:((b:Int)==0)=false:=zT;have n:=Z1 i;clear i;generalize a:l.w&&& b=x at*;generalize d:l.r&&& b=y at*;have F:=Z1 a;have G:=Z1 d;clear a d;by_cases a:x=0
  ·have A:((x:Int) !=0)=false:=zT;by_cases d:y=0
   ·have D:((y:Int) !=0)=false:=zT;have c:Hid (eD l t=0):=by show _=_;rw[g.o,Oz n.o,Oz (by simp[a]),Oz (by simp[d])]
    clear a d
    go_in
    go_wp2_with fail;refine f.o.mono ?_;rintro e m ⟨rfl,rfl⟩;go_wp2;go_ret;exact⟨aC c.o.symm,rfl⟩
   ·have D:((y:Int) !=0)=true:=zT;have c:Hid (eD l t=1):=by show _=_;rw[g.o,Oz n.o,Oz (by simp[a]),OB d]
    clear a d
    go_in
    go_wp2_with fail;refine f.o.mono ?_;rintro e m ⟨rfl,rfl⟩;go_wp2;go_ret;exact⟨aC c.o.symm,rfl⟩
  ·have A:((x:Int) !=0)=true:=zT;have c:Hid (eD l t=2):=by show _=_;rw[g.o,Oz n.o,OB a]
   clear a
   go_in
   go_wp2_with fail;refine f.o.mono ?_;rintro e m ⟨rfl,rfl⟩;go_wp2;go_ret;exact⟨aC c.o.symm,rfl⟩
def lV:cE prog 25 3 (I 0) 1 8:=⟨underlying25,zR,rfl⟩
def jt:cE prog 154 393 (.agg #[I 0,.bool false]) 2 16:=⟨underlying154,zR,rfl⟩
def mm(l:List (Int×Bool)):List Int:=l.map (·.1)
def IF{w:World}{n:Nat}{A:Option Addr}{l:List (Int×Bool)}(h:an w B 2 A n (eJ l)):n=l.length:=by
 have:=h.1;rw[wT]at this;omega
def Bo{w:World}{n k:Nat}{A:Option Addr}{l:List (Int×Bool)}(h:an w B 2 A n (eJ l))(hk:k<l.length):
  ∃b o,A=some (Y b o)/\b<B/\w.cell? (Y b (o+k*2))=some (I l[k].1)/\w.cell? (Y b (o+k*2+1))=some (.bool l[k].2):=by
 obtain⟨b,o,rfl,c,a⟩:=h.elem py zP (IF h) hk;exact⟨b,o,rfl,c,a 0 _ rfl,a 1 _ rfl⟩
def kN(q B:Nat)(ty:TypeId)(cs:Array Value)(sl:Value)(l:Lk)(w:World)(h:bt w p q B ty cs sl l)(hn:l.line.length<=1000):
  C 298 #[Z p q] w λe w'=>∃v,e=.returned v/\aL 1 w w' 3 v l.line.length (i64s (mm l.line)):=by
 have Q:=h.c2;obtain⟨A,c,rfl,_,_,x⟩:=h.line.form;generalize l.line=a at*;clear h;generalize j:a.length=n at*;have m:=Z1 j;clear j
 go_in
 go_wp2;go_loopw [3,13] (λv i wr=>∃(k:Nat),k<=n/\i=I k/\aL 1 w wr 3 v k (i64s (mm (a.take k)))) (λ_ i _=>n-(intOf i).toNat)
 case atStart=>exact⟨0,zO,rfl,aL.L8 1 (Oy _ _) _⟩
 case round=>
  obtain⟨k,R,rfl,b⟩:=hrel;by_cases N:k<n
  ·have f:k<a.length:=by have:=m.o;omega
   obtain⟨S,O,rfl,P,y,z⟩:=Bo (x.up b.below) f;have r:=OG f;generalize a[k]=t at*;have D:=Z1 r;obtain⟨F,G⟩:=t;simp only at y z;have d:=b.alloc (.cells #[I F,.bool G] 393);have H:=b.le;clear r
   go_wp2_with (at_builtin;go_must (refine bZ lV zP rfl (.tmp 17) (.tmp 20) rfl rfl d.own d.le zS rfl rfl zV zO zU ?_);intro T w' s u)
   go_roundw
   case rel=>
    refine⟨k+1,zO,by go_num,?_⟩;have L:=d.app u s;rw[D.o];simpa[mm,i64s]using L
   case measure=>simp[intOf];omega
  ·have g:k=n:=zO;have e:a.take k=a:=OT (by have:=m.o;omega);rw[e,g]at b;clear e g;go_wp2;go_ret;exact⟨_,rfl,b⟩
def ry(q B:Nat)(ty:TypeId)(cs:Array Value)(sl:Value)(l:Lk)(b:Bool)(w:World)(h:bt w p q B ty cs sl l):
  C 294 #[Z p q,.bool b] w λe w'=>e=.returned (.bool (fL l b))/\w=w':=by
 have k:=h.c0;have m:=h.c1;have g:fL l b=(decide (l.w=0)&&(!b||decide (l.r=0))):=rfl;have a:=Z1 g;clear g h;generalize l.w=x at*;generalize l.r=y at*;by_cases c:x=0
 ·have i:((x:Int)==0)=true:=zT;by_cases f:y=0
  ·have j:((y:Int)==0)=true:=zT;have d:Hid (fL l b=true):=by show _=_;rw[a.o];simp[c,f]
   clear c f a
   cases b
   all_goals
    go_in
    go_wp2;go_ret;exact⟨cN d.o.symm,rfl⟩
  ·have j:((y:Int)==0)=false:=zT;have d:Hid (fL l b=!b):=by show _=_;rw[a.o];simp[c,f]
   clear c f a
   cases b
   all_goals
    go_in
    go_wp2;go_ret;exact⟨cN d.o.symm,rfl⟩
 ·have i:((x:Int)==0)=false:=zT;have d:Hid (fL l b=false):=by show _=_;rw[a.o];simp[c]
  clear c a
  go_in
  go_wp2;go_ret;exact⟨cN d.o.symm,rfl⟩
def gR(t:Int):List Int->Int->Int
 |[],_=> -1
 |x::r,k=>if x=t then k else gR t r (k+1)
def vU(l:List Int):∀(k:Int),0<=k->decide (0<=gR t l k)=decide (t∈l):=by
 induction l with
 |nil=>intro k _;rfl
 |cons x r ih=>
  intro k a;rw[gR];by_cases h:x=t
  ·rw[OB h];simp[h];exact a
  ·rw[Oz h,ih (k+1) zO];simp[Pc h]
def EF(A:Option Addr)(c n:Nat)(t:Int)(w:World)(hr:an w w.heap.size 1 A n (i64s l))(hn:n<=100000):
  C 312 #[.slice A n c,I t] w λe w'=>e=.returned (I (gR t l 0))/\w=w':=by
 have h:n=l.length:=by have:=hr.1;simp[i64s]at this;omega
 have j:=Z1 h;clear h
 go_in
 go_wp2;go_loopw [8] (λi wr=>∃(k:Nat),k<=n/\i=I k/\w=wr/\Hid (gR t l 0=gR t (l.drop k) k)) (λi _=>n-(intOf i).toNat)
 case atStart=>exact⟨0,zO,rfl,rfl,Z1 zS⟩
 case round=>
  obtain⟨k,s,rfl,rfl,g⟩:=hrel;by_cases m:k<n
  ·have d:k<l.length:=by have:=j.o;omega
   obtain⟨v,u,rfl,_,f,y⟩:=hr.at_ m;obtain rfl:=ma f d;have p:=Pu d;generalize l[k]=x at*;have q:=Z1 p;clear p f;by_cases b:x=t
   ·subst b;have a:Hid (gR x l 0=k):=by show _=_;rw[g.o,q.o,gR,OB rfl]
    go_wp2;go_ret;exact⟨aC a.o.symm,rfl⟩
   ·have r:¬t=x:=λe=>b e.symm;have a:Hid (gR t l 0=gR t (l.drop (k+1)) (k+1)):=by show _=_;rw[g.o,q.o,gR,Oz b]
    clear b;go_wp2;go_roundw
    case rel=>exact⟨k+1,zO,by go_num,trivial,Z1 (by rw[a.o];push_cast;rfl)⟩
    case measure=>simp[intOf];omega
  ·have e:l.drop k=[]:=Pt (by have:=j.o;omega);have a:Hid (gR t l 0= -1):=by show _=_;rw[g.o,e];rfl
   clear e;go_wp2;go_ret;exact⟨aC a.o.symm,rfl⟩
def jN(A:Option Addr)(c n:Nat)(t:Int)(w:World)(hr:an w w.heap.size 1 A n (i64s l))(hn:n<=100000):
  C 297 #[.slice A n c,I t] w λe w'=>e=.returned (.bool (decide (t∈l)))/\w=w':=by
 have a:=Z1 (vU t l 0 (Int.le_refl 0))
 go_in
 go_wp2_with fail;refine(EF l A c n t w hr hn).mono ?_;rintro e b ⟨rfl,rfl⟩;go_wp2;go_ret;exact⟨cN a.o,rfl⟩
def wW(q B:Nat)(ty:TypeId)(cs:Array Value)(sl:Value)(l:Lk)(x:Int×Bool)(w:World)(h:bt w p q B ty cs sl l)(hl:l.ok)(hne:393≠ty)(ht: -9223372036854775808<=x.1/\x.1<=9223372036854775807):
  C 295 #[Z p q,.agg #[I x.1,.bool x.2]] w λe w'=>e=.returned (.tuple #[])/\∃cs',bt w' p q B ty cs' sl (ei l x)/\bF q 3 cs cs'/\ag (λj=>j=p) w w':=by
 obtain⟨t,b⟩:=x;have f:=h.c0;have g:=h.c1;have i:=h.B0.frozen q;have k:=h.B0.frozen (q+1);have a:=iG t;have n:=EC l.w (bitN t) hl.w a;have u:=EC l.r (bitN t) hl.r a;simp only at ht ⊢;have c:=Z1 ht;clear ht hl;have v:=h.B0.lt
 cases b
 ·go_in
  go_wp2
  go_region_with ((go_at_call 280;refine(mj t _ c.o).mono ?_;rintro e d ⟨rfl,rfl⟩))
  all_goals
   go_wp2
   go_end0
   have hK:ag (λj=>j=p) w ((w.setCell {block:=p,off:=q} (Value.int IntKind.u32 ↑(l.r|||bitN t))).alloc (Obj.cells #[I t,Value.bool false] 393)).drew:=(((ag.refl (λj=>j=p) w).setCell (p:=Y p q) (.inl rfl) _).alloc _).drew;exact⟨rfl,_,h.D3 hne (((h.B0.B4 q (Value.int IntKind.u32 ↑(l.r|||bitN t))).alloc (Obj.cells #[I t,Value.bool false] 393)).drew) (cP h.r _) ((bf zO _).trans h.m) ((bf zO _).trans h.s) hK,(bF.refl q 3 cs).B4 (OA _) zO _,hK⟩
 ·go_in
  go_wp2
  go_region_with ((go_at_call 280;refine(mj t _ c.o).mono ?_;rintro e d ⟨rfl,rfl⟩))
  all_goals
   go_wp2
   go_end0
   have hK:ag (λj=>j=p) w ((w.setCell {block:=p,off:=q+1} (Value.int IntKind.u32 ↑(l.w|||bitN t))).alloc (Obj.cells #[I t,Value.bool true] 393)).drew:=(((ag.refl (λj=>j=p) w).setCell (p:=Y p (q+1)) (.inl rfl) _).alloc _).drew;exact⟨rfl,_,h.D3 hne (((h.B0.B4 (q+1) (Value.int IntKind.u32 ↑(l.w|||bitN t))).alloc (Obj.cells #[I t,Value.bool true] 393)).drew) ((bf zO _).trans h.r) (cP h.m _) ((bf zO _).trans h.s) hK,(bF.refl q 3 cs).B4 zO zO _,hK⟩
def fc(o:Obj):(w.alloc o).drew=w.drew.alloc o:=rfl
def MC(w:World)(p q B:Nat)(ty:TypeId)(cs:Array Value)(sl:Value)(r:Lk×Bool×Int)(e:Ending)(w':World):Prop:=
 e=.returned (.tuple #[.bool r.2.1,I r.2.2])/\∃cs' sl',bt w' p q B ty cs' sl' r.1/\bF q 3 cs cs'/\ag (λj=>j=p\/sl.ownBlock=some j) w w'/\(sl'.ownBlock=sl.ownBlock\/∀k,sl'.ownBlock=some k->w.heap.size<=k)
def ud(q B:Nat)(ty:TypeId)(cs:Array Value)(sl:Value)(l:Lk)(t:Int)(b:Bool)(w:World)(h:bt w p q B ty cs sl l)(hl:l.ok)(hne:393≠ty)(hn:l.line.length<=900)(hB:B<=w.heap.size)(ht: -9223372036854775808<=t/\t<=9223372036854775807):
  C 281 #[Z p q,I t,.bool b] w (MC w p q B ty cs sl (gI l t b)):=by
 have ay:=mj t w ht;have hh:=ml p q B ty cs sl l t w h hl ht;have ha:gI l t b=if bitN t=0 then(l,false,1)else if eD l t≠0\/t∈mm l.line then(l,false,15)else if l.line=[]/\fL l b=true then(ei l (t,b),true,0)else({l with line:=l.line++[(t,b)]},false,0):=rfl
 have ad:=Z1 ay;have HH:=Z1 hh;have HA:=Z1 ha;clear ay hh ha;have ah:∀w',M w w'->ag (λj=>j=p\/sl.ownBlock=some j) w w':=λw' hb=>ag.B5 hb;by_cases hb:bitN t=0
 ·have z:Hid (gI l t b=(l,false,1)):=by show _=_;rw[HA.o,OB hb]
  have d1:((bitN t:Int)==0)=true:=zT;generalize bitN t=bb at*;clear hb
  go_in
  go_wp2_with fail;refine ad.o.mono ?_;rintro e w1 ⟨rfl,rfl⟩;go_wp2
  go_ret2
  exact⟨by rw[z.o];rfl,cs,sl,by rw[z.o];exact h,bF.refl _ _ _,ah _ (Oy _ _),.inl rfl⟩
 have d1:((bitN t:Int)==0)=false:=zT;by_cases hd:eD l t≠0
 ·have z:Hid (gI l t b=(l,false,15)):=by show _=_;rw[HA.o,Oz hb,OB (.inl hd)]
  have d2:(eD l t !=0)=true:=by simpa using hd
  generalize bitN t=bb at*;generalize eD l t=hv at*;clear hb hd
  go_in
  go_wp2_with fail;refine ad.o.mono ?_;rintro e w1 ⟨rfl,rfl⟩;go_wp2_with fail;refine HH.o.mono ?_;rintro e w1 ⟨rfl,rfl⟩;go_wp2
  go_ret2
  exact⟨by rw[z.o];rfl,cs,sl,by rw[z.o];exact h,bF.refl _ _ _,ah _ (Oy _ _),.inl rfl⟩
 have aq:eD l t=0:=zO;have d2:(eD l t !=0)=false:=by simp[aq]
 by_cases hi:t∈mm l.line
 ·have z:Hid (gI l t b=(l,false,15)):=by show _=_;rw[HA.o,Oz hb,OB (.inr hi)]
  have HC:Hid (decide (t∈mm l.line)=true):=Z1 (by simpa using hi);generalize bitN t=bb at*;generalize eD l t=hv at*;clear hb hd aq hi
  go_in
  go_wp2_with fail;refine ad.o.mono ?_;rintro e w1 ⟨rfl,rfl⟩;go_wp2_with fail;refine HH.o.mono ?_;rintro e w1 ⟨rfl,rfl⟩;go_wp2_with fail;refine(kN p q B ty cs sl l w h (OJ hn zP)).mono ?_;rintro e w1 ⟨v,rfl,Q⟩;obtain⟨A,c,rfl,_,_,hr⟩:=Q.form;go_wp2_with fail;refine(jN _ A c l.line.length t w1 hr zO).mono ?_;rintro e w2 ⟨rfl,rfl⟩;rw[HC.o];go_wp2
  go_ret2
  exact⟨by rw[z.o];rfl,cs,sl,by rw[z.o];exact h.up Q.below,bF.refl _ _ _,ah _ Q.below,.inl rfl⟩
 have HC:Hid (decide (t∈mm l.line)=false):=Z1 (by simpa using hi);have az:gI l t b=if l.line=[]/\fL l b=true then(ei l (t,b),true,0)else({l with line:=l.line++[(t,b)]},false,0):=by
  rw[HA.o,Oz hb,Oz λe=>e.elim hd hi]
 have a0:=Z1 az;generalize bitN t=bb at*;generalize eD l t=hv at*;clear hb hd aq hi az HA;by_cases hz:l.line.length=0/\fL l b=true
 ·obtain⟨hz,hf⟩:=hz;have z:Hid (gI l t b=(ei l (t,b),true,0)):=by show _=_;rw[a0.o,OB ⟨OU hz,hf⟩]
  have HF:=Z1 hf;have HZ:=Z1 hz;clear hf hz
  go_in
  go_wp2_with fail;refine ad.o.mono ?_;rintro e w1 ⟨rfl,rfl⟩;go_wp2_with fail;refine HH.o.mono ?_;rintro e w1 ⟨rfl,rfl⟩;go_wp2_with fail;refine(kN p q B ty cs sl l w h (OJ hn zP)).mono ?_;rintro e w1 ⟨v,rfl,Q⟩;obtain⟨A,c,rfl,_,_,hr⟩:=Q.form;have x:=Q.below;clear Q;go_wp2_with fail;refine(jN _ A c l.line.length t w1 hr zO).mono ?_;rintro e w2 ⟨rfl,rfl⟩;rw[HC.o];clear hr;have af:=ae x (.cells #[I t,.bool b] 393);have P:=h.up af;have c2:=(h.up x).c2;have a1:=(h.up x).B0.lt;have a2:=x.size;obtain⟨H,N,rfl,_,_,_⟩:=P.line.form;rw[HZ.o]at*;go_wp2_with fail;refine(ry p q B ty cs _ l b _ P).mono ?_;rintro e w2 ⟨rfl,rfl⟩;rw[HF.o];go_wp2_with fail;refine(wW p q B ty cs _ l (t,b) _ P hl hne ht).mono ?_;rintro e w4 ⟨rfl,bc,h4,bd,be⟩;go_wp2
  go_ret2
  exact⟨by rw[z.o];rfl,bc,_,by rw[z.o];exact h4,bd,(ag.B5 af).trans (ag.C3 be λ_ h=>.inl h),.inl rfl⟩
 ·have z:Hid (gI l t b=({l with line:=l.line++[(t,b)]},false,0)):=by
   show _=_;rw[a0.o,Oz λe=>hz ⟨by rw[e.1];rfl,e.2⟩]
  by_cases aj:l.line.length=0
  ·have hf:fL l b=false:=by
    cases hfb:fL l b
    ·rfl
    ·exact absurd ⟨aj,hfb⟩ hz
   have HF:=Z1 hf;have HZ:=Z1 aj;clear hf hz aj
   go_in
   go_wp2_with fail;refine ad.o.mono ?_;rintro e w1 ⟨rfl,rfl⟩;go_wp2_with fail;refine HH.o.mono ?_;rintro e w1 ⟨rfl,rfl⟩;go_wp2_with fail;refine(kN p q B ty cs sl l w h (OJ hn zP)).mono ?_;rintro e w1 ⟨v,rfl,Q⟩;obtain⟨A,c,rfl,_,_,hr⟩:=Q.form;have x:=Q.below;clear Q;go_wp2_with fail;refine(jN _ A c l.line.length t w1 hr zO).mono ?_;rintro e w2 ⟨rfl,rfl⟩;rw[HC.o];clear hr;have af:=ae x (.cells #[I t,.bool b] 393);have P:=h.up af;have c2:=(h.up x).c2;have a1:=(h.up x).B0.lt;have a2:=x.size;obtain⟨H,N,rfl,_,_,_⟩:=P.line.form;have d3:((l.line.length:Int)==0)=true:=by rw[HZ.o];rfl
   go_wp2_with fail;refine(ry p q B ty cs _ l b _ P).mono ?_;rintro e w2 ⟨rfl,rfl⟩;rw[HF.o];go_wp2;have R:aQ (w1.drew.alloc (.cells #[I t,.bool b] 393)) B 393 2 _ l.line.length (eJ l.line):=P.line;have S:Blk (w1.drew.alloc (.cells #[I t,.bool b] 393)) p ty _:=P.B0;have T:=P.line.ne P.B0 hne;have bg:l.line.length<=900:=hn;have U:B<=(w1.drew.alloc (.cells #[I t,.bool b] 393)).heap.size:=by show B<=(w1.alloc _).heap.size;rw[World.size_alloc];omega
   refine pq zR ?_;simp only[zD,zE,Nat.reduceAdd,zG];refine zx 0 ?_;refine zx 1 ?_;refine zx 2 ?_;refine zx 3 ?_;refine zv [4,5] ?_;refine zu (λK hK=>?_) ?_
   ·skip
    go_simp;refine hK _ _ ?_;clear hK;refine zn ?_;refine zr 5 ?_;refine zr 6 ?_;refine zw 7 λK hK=>?_;try simp only[fc]
    refine fx (w:=w1.drew.alloc (.cells #[I t,.bool b] 393)) (n:=l.line.length) (xs:=eJ l.line) (B:=B) (g:=w1.heap.size+1) (v:=.slice H l.line.length N) jt zP (.tmp 49) (.tmp 51) rfl zF R U zS zF rfl zV zO zU ?_;intro v' w' u y X D;obtain⟨d,f,rfl,_,_,_⟩:=u.form;refine hK _ _ ?_;have a:=S.grown y (Pc T);have f2:=a.frozen (q+2);have ak:=(a.cell (q+2)).trans h.s;have F:(Value.slice d (l.line.length+1) f).ownBlock=(Value.slice H l.line.length N).ownBlock\/∀k,(Value.slice d (l.line.length+1) f).ownBlock=some k->w.heap.size<=k:=D.imp id λh k G=>by have:=h k G;have h9:w1.heap.size<=(w1.drew.alloc (.cells #[I t,.bool b] 393)).heap.size:=(by show w1.heap.size<=(w1.alloc _).heap.size;simp);omega
    clear hK;refine zn ?_;refine zx 8 ?_;refine zx 9 ?_;refine zr 10 ?_;refine gF zR ?_;go_wp2
    go_ret2
    have O:ag (λj=>j=p\/(Value.slice H l.line.length N).ownBlock=some j) w _:=dl (w1:=w1.drew.alloc (.cells #[I t,.bool b] 393)) ((ag.B5 (L:=λ_=>False) x).drew.alloc _) y (λ_ h=>h.elim) (λk e=>.inr e);refine⟨by rw[z.o];rfl,_,.slice d (l.line.length+1) f,?_,(bF.refl q 3 cs).B4 (i:=q+2) zO zO (.slice d (l.line.length+1) f),?_,F⟩
    ·rw[z.o];refine⟨a.B4 (q+2) (.slice d (l.line.length+1) f),?_,(bf zO _).trans h.r,(bf zO _).trans h.m,cP h.s _⟩;have hq:=u.D3 (w':=w'.setCell (Y p (q+2)) (.slice d (l.line.length+1) f)) λk G=>Pd w' _ _ k λe=>u.ne a hne (by rw[G,e]);simpa[eJ,mN]using hq
    ·exact O.setCell (p:=Y p (q+2)) (.inl (.inl rfl)) _
   refine zu (λK hK=>?_) ?_
   ·skip
    go_simp;refine hK _ _ ?_;clear hK;refine zn ?_;refine zv [4,6] ?_;refine zu (λK hK=>?_) ?_
    ·skip
     go_simp;refine hK _ _ ?_;clear hK;refine zn ?_;refine zr 6 ?_;refine zw 7 λK hK=>?_;try simp only[fc]
     refine fx (w:=w1.drew.alloc (.cells #[I t,.bool b] 393)) (n:=l.line.length) (xs:=eJ l.line) (B:=B) (g:=w1.heap.size+1) (v:=.slice H l.line.length N) jt zP (.tmp 49) (.tmp 51) rfl zF R U zS zF rfl zV zO zU ?_;intro v' w' u y X D;obtain⟨d,f,rfl,_,_,_⟩:=u.form;refine hK _ _ ?_;have a:=S.grown y (Pc T);have f2:=a.frozen (q+2);have ak:=(a.cell (q+2)).trans h.s;have F:(Value.slice d (l.line.length+1) f).ownBlock=(Value.slice H l.line.length N).ownBlock\/∀k,(Value.slice d (l.line.length+1) f).ownBlock=some k->w.heap.size<=k:=D.imp id λh k G=>by have:=h k G;have h9:w1.heap.size<=(w1.drew.alloc (.cells #[I t,.bool b] 393)).heap.size:=(by show w1.heap.size<=(w1.alloc _).heap.size;simp);omega
     clear hK;refine zn ?_;refine zx 8 ?_;refine zx 9 ?_;refine zr 10 ?_;refine gF zR ?_;go_wp2
     go_ret2
     have O:ag (λj=>j=p\/(Value.slice H l.line.length N).ownBlock=some j) w _:=dl (w1:=w1.drew.alloc (.cells #[I t,.bool b] 393)) ((ag.B5 (L:=λ_=>False) x).drew.alloc _) y (λ_ h=>h.elim) (λk e=>.inr e);refine⟨by rw[z.o];rfl,_,.slice d (l.line.length+1) f,?_,(bF.refl q 3 cs).B4 (i:=q+2) zO zO (.slice d (l.line.length+1) f),?_,F⟩
     ·rw[z.o];refine⟨a.B4 (q+2) (.slice d (l.line.length+1) f),?_,(bf zO _).trans h.r,(bf zO _).trans h.m,cP h.s _⟩;have hq:=u.D3 (w':=w'.setCell (Y p (q+2)) (.slice d (l.line.length+1) f)) λk G=>Pd w' _ _ k λe=>u.ne a hne (by rw[G,e]);simpa[eJ,mN]using hq
     ·exact O.setCell (p:=Y p (q+2)) (.inl (.inl rfl)) _
    refine zu (λK hK=>?_) ?_
    ·skip
     go_simp;refine hK _ _ ?_;clear hK;refine zn ?_;refine zr 4 ?_;refine zw 7 λK hK=>?_;try simp only[fc]
     refine fx (w:=w1.drew.alloc (.cells #[I t,.bool b] 393)) (n:=l.line.length) (xs:=eJ l.line) (B:=B) (g:=w1.heap.size+1) (v:=.slice H l.line.length N) jt zP (.tmp 49) (.tmp 51) rfl zF R U zS zF rfl zV zO zU ?_;intro v' w' u y X D;obtain⟨d,f,rfl,_,_,_⟩:=u.form;refine hK _ _ ?_;have a:=S.grown y (Pc T);have f2:=a.frozen (q+2);have ak:=(a.cell (q+2)).trans h.s;have F:(Value.slice d (l.line.length+1) f).ownBlock=(Value.slice H l.line.length N).ownBlock\/∀k,(Value.slice d (l.line.length+1) f).ownBlock=some k->w.heap.size<=k:=D.imp id λh k G=>by have:=h k G;have h9:w1.heap.size<=(w1.drew.alloc (.cells #[I t,.bool b] 393)).heap.size:=(by show w1.heap.size<=(w1.alloc _).heap.size;simp);omega
     clear hK;refine zn ?_;refine zx 8 ?_;refine zx 9 ?_;refine zr 10 ?_;refine gF zR ?_;go_wp2
     go_ret2
     have O:ag (λj=>j=p\/(Value.slice H l.line.length N).ownBlock=some j) w _:=dl (w1:=w1.drew.alloc (.cells #[I t,.bool b] 393)) ((ag.B5 (L:=λ_=>False) x).drew.alloc _) y (λ_ h=>h.elim) (λk e=>.inr e);refine⟨by rw[z.o];rfl,_,.slice d (l.line.length+1) f,?_,(bF.refl q 3 cs).B4 (i:=q+2) zO zO (.slice d (l.line.length+1) f),?_,F⟩
     ·rw[z.o];refine⟨a.B4 (q+2) (.slice d (l.line.length+1) f),?_,(bf zO _).trans h.r,(bf zO _).trans h.m,cP h.s _⟩;have hq:=u.D3 (w':=w'.setCell (Y p (q+2)) (.slice d (l.line.length+1) f)) λk G=>Pd w' _ _ k λe=>u.ne a hne (by rw[G,e]);simpa[eJ,mN]using hq
     ·exact O.setCell (p:=Y p (q+2)) (.inl (.inl rfl)) _
    exact AllReady.nil
   exact AllReady.nil
  ·have a3:l.line.length≠0:=λe=>aj e;have d3:((l.line.length:Int)==0)=false:=by revert a3;generalize l.line.length=n9;intro a3;simp;omega
   clear hz aj
   go_in
   go_wp2_with fail;refine ad.o.mono ?_;rintro e w1 ⟨rfl,rfl⟩;go_wp2_with fail;refine HH.o.mono ?_;rintro e w1 ⟨rfl,rfl⟩;go_wp2_with fail;refine(kN p q B ty cs sl l w h (OJ hn zP)).mono ?_;rintro e w1 ⟨v,rfl,Q⟩;obtain⟨A,c,rfl,_,_,hr⟩:=Q.form;have x:=Q.below;clear Q;go_wp2_with fail;refine(jN _ A c l.line.length t w1 hr zO).mono ?_;rintro e w2 ⟨rfl,rfl⟩;rw[HC.o];clear hr;have af:=ae x (.cells #[I t,.bool b] 393);have P:=h.up af;have c2:=(h.up x).c2;have a1:=(h.up x).B0.lt;have a2:=x.size;obtain⟨H,N,rfl,_,_,_⟩:=P.line.form;go_wp2;have R:aQ (w1.drew.alloc (.cells #[I t,.bool b] 393)) B 393 2 _ l.line.length (eJ l.line):=P.line;have S:Blk (w1.drew.alloc (.cells #[I t,.bool b] 393)) p ty _:=P.B0;have T:=P.line.ne P.B0 hne;have bg:l.line.length<=900:=hn;have U:B<=(w1.drew.alloc (.cells #[I t,.bool b] 393)).heap.size:=by show B<=(w1.alloc _).heap.size;rw[World.size_alloc];omega
   refine pq zR ?_;simp only[zD,zE,Nat.reduceAdd,zG];refine zx 0 ?_;refine zx 1 ?_;refine zx 2 ?_;refine zx 3 ?_;refine zv [4,5] ?_;refine zu (λK hK=>?_) ?_
   ·skip
    go_simp;refine hK _ _ ?_;clear hK;refine zn ?_;refine zr 5 ?_;refine zr 6 ?_;refine zw 7 λK hK=>?_;try simp only[fc]
    refine fx (w:=w1.drew.alloc (.cells #[I t,.bool b] 393)) (n:=l.line.length) (xs:=eJ l.line) (B:=B) (g:=w1.heap.size+1) (v:=.slice H l.line.length N) jt zP (.tmp 49) (.tmp 51) rfl zF R U zS zF rfl zV zO zU ?_;intro v' w' u y X D;obtain⟨d,f,rfl,_,_,_⟩:=u.form;refine hK _ _ ?_;have a:=S.grown y (Pc T);have f2:=a.frozen (q+2);have ak:=(a.cell (q+2)).trans h.s;have F:(Value.slice d (l.line.length+1) f).ownBlock=(Value.slice H l.line.length N).ownBlock\/∀k,(Value.slice d (l.line.length+1) f).ownBlock=some k->w.heap.size<=k:=D.imp id λh k G=>by have:=h k G;have h9:w1.heap.size<=(w1.drew.alloc (.cells #[I t,.bool b] 393)).heap.size:=(by show w1.heap.size<=(w1.alloc _).heap.size;simp);omega
    clear hK;refine zn ?_;refine zx 8 ?_;refine zx 9 ?_;refine zr 10 ?_;refine gF zR ?_;go_wp2
    go_ret2
    have O:ag (λj=>j=p\/(Value.slice H l.line.length N).ownBlock=some j) w _:=dl (w1:=w1.drew.alloc (.cells #[I t,.bool b] 393)) ((ag.B5 (L:=λ_=>False) x).drew.alloc _) y (λ_ h=>h.elim) (λk e=>.inr e);refine⟨by rw[z.o];rfl,_,.slice d (l.line.length+1) f,?_,(bF.refl q 3 cs).B4 (i:=q+2) zO zO (.slice d (l.line.length+1) f),?_,F⟩
    ·rw[z.o];refine⟨a.B4 (q+2) (.slice d (l.line.length+1) f),?_,(bf zO _).trans h.r,(bf zO _).trans h.m,cP h.s _⟩;have hq:=u.D3 (w':=w'.setCell (Y p (q+2)) (.slice d (l.line.length+1) f)) λk G=>Pd w' _ _ k λe=>u.ne a hne (by rw[G,e]);simpa[eJ,mN]using hq
    ·exact O.setCell (p:=Y p (q+2)) (.inl (.inl rfl)) _
   refine zu (λK hK=>?_) ?_
   ·skip
    go_simp;refine hK _ _ ?_;clear hK;refine zn ?_;refine zv [4,6] ?_;refine zu (λK hK=>?_) ?_
    ·skip
     go_simp;refine hK _ _ ?_;clear hK;refine zn ?_;refine zr 6 ?_;refine zw 7 λK hK=>?_;try simp only[fc]
     refine fx (w:=w1.drew.alloc (.cells #[I t,.bool b] 393)) (n:=l.line.length) (xs:=eJ l.line) (B:=B) (g:=w1.heap.size+1) (v:=.slice H l.line.length N) jt zP (.tmp 49) (.tmp 51) rfl zF R U zS zF rfl zV zO zU ?_;intro v' w' u y X D;obtain⟨d,f,rfl,_,_,_⟩:=u.form;refine hK _ _ ?_;have a:=S.grown y (Pc T);have f2:=a.frozen (q+2);have ak:=(a.cell (q+2)).trans h.s;have F:(Value.slice d (l.line.length+1) f).ownBlock=(Value.slice H l.line.length N).ownBlock\/∀k,(Value.slice d (l.line.length+1) f).ownBlock=some k->w.heap.size<=k:=D.imp id λh k G=>by have:=h k G;have h9:w1.heap.size<=(w1.drew.alloc (.cells #[I t,.bool b] 393)).heap.size:=(by show w1.heap.size<=(w1.alloc _).heap.size;simp);omega
     clear hK;refine zn ?_;refine zx 8 ?_;refine zx 9 ?_;refine zr 10 ?_;refine gF zR ?_;go_wp2
     go_ret2
     have O:ag (λj=>j=p\/(Value.slice H l.line.length N).ownBlock=some j) w _:=dl (w1:=w1.drew.alloc (.cells #[I t,.bool b] 393)) ((ag.B5 (L:=λ_=>False) x).drew.alloc _) y (λ_ h=>h.elim) (λk e=>.inr e);refine⟨by rw[z.o];rfl,_,.slice d (l.line.length+1) f,?_,(bF.refl q 3 cs).B4 (i:=q+2) zO zO (.slice d (l.line.length+1) f),?_,F⟩
     ·rw[z.o];refine⟨a.B4 (q+2) (.slice d (l.line.length+1) f),?_,(bf zO _).trans h.r,(bf zO _).trans h.m,cP h.s _⟩;have hq:=u.D3 (w':=w'.setCell (Y p (q+2)) (.slice d (l.line.length+1) f)) λk G=>Pd w' _ _ k λe=>u.ne a hne (by rw[G,e]);simpa[eJ,mN]using hq
     ·exact O.setCell (p:=Y p (q+2)) (.inl (.inl rfl)) _
    refine zu (λK hK=>?_) ?_
    ·skip
     go_simp;refine hK _ _ ?_;clear hK;refine zn ?_;refine zr 4 ?_;refine zw 7 λK hK=>?_;try simp only[fc]
     refine fx (w:=w1.drew.alloc (.cells #[I t,.bool b] 393)) (n:=l.line.length) (xs:=eJ l.line) (B:=B) (g:=w1.heap.size+1) (v:=.slice H l.line.length N) jt zP (.tmp 49) (.tmp 51) rfl zF R U zS zF rfl zV zO zU ?_;intro v' w' u y X D;obtain⟨d,f,rfl,_,_,_⟩:=u.form;refine hK _ _ ?_;have a:=S.grown y (Pc T);have f2:=a.frozen (q+2);have ak:=(a.cell (q+2)).trans h.s;have F:(Value.slice d (l.line.length+1) f).ownBlock=(Value.slice H l.line.length N).ownBlock\/∀k,(Value.slice d (l.line.length+1) f).ownBlock=some k->w.heap.size<=k:=D.imp id λh k G=>by have:=h k G;have h9:w1.heap.size<=(w1.drew.alloc (.cells #[I t,.bool b] 393)).heap.size:=(by show w1.heap.size<=(w1.alloc _).heap.size;simp);omega
     clear hK;refine zn ?_;refine zx 8 ?_;refine zx 9 ?_;refine zr 10 ?_;refine gF zR ?_;go_wp2
     go_ret2
     have O:ag (λj=>j=p\/(Value.slice H l.line.length N).ownBlock=some j) w _:=dl (w1:=w1.drew.alloc (.cells #[I t,.bool b] 393)) ((ag.B5 (L:=λ_=>False) x).drew.alloc _) y (λ_ h=>h.elim) (λk e=>.inr e);refine⟨by rw[z.o];rfl,_,.slice d (l.line.length+1) f,?_,(bF.refl q 3 cs).B4 (i:=q+2) zO zO (.slice d (l.line.length+1) f),?_,F⟩
     ·rw[z.o];refine⟨a.B4 (q+2) (.slice d (l.line.length+1) f),?_,(bf zO _).trans h.r,(bf zO _).trans h.m,cP h.s _⟩;have hq:=u.D3 (w':=w'.setCell (Y p (q+2)) (.slice d (l.line.length+1) f)) λk G=>Pd w' _ _ k λe=>u.ne a hne (by rw[G,e]);simpa[eJ,mN]using hq
     ·exact O.setCell (p:=Y p (q+2)) (.inl (.inl rfl)) _
    exact AllReady.nil
   exact AllReady.nil
end Go.Fw
