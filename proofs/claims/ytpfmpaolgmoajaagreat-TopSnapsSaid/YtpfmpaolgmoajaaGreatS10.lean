/- Lemmas of this claim. Conditions: as each says. -/
import Derived.Test.YtpfmpaolgmoajaaGreatS05
set_option linter.unusedVariables false
set_option linter.unusedSimpArgs false
set_option maxHeartbeats 4000000
set_option maxRecDepth 20000
set_option linter.defProp false
open Go.Proofs.Tryz
namespace Go.Fw
open Go.Proofs Go.RowKit
variable (p:Pl)(l:List Smp)(load:Int)(C0:List Adv)(A:Option Addr)(now:Int)(c n:Nat)(w:World)(b:Int)(A2:Option Addr)
def bi{w:World}{g:Nat}{t:TypeId}{a b c d e f:Value}(h:Blk w g t #[a,b,c,d,e,f]):w.cell? (Y g 0)=some a/\w.cell? (Y g 1)=some b/\w.cell? (Y g 2)=some c/\w.cell? (Y g 3)=some d/\w.cell? (Y g 4)=some e/\w.cell? (Y g 5)=some f:=
 ⟨h.cell 0,h.cell 1,h.cell 2,h.cell 3,h.cell 4,h.cell 5⟩
def iY:Blk (w.alloc (.cells p.arr 51)) w.heap.size 51 #[I p.mn,I p.mx,I p.tg,I p.G9,I p.G5,I p.hold]/\M w (w.alloc (.cells p.arr 51)):=⟨Blk.A8 w _ _ rfl,ae (Oy _ _) _⟩
def jK(h:p.right=true):C 85 #[.agg #[I p.mn,I p.mx,I p.tg,I p.G9,I p.G5,I p.hold]] w λx w'=>x=.returned (I 0)/\M w w':=
 wN _ _ _ _ _ _ w ((js p).1 h)
def Ez(a b:Int)(w:World)(ha:0<=a/\a<=9223372036854775807)(hb:1<=b/\b<=9223372036854775807):
  C 169 #[I a,I b] w λe w'=>e=.returned (I (lL a b))/\w=w':=by
 have c:=Iv ha hb.1;have d:Hid (lL a b=if 0<a%b then a/b+1 else a/b):=Z1 rfl;obtain⟨g,j⟩:=ha;obtain⟨k,l⟩:=hb;have i:¬b<1:=zO;have m:=Int.ediv_nonneg g zO;by_cases h:0<a%b
 ·rw[d.o,OB h]at c;have f:Hid (lL a b=a/b+1):=Z1 (by rw[d.o,OB h]);obtain⟨n,p⟩:=c
  go_in
  go_wp2;go_ret;exact⟨aC f.o.symm,rfl⟩
 ·have f:Hid (lL a b=a/b):=Z1 (by rw[d.o,Oz h]);clear c
  go_in
  go_wp2;go_ret;exact⟨aC f.o.symm,rfl⟩
def Cq(n lo hi:Int)(w:World):
  C 136 #[I n,I lo,I hi] w λe w'=>e=.returned (I (iX n lo hi))/\w=w':=by
 have d:Hid (iX n lo hi=if n<lo\/hi<lo then lo else if hi<n then hi else n):=Z1 rfl;by_cases b:n<lo
 ·have i:decide (n<lo)=true:=by simpa using b
  have a:Hid (iX n lo hi=lo):=Z1 (by rw[d.o,OB (.inl b)]);clear b
  go_in
  go_wp2;go_ret;exact⟨aC a.o.symm,rfl⟩
 ·have i:decide (n<lo)=false:=by simpa using b
  by_cases c:hi<lo
  ·have j:decide (hi<lo)=true:=by simpa using c
   have a:Hid (iX n lo hi=lo):=Z1 (by rw[d.o,OB (.inr c)]);clear b c
   go_in
   go_wp2;go_ret;exact⟨aC a.o.symm,rfl⟩
  ·have j:decide (hi<lo)=false:=by simpa using c
   have f:Hid (iX n lo hi=if hi<n then hi else n):=Z1 (by rw[d.o,Oz (by rintro(h|h)<;>contradiction)]);clear b c;by_cases g:hi<n
   ·have a:Hid (iX n lo hi=hi):=Z1 (by rw[f.o,OB g])
    go_in
    go_wp2;go_ret;exact⟨aC a.o.symm,rfl⟩
   ·have a:Hid (iX n lo hi=n):=Z1 (by rw[f.o,Oz g])
    go_in
    go_wp2;go_ret;exact⟨aC a.o.symm,rfl⟩
def uD(hp:p.right=true)(ho:p.ok)(hl:aq load):
  C 132 #[p.val,I load] w (J (I (kL p load)) w):=by
 have j:=Z1 (λW=>jK p W hp);have k:=uA hp ho;have g:=Z1 (λW=>Ez (kn load) p.tg W (Bl hl) ⟨k.2.2.2.2.1,ho.2.2.1.2⟩);have b:=Z1 (iY p w);have h:Hid (kL p load=lL (kn load) p.tg):=Z1 rfl;obtain⟨v,x,y,z,A,B⟩:=bi b.o.1;obtain⟨D,F⟩:=hl;have i:Hid (kn load=if load<0 then 0 else load):=Z1 rfl;clear hp ho k;unfold Pl.val Pl.arr at*;by_cases f:load<0
 ·have d:=i.o;rw[OB f]at d;rw[d]at g h;clear d
  go_in
  go_wp2_with (first|(go_at_call 85;refine(j.o _).mono ?_;rintro e l ⟨rfl,a⟩;have c:=Z2 a (b.o.1.later a);clear a;obtain⟨m,n,q,r,s,t⟩:=bi c.o.2)|(go_at_call 169;refine(g.o _).mono ?_;rintro e u ⟨rfl,rfl⟩))
  go_ret;exact⟨aC h.o.symm,af b.o.2 c.o.1⟩
 ·have d:=i.o;rw[Oz f]at d;rw[d]at g h;clear d
  go_in
  go_wp2_with (first|(go_at_call 85;refine(j.o _).mono ?_;rintro e l ⟨rfl,a⟩;have c:=Z2 a (b.o.1.later a);clear a;obtain⟨m,n,q,r,s,t⟩:=bi c.o.2)|(go_at_call 169;refine(g.o _).mono ?_;rintro e u ⟨rfl,rfl⟩))
  go_ret;exact⟨aC h.o.symm,af b.o.2 c.o.1⟩
def oi(n:Int)(w:World)(hp:p.right=true):
  C 89 #[p.val,I n] w (J (I (eW p n)) w):=by
 have d:=Z1 (λW=>jK p W hp);have f:=Z1 (λW=>Cq n p.mn p.mx W);have a:=Z1 (iY p w);have g:Hid (eW p n=iX n p.mn p.mx):=Z1 rfl;obtain⟨h,i,j,k,l,m⟩:=bi a.o.1;clear hp;unfold Pl.val Pl.arr at*
 go_in
 go_wp2_with (first|(go_at_call 85;refine(d.o _).mono ?_;rintro e q ⟨rfl,b⟩;have c:=Z2 b (a.o.1.later b);clear b;obtain⟨r,s,t,u,v,x⟩:=bi c.o.2)|(go_at_call 136;refine(f.o _).mono ?_;rintro e y ⟨rfl,rfl⟩))
 go_ret;exact⟨aC g.o.symm,af a.o.2 c.o.1⟩
def qL(x y z:K2)(w:World)(hx:x.ok)(hy:y.ok)(hz:z.ok):
  Calls prog 171 #[x.val,y.val,z.val] w λe w'=>e=.returned (.bool (gW x y z))/\Below w.heap.size w w':=by
 have n:=Z1 (λW=>qY y z W hy hz);have u:=Z1 (λW=>Ht x (fk y z).1 W);have p:Hid (gW x y z=(!(fk y z).2||decide (bM x (fk y z).1<=0))):=Z1 rfl;generalize fk y z=s at*;obtain⟨⟨k,l⟩,v⟩:=s;obtain⟨c,d⟩:=x;obtain⟨f,g⟩:=y;obtain⟨h,i⟩:=z;clear hx hy hz;have q:=Blk.A8 w 279 #[.int .u64 c,.int .u64 d] rfl;have j:=Z2 ((q.alloc (.cells #[.int .u64 f,.int .u64 g] 279)).alloc (.cells #[.int .u64 h,.int .u64 i] 279)) (ae (ae (ae (Oy w.heap.size w) (.cells #[.int .u64 c,.int .u64 d] 279)) (.cells #[.int .u64 f,.int .u64 g] 279)) (.cells #[.int .u64 h,.int .u64 i] 279));clear q;unfold K2.val K2.arr at*;simp only at*
 cases v with
 |false=>
  have m:Hid (gW ⟨c,d⟩ ⟨f,g⟩ ⟨h,i⟩=true):=Z1 (by rw[p.o];rfl)
  go_in
  go_wp2_with (go_at_call 197;refine(n.o _).mono ?_;rintro e A ⟨rfl,a⟩;have b:=Z2 a (j.o.1.later a);clear a)
  go_ret;exact⟨cN m.o.symm,ae (af j.o.2 b.o.1) _⟩
 |true=>
  have m:Hid (gW ⟨c,d⟩ ⟨f,g⟩ ⟨h,i⟩=decide (bM ⟨c,d⟩ ⟨k,l⟩<=0)):=Z1 (by rw[p.o];rfl);generalize bM ⟨c,d⟩ ⟨k,l⟩=B at*
  go_in
  go_wp2_with (first|(go_at_call 197;refine(n.o _).mono ?_;rintro e A ⟨rfl,a⟩;have b:=Z2 a (j.o.1.later a);clear a;have r:=b.o.2.alloc (.cells #[.int .u64 k,.int .u64 l] 279);obtain⟨D,F⟩:=ao r;clear r)|(go_at_call 201;refine(u.o _).mono ?_;rintro e G ⟨rfl,t⟩))
  go_ret;exact⟨cN m.o.symm,af (ae (af j.o.2 b.o.1) _) t⟩
def vh(hp:p.right=true)(ho:p.ok)(hl:aq load)(hn:aq now):
  C 133 #[p.val,I load,I now] w (J (.bool (jF p load now)) w):=by
 have HK:=Z1 (λW=>jK p W hp);obtain⟨r1,r2,r3,r4,r5,r6,r7,r8,r9⟩:=uA hp ho;have d:=Z1 (iY p w);have HN:Hid (jF p load now=if now<1\/1073741824<now then false else qc p load now):=Z1 rfl;have bv:=ho.2.2.1.2;clear hp;have a1:p.val=.agg #[I p.mn,I p.mx,I p.tg,I p.G9,I p.G5,I p.hold]:=rfl;rw[a1];clear a1;obtain⟨n0,n1⟩:=hn;by_cases h1:now<1
 ·have U:Hid (jF p load now=false):=Z1 (by rw[HN.o,OB (.inl h1)]);have d1:decide (now<1)=true:=by simpa using h1
  clear h1;obtain⟨b0,b1,b2,b3,b4,b5⟩:=bi d.o.1;unfold Pl.arr at*
  go_in
  go_wp2_with (go_at_call 85;refine(HK.o _).mono ?_;rintro e w1 ⟨rfl,a⟩)
  go_ret;exact⟨cN U.o.symm,af d.o.2 a⟩
 by_cases h2:1073741824<now
 ·have U:Hid (jF p load now=false):=Z1 (by rw[HN.o,OB (.inr h2)]);have d1:decide (now<1)=false:=by simpa using h1
  have d2:decide (1073741824<now)=true:=by simpa using h2
  clear h1 h2;obtain⟨b0,b1,b2,b3,b4,b5⟩:=bi d.o.1;unfold Pl.arr at*
  go_in
  go_wp2_with (go_at_call 85;refine(HK.o _).mono ?_;rintro e w1 ⟨rfl,a⟩)
  go_ret;exact⟨cN U.o.symm,af d.o.2 a⟩
 have HY:Hid (jF p load now=qc p load now):=Z1 (by rw[HN.o,Oz zO]);have d1:decide (now<1)=false:=by simpa using h1
 have d2:decide (1073741824<now)=false:=by simpa using h2
 have n2:1<=now:=zO;have n3:now<=1073741824:=zO;clear h1 h2 HN;have hB:qc p load now=((ni load==gX p now)||(gW (ni load) (gX p now) (li p now)&&gW (gX p now) (ni load) (li p now))):=rfl;obtain⟨l0,l1⟩:=Bl hl;have X:=Z1 (λW=>qX (kn load) 1000 W ⟨l0,zO⟩ ⟨zP,zP⟩);have ag:=Z1 (λW=>qX (now*1000) p.tg W ⟨zO,zO⟩ ⟨zO,zO⟩);have ah:=Z1 (λW=>qX (wrW (now*p.G9)) p.tg W (jA _) ⟨zO,zO⟩);have a2:=Z1 (λW=>qL (ni load) (gX p now) (li p now) W (lU _ _) (lU _ _) (lU _ _));have a3:=Z1 (λW=>qL (gX p now) (ni load) (li p now) W (lU _ _) (lU _ _) (lU _ _));have e1:me (kn load) 1000=ni load:=rfl;have e2:me (now*1000) p.tg=gX p now:=rfl;have e3:me (wrW (now*p.G9)) p.tg=li p now:=rfl;have e4:IntKind.u64.wrap (now*p.G9)=wrW (now*p.G9):=rfl;have a4:kn load=if load<0 then 0 else load:=rfl
 rw[e1]at X;rw[e2]at ag;rw[e3]at ah;generalize ni load=x at*;generalize gX p now=y at*;generalize li p now=z at*;generalize wrW (now*p.G9)=sk at*;have HB:=Z1 hB;generalize gW x y z=q1 at*;generalize gW y x z=q2 at*;obtain⟨S,T⟩:=x;obtain⟨G,H⟩:=y;obtain⟨Q,R⟩:=z;obtain⟨qe,a5,bw⟩:∃q:Bool,(K2.mk S T==K2.mk G H)=q/\∀w,(binOp .eql 279 (.agg #[E S,E T]) (.agg #[E G,E H])).run prog w=.ok (.bool q) w:=by
  refine⟨_,rfl,λw=>?_⟩;rw[Bc];congr 2;rw[Bool.eq_iff_iff];simp
 have HQ:=Z1 a5;have bo:Hid ((load<0/\kn load=0)\/(¬load<0/\kn load=load)):=Z1 (by
  rw[a4];by_cases h:load<0
  ·exact .inl ⟨h,OB h⟩
  ·exact .inr ⟨h,Oz h⟩)
 have bx:=hl.2;clear hB a5 e1 e2 e3 a4 hl;have bz:=Int.mul_nonneg zO zO;unfold K2.val K2.arr Pl.arr at*;simp only at*;obtain⟨b0,b1,b2,b3,b4,b5⟩:=bi d.o.1
 rcases bo.o with⟨a8,au⟩|⟨a8,au⟩
 all_goals
  rw[au]at X;clear au
  cases qe with
  |true=>
   have U:Hid (qc p load now=true):=Z1 (by rw[HB.o,HQ.o];rfl)
   go_in
   go_wp2_with (first|(go_at_call 85;refine(HK.o _).mono ?_;rintro e w1 ⟨rfl,a⟩;have f:=Z2 (af d.o.2 a) (d.o.1.later a);clear a;obtain⟨g,i,j,k,l,m⟩:=bi f.o.2)|(first|(go_at_call 170;(with_reducible refine(X.o _).mono ?_);rintro e w2 ⟨rfl,n⟩;have L:=Z2 (af f.o.1 n) (f.o.2.later n);clear n g i j k l m;have N:=Blk.A8 w2 279 #[E S,E T] rfl;have r:=L.o.2.alloc (.cells #[E S,E T] 279);have s:=Z3 N r (ae L.o.1 (.cells #[E S,E T] 279));obtain⟨g,i,j,k,l,m⟩:=bi r;clear N r)|(go_at_call 170;(with_reducible refine(ag.o _).mono ?_);rintro e w3 ⟨rfl,b⟩;have O:=(s.o.1.later b).alloc (.cells #[E G,E H] 279);have P:=Blk.A8 w3 279 #[E G,E H] rfl;have t:=(s.o.2.1.later b).alloc (.cells #[E G,E H] 279);have u:=Z4 O P t (ae (af s.o.2.2 b) (.cells #[E G,E H] 279));clear b g i j k l m;obtain⟨g,i,j,k,l,m⟩:=bi t;clear O P t)|(go_at_call 170;(with_reducible refine(ah.o _).mono ?_);rintro e w4 ⟨rfl,c⟩;have v:=(u.o.1.later c).alloc (.cells #[E Q,E R] 279);have A:=(u.o.2.1.later c).alloc (.cells #[E Q,E R] 279);have B:=Blk.A8 w4 279 #[E Q,E R] rfl;have D:=Z4 v A B (ae (af u.o.2.2.2 c) (.cells #[E Q,E R] 279));clear c g i j k l m;obtain⟨k0,k1⟩:=ao v;obtain⟨k2,k3⟩:=ao A;obtain⟨k4,k5⟩:=ao B;clear v A B)))
   go_ret;exact⟨cN (by rw[HY.o];exact U.o.symm),D.o.2.2.2⟩
  |false=>
   have U:Hid (qc p load now=(q1&&q2)):=Z1 (by rw[HB.o,HQ.o];rfl)
   cases q1 with
   |false=>
    go_in
    go_wp2_with (first|(go_at_call 85;refine(HK.o _).mono ?_;rintro e w1 ⟨rfl,a⟩;have f:=Z2 (af d.o.2 a) (d.o.1.later a);clear a;obtain⟨g,i,j,k,l,m⟩:=bi f.o.2)|(first|(go_at_call 170;(with_reducible refine(X.o _).mono ?_);rintro e w2 ⟨rfl,n⟩;have L:=Z2 (af f.o.1 n) (f.o.2.later n);clear n g i j k l m;have N:=Blk.A8 w2 279 #[E S,E T] rfl;have r:=L.o.2.alloc (.cells #[E S,E T] 279);have s:=Z3 N r (ae L.o.1 (.cells #[E S,E T] 279));obtain⟨g,i,j,k,l,m⟩:=bi r;clear N r)|(go_at_call 170;(with_reducible refine(ag.o _).mono ?_);rintro e w3 ⟨rfl,b⟩;have O:=(s.o.1.later b).alloc (.cells #[E G,E H] 279);have P:=Blk.A8 w3 279 #[E G,E H] rfl;have t:=(s.o.2.1.later b).alloc (.cells #[E G,E H] 279);have u:=Z4 O P t (ae (af s.o.2.2 b) (.cells #[E G,E H] 279));clear b g i j k l m;obtain⟨g,i,j,k,l,m⟩:=bi t;clear O P t)|(go_at_call 170;(with_reducible refine(ah.o _).mono ?_);rintro e w4 ⟨rfl,c⟩;have v:=(u.o.1.later c).alloc (.cells #[E Q,E R] 279);have A:=(u.o.2.1.later c).alloc (.cells #[E Q,E R] 279);have B:=Blk.A8 w4 279 #[E Q,E R] rfl;have D:=Z4 v A B (ae (af u.o.2.2.2 c) (.cells #[E Q,E R] 279));clear c g i j k l m;obtain⟨k0,k1⟩:=ao v;obtain⟨k2,k3⟩:=ao A;obtain⟨k4,k5⟩:=ao B;clear v A B))|(go_at_call 171;(with_reducible refine(a2.o _).mono ?_);rintro e w5 ⟨rfl,F⟩;have aa:=D.o.1.later F;have ab:=D.o.2.1.later F;have ac:=D.o.2.2.1.later F;have ay:=Z1 (af D.o.2.2.2 F);clear F k0 k1 k2 k3 k4 k5;obtain⟨k0,k1⟩:=ao aa;obtain⟨k2,k3⟩:=ao ab;obtain⟨k4,k5⟩:=ao ac;clear aa ab ac)|(go_at_call 171;(with_reducible refine(a3.o _).mono ?_);rintro e w6 ⟨rfl,a6⟩))
    go_ret;exact⟨cN (by rw[HY.o,U.o];rfl),ay.o⟩
   |true=>
    go_in
    go_wp2_with (first|(go_at_call 85;refine(HK.o _).mono ?_;rintro e w1 ⟨rfl,a⟩;have f:=Z2 (af d.o.2 a) (d.o.1.later a);clear a;obtain⟨g,i,j,k,l,m⟩:=bi f.o.2)|(first|(go_at_call 170;(with_reducible refine(X.o _).mono ?_);rintro e w2 ⟨rfl,n⟩;have L:=Z2 (af f.o.1 n) (f.o.2.later n);clear n g i j k l m;have N:=Blk.A8 w2 279 #[E S,E T] rfl;have r:=L.o.2.alloc (.cells #[E S,E T] 279);have s:=Z3 N r (ae L.o.1 (.cells #[E S,E T] 279));obtain⟨g,i,j,k,l,m⟩:=bi r;clear N r)|(go_at_call 170;(with_reducible refine(ag.o _).mono ?_);rintro e w3 ⟨rfl,b⟩;have O:=(s.o.1.later b).alloc (.cells #[E G,E H] 279);have P:=Blk.A8 w3 279 #[E G,E H] rfl;have t:=(s.o.2.1.later b).alloc (.cells #[E G,E H] 279);have u:=Z4 O P t (ae (af s.o.2.2 b) (.cells #[E G,E H] 279));clear b g i j k l m;obtain⟨g,i,j,k,l,m⟩:=bi t;clear O P t)|(go_at_call 170;(with_reducible refine(ah.o _).mono ?_);rintro e w4 ⟨rfl,c⟩;have v:=(u.o.1.later c).alloc (.cells #[E Q,E R] 279);have A:=(u.o.2.1.later c).alloc (.cells #[E Q,E R] 279);have B:=Blk.A8 w4 279 #[E Q,E R] rfl;have D:=Z4 v A B (ae (af u.o.2.2.2 c) (.cells #[E Q,E R] 279));clear c g i j k l m;obtain⟨k0,k1⟩:=ao v;obtain⟨k2,k3⟩:=ao A;obtain⟨k4,k5⟩:=ao B;clear v A B))|(go_at_call 171;(with_reducible refine(a2.o _).mono ?_);rintro e w5 ⟨rfl,F⟩;have aa:=D.o.1.later F;have ab:=D.o.2.1.later F;have ac:=D.o.2.2.1.later F;have ay:=Z1 (af D.o.2.2.2 F);clear F k0 k1 k2 k3 k4 k5;obtain⟨k0,k1⟩:=ao aa;obtain⟨k2,k3⟩:=ao ab;obtain⟨k4,k5⟩:=ao ac;clear aa ab ac)|(go_at_call 171;(with_reducible refine(a3.o _).mono ?_);rintro e w6 ⟨rfl,a6⟩))
    go_ret;exact⟨cN (by rw[HY.o,U.o];rfl),af ay.o a6⟩
def Js(hp:p.right=true)(ho:p.ok)(hl:aq load)(hn:aq now):
  C 88 #[p.val,I load,I now] w (J (I (kq p load now)) w):=by
 have u:=Z1 (λW=>vh p load now W hp ho hl hn);have z:=Z1 (λW=>uD p load W hp ho hl);have v:=Z1 (λW=>oi p now W hp);have x:=Z1 (λW=>oi p (kL p load) W hp);have y:Hid (kq p load now=if jF p load now=true then eW p now else eW p (kL p load)):=Z1 rfl;have c:=Z1 (iY p w);obtain⟨g,h,i,j,k,l⟩:=bi c.o.1;clear hp ho hl hn;unfold Pl.val Pl.arr at*;generalize jF p load now=q at*
 cases q with
 |true=>
  have t:Hid (kq p load now=eW p now):=Z1 (by rw[y.o];rfl)
  go_in
  go_wp2_with (first|(go_at_call 133;(with_reducible refine(u.o _).mono ?_);rintro e f ⟨rfl,a⟩;have b:=Z2 (af c.o.2 a) (c.o.1.later a);clear a g h i j k l;obtain⟨g,h,i,j,k,l⟩:=bi b.o.2)|(go_at_call 89;(with_reducible refine(v.o _).mono ?_);rintro e A ⟨rfl,d⟩))
  go_ret;exact⟨aC t.o.symm,af b.o.1 d⟩
 |false=>
  have t:Hid (kq p load now=eW p (kL p load)):=Z1 (by rw[y.o];rfl)
  go_in
  go_wp2_with (go_at_call 133;(with_reducible refine(u.o _).mono ?_);rintro e f ⟨rfl,a⟩;have b:=Z2 (af c.o.2 a) (c.o.1.later a);clear a g h i j k l)
  have m:M f f.drew:=(Oy _ _).drew;refine zH (S:=λW=>M f W) m ?_;refine zq 0 ?_ (λW hW=>?_) ?_;rotate_left
  ·obtain⟨g,h,i,j,k,l⟩:=bi (b.o.2.later hW);exact zf
  refine zq 1 ?_ (λW hW=>?_) ?_;rotate_left
  ·obtain⟨g,h,i,j,k,l⟩:=bi (b.o.2.later hW);exact zf
  refine zL ?_;refine zo 3 λK hK=>?_;go_simp
  (with_reducible refine(z.o _).mono ?_)
  rintro B A ⟨rfl,d⟩;have n:=af m d;refine hK _ _ n ?_;clear hK d;refine zn ?_;refine zo 4 λK hK=>?_;go_simp
  (with_reducible refine(x.o _).mono ?_)
  rintro D F ⟨rfl,r⟩;have s:=af n r;refine hK _ _ s ?_;clear hK r;refine zn ?_;refine zL ?_;go_wp2;go_ret;exact⟨aC t.o.symm,af b.o.1 s⟩
def eY(b:Int)(l:List Smp):Int:=l.foldl (λb s=>if b<s.tick then s.tick else b) b
def sM(x:Smp)(r:List Smp):dg (x::r)=eY x.tick (x::r):=by
 show r.foldl _ x.tick=(x::r).foldl _ x.tick;rw[Qz,Oz zO]
def AA(l:List Smp)(s:Smp):eY b (l++[s])=if eY b l<s.tick then s.tick else eY b l:=by
 unfold eY;rw[Qe];rfl
def FP:∀b,aq b->fo l->aq (eY b l):=by
 induction l with
 |nil=>intro b h _;exact h
 |cons s r ih=>
  intro b h a;refine ih _ ?_ (λx c=>a x (by simp[c]))
  dsimp only
  split
  ·exact(a s zS).1
  ·exact h
def sN{l:List Smp}(h:fo l):aq (dg l):=by
 cases l with
 |nil=>exact aD
 |cons x r=>rw[sM];exact FP _ _ (h x zS).1 h
def Ma{p:Pl}{l:List Adv}(hp:p.ok)(h:∀a∈l,a.ok):aq (jG p l):=by
 unfold jG;split
 ·exact hp.1
 ·rename_i a b;exact(h a (List.mem_of_getLast? b)).V1
def qQ(hr:an w w.heap.size 2 A n (smps l))(hn:n<=100000):
  C 131 #[.slice A n c] w λe w'=>e=.returned (.tuple #[I (dg l),.bool (decide (l≠[]))])/\M w w':=by
 have a:=iB hr;by_cases s:n=0
 ·have d:l=[]:=OU zO;have f:Hid (dg l=0/\decide (l≠[])=false):=Z1 (by subst d;exact⟨rfl,rfl⟩);have L:((n:Int)==0)=true:=by rw[s];rfl
  clear a s d
  go_in
  go_wp2
  go_ret2
  exact⟨by rw[f.o.1,f.o.2];rfl,Oy _ _⟩
 ·have L:((n:Int)==0)=false:=zT;have S:0<n:=zO;obtain⟨x,r,d⟩:∃x r,l=x::r:=by
   cases l with
   |nil=>simp at a;omega
   |cons x r=>exact⟨x,r,rfl⟩
  have f:Hid (dg l=eY x.tick l/\decide (l≠[])=true):=Z1 (by subst d;exact⟨sM x r,rfl⟩);obtain⟨b,o,rfl,T,u,N⟩:=il (k:=0) hr zO;have p:l[0]'(by omega)=x:=by subst d;rfl
  rw[p]at u;have z:=Z1 a;have O:=Z1 hr;simp only[Rz,Qt]at u;clear a s d p N hr
  go_in
  go_wp2;go_loopw [4,16] (λv i wr=>∃(k:Nat),k<=n/\i=I k/\v=I (eY x.tick (l.take k))/\Hid (M w wr)) (λ_ i _=>n-(intOf i).toNat)
  case atStart=>exact⟨0,OK _,rfl,rfl,Z1 (Oy _ _)⟩
  case round=>
   obtain⟨k,X,rfl,rfl,h⟩:=hrel;by_cases U:k<n
   ·have q:k<l.length:=by have:=z.o;omega
    obtain⟨b2,o2,t,_,P,Q⟩:=il (O.o.below h.o) q;injection t with t;injection t with B D;subst B D;have F:=OG q;generalize l[k]=y at*;obtain⟨j,y1⟩:=y;simp only at P Q;have G:Hid (eY x.tick (l.take (k+1))=if eY x.tick (l.take k)<j then j else eY x.tick (l.take k)):=Z1 (by rw[F,AA]);clear F;generalize eY x.tick (l.take k)=m at*;by_cases H:m<j
    ·have g:Hid (eY x.tick (l.take (k+1))=j):=Z1 (by rw[G.o,OB H]);go_wp2;go_roundw
     case rel=>exact⟨k+1,zO,by go_num,by rw[g.o],Z1 (ae h.o _)⟩
     case measure=>simp[intOf];omega
    ·have g:Hid (eY x.tick (l.take (k+1))=m):=Z1 (by rw[G.o,Oz H]);go_wp2;go_roundw
     case rel=>exact⟨k+1,zO,by go_num,by rw[g.o],Z1 (ae h.o _)⟩
     case measure=>simp[intOf];omega
   ·obtain rfl:k=n:=zO;have R:Hid (eY x.tick (l.take k)=eY x.tick l):=Z1 (by rw[OT (by have:=z.o;omega)]);go_wp2
    go_ret2
    exact⟨by rw[f.o.1,f.o.2];rw[R.o];rfl,h.o⟩
def Jt(l:List Adv)(A:Option Addr)(c n:Nat)(w:World)(hr:an w w.heap.size 5 A n (advs l))(hn:n<=100000):
  C 86 #[p.val,.slice A n c] w (J (I (jG p l)) w):=by
 have d:=tB hr;have a:=Z1 (iY p w);obtain⟨x,z,B,D,F,G⟩:=bi a.o.1;have h:p.val=.agg p.arr:=rfl;rw[h];clear h;by_cases i:n=0
 ·have g:Hid (jG p l=p.mn):=Z1 (by rw[OU (l:=l) zO];rfl);have j:((n:Int)==0)=true:=by rw[i];rfl
  clear d i;unfold Pl.arr at*
  go_in
  go_wp2;go_ret;exact⟨aC g.o.symm,a.o.2⟩
 ·have j:((n:Int)==0)=false:=zT;have f:n-1<l.length:=zO;obtain⟨b,o,rfl,v,k,q,r,s,t⟩:=sd (hr.up a.o.2) f;have g:Hid (jG p l=l[n-1].V1):=Z1 (by unfold jG;rw[Ry,<-d,OL f]);obtain⟨m,rfl⟩:∃m,n=m+1:=⟨n-1,zO⟩;simp only[RF]at s g f;have u:((m+1:Nat):Int)-1=(m:Int):=zO;generalize l[m].V1=y at*;clear d i k q r t hr;have H:m<=100000:=zO;unfold Pl.arr at*
  go_in
  go_wp2;go_ret;exact⟨aC g.o.symm,a.o.2⟩
def Ju(held:Bool)(op now then_:Int)(w:World):
  C 134 #[p.val,.bool held,I op,I now,I then_] w (J (I (pw p held op now then_)) w):=by
 have a:=Z1 (iY p w);obtain⟨d,f,g,h,i,j⟩:=bi a.o.1;have c:p.val=.agg p.arr:=rfl;rw[c];clear c;have b:Hid (pw p held op now then_=if held=true then 4 else if p.mx<op then 6 else if op<p.mn then 5 else if now<then_ then 2 else if then_<now then 3 else 1):=Z1 rfl;unfold Pl.arr at*
 cases held with
 |true=>
  go_in
  go_wp2;go_ret;exact⟨aC (by rw[b.o];rfl),a.o.2⟩
 |false=>
  by_cases k:p.mx<op
  ·go_in
   go_wp2;go_ret;exact⟨aC (by rw[b.o,Oz zP,OB zO]),a.o.2⟩
  by_cases l:op<p.mn
  ·go_in
   go_wp2;go_ret;exact⟨aC (by rw[b.o,Oz zP,Oz zO,OB zO]),a.o.2⟩
  by_cases m:now<then_
  ·go_in
   go_wp2;go_ret;exact⟨aC (by rw[b.o,Oz zP,Oz zO,Oz zO,OB zO]),a.o.2⟩
  by_cases n:then_<now
  ·go_in
   go_wp2;go_ret;exact⟨aC (by rw[b.o,Oz zP,Oz zO,Oz zO,Oz zO,OB zO]),a.o.2⟩
  ·go_in
   go_wp2;go_ret;exact⟨aC (by rw[b.o,Oz zP,Oz zO,Oz zO,Oz zO,Oz zO]),a.o.2⟩
def Np{l:List Smp}(h:fo l)(hn:l.length<=100000)(a b:Int):aq (atF l a b).F3:=(wD h hn a b).F3
structure wg(p:Pl)(l:List Smp)(C0:List Adv)(A A2:Option Addr)(n n2:Nat)(w:World):Prop where
 ok:p.ok
 rl:an w w.heap.size 2 A n (smps l)
 nl:n<=100000
 S6:fo l
 rp:an w w.heap.size 5 A2 n2 (advs C0)
 np:n2<=100000
 S7:∀a∈C0,a.ok
def gu:cU prog 62 5:=⟨zR,zR,zR⟩
def Nq(n c n2 c2:Nat)(w:World)(h:wg p l C0 A A2 n n2 w)(he:fW p l≠0):
  C 84 #[p.val,.slice A n c,.slice A2 n2 c2] w (J (.tuple #[.agg #[I 0,I 0,I 0,I 0,I 0],I (fW p l)]) w):=by
 have i:=Z1 (λW=>uz p.mn p.mx p.tg p.G9 p.G5 p.hold W);have q:p.val=.agg p.arr:=rfl;have d:Hid (Blk ((w.alloc (.cells p.arr 51)).alloc (.cells #[I 0,I 0,I 0,I 0,I 0] 62)) w.heap.size 51 #[I p.mn,I p.mx,I p.tg,I p.G9,I p.G5,I p.hold]/\
   Blk ((w.alloc (.cells p.arr 51)).alloc (.cells #[I 0,I 0,I 0,I 0,I 0] 62)) (w.heap.size+1) 62 #[I 0,I 0,I 0,I 0,I 0]/\M w ((w.alloc (.cells p.arr 51)).alloc (.cells #[I 0,I 0,I 0,I 0,I 0] 62))):=
  Z1 ⟨(iY p w).1.alloc _,Blk.A8 _ _ _ zS,ae (iY p w).2 _⟩
 obtain⟨S,T,U,X,b4,b5⟩:=bi d.o.1;rw[q];clear q;by_cases g:p.right=true
 ·have u:l=[]:=by
   rcases Decidable.em (l=[])with h|h
   ·exact h
   ·exact absurd (by unfold fW;rw[g,Oz zP,Oz h]) he
  have v:Hid (fW p l=5):=Z1 (by unfold fW;rw[g,Oz zP,OB u]);have f:tK p.mn p.mx p.tg p.G9 p.G5 p.hold=0:=OB ((js p).1 g);rw[f]at i;have x:=Z1 (λW (z:M w W)=>qQ l A c n W (h.rl.up z) h.nl);have r:decide (l≠[])=false:=by simp[u]
  rw[r]at x;clear g u f r he h;unfold Pl.arr at*
  go_in
  go_wp2_with (first|(go_at_call 85;(with_reducible refine(i.o _).mono ?_);rintro e w1 ⟨rfl,a⟩;have s:=Z1 (af d.o.2.2 a);have y:=Z1 (d.o.2.1.later a);clear a)|(go_at_call 131;(with_reducible refine(x.o _ s.o).mono ?_);rintro e B ⟨rfl,j⟩;have b:=Z2 (af s.o j) (y.o.later j);obtain⟨⟨D,F,G,H,L⟩,N,O,P,Q,R⟩:=eO b.o.2;clear j))
  obtain⟨k,m⟩:=km b.o.2 (I 0) (I 0) (I 0) (I 0) (I 0);rw[v.o];exact OH (cx gu rfl k rfl _ rfl) rfl ⟨rfl,m.below b.o.1 zO⟩
 ·have t:p.right=false:=by simpa using g
  have v:Hid (fW p l=7):=Z1 (by unfold fW;rw[t,OB rfl]);have f:tK p.mn p.mx p.tg p.G9 p.G5 p.hold=7:=Oz (λh=>g ((js p).2 h));rw[f]at i;clear g t f he h;unfold Pl.arr at*
  go_in
  go_wp2_with (go_at_call 85;(with_reducible refine(i.o _).mono ?_);rintro e B ⟨rfl,a⟩;have b:=Z2 (af d.o.2.2 a) (d.o.2.1.later a);obtain⟨⟨D,F,G,H,L⟩,N,O,P,Q,R⟩:=eO b.o.2;clear a)
  obtain⟨k,m⟩:=km b.o.2 (I 0) (I 0) (I 0) (I 0) (I 0);rw[v.o];exact OH (cx gu rfl k rfl _ rfl) rfl ⟨rfl,m.below b.o.1 zO⟩
structure DW(p:Pl)(w W:World):Prop where
 D8:Blk W w.heap.size 51 #[I p.mn,I p.mx,I p.tg,I p.G9,I p.G5,I p.hold]
 res:Blk W (w.heap.size+1) 62 #[I 0,I 0,I 0,I 0,I 0]
 below:M w W
def DW.up{p:Pl}{w W W':World}(h:DW p w W)(hb:M W W'):DW p w W':=⟨h.D8.later hb,h.res.later hb,af h.below hb⟩
def DW.start:DW p w ((w.alloc (.cells p.arr 51)).alloc (.cells #[I 0,I 0,I 0,I 0,I 0] 62)):=
 ⟨(iY p w).1.alloc _,Blk.A8 _ _ _ zS,ae (iY p w).2 _⟩
def CY(a b c d e:Int)(w:World):(Instr.field 75 (.agg #[I a,I b,I c,I d,I e]) 4).run prog w=.ok (I e) w:=zR
def Mb(n c n2 c2:Nat)(w:World)(h:wg p l C0 A A2 n n2 w)(he:fW p l=0):
  C 84 #[p.val,.slice A n c,.slice A2 n2 c2] w (J (.tuple #[.agg (od p l C0).arr,I 0]) w):=by
 have H:p.right=true:=by
  unfold fW at he;by_cases U:p.right=false
  ·rw[OB U]at he;omega
  ·simpa using U
 have hl:l≠[]:=by
  unfold fW at he;rw[Oz (by rw[H];decide)]at he;intro U;rw[OB U]at he;omega
 have a2:=Z1 (λW=>jK p W H);have al:=Z1 (DW.start p w);have HH:=Z1 h;have ht:=sN h.S6;have X:l.length<=100000:=by have:=iB h.rl;have:=h.nl;omega
 have u:=Np h.S6 X (dg l) p.G5;have L:=Ma h.ok h.S7;have am:decide (l≠[])=true:=by simpa using hl
 have aa:=h.ok.2.2.2.2.1;have HL:=Z1 (λW (a:M w W)=>qQ l A c n W (h.rl.up a) h.nl);rw[am]at HL;have a4:=Z1 (λW (a:M w W)=>tJ l A c n (dg l) p.G5 W (h.rl.up a) h.nl h.S6 ht aa);have ay:=Z1 (λW (a:M w W)=>Jt p C0 A2 c2 n2 W (h.rp.up a) h.np);have N:Hid (od p l C0=⟨dg l,(atF l (dg l) p.G5).F3,kq p (atF l (dg l) p.G5).F3 (jG p C0),eW p (ofS C0 (dg l) p.hold (kq p (atF l (dg l) p.G5).F3 (jG p C0))).1,
  pw p (ofS C0 (dg l) p.hold (kq p (atF l (dg l) p.G5).F3 (jG p C0))).2 (su p (atF l (dg l) p.G5).F3 (jG p C0)) (jG p C0) (eW p (ofS C0 (dg l) p.hold (kq p (atF l (dg l) p.G5).F3 (jG p C0))).1)⟩):=Z1 rfl
 unfold St.arr at*;generalize atF l (dg l) p.G5=st at*;obtain⟨m1,m2,m3,m4,b⟩:=st;simp only at u N;generalize jG p C0=r at*;have HW:=Z1 (λW=>uD p b W H h.ok u);have HN:=Z1 (λW=>vh p b r W H h.ok u L);have HR:=Z1 (λW=>Js p b r W H h.ok u L);have an:Hid (su p b r=if jF p b r=true then r else kL p b):=Z1 rfl;have ab:=Z1 (λW (a:M w W)=>Ng C0 A2 c2 n2 p.mn p.mx p.tg p.G9 p.G5 p.hold (dg l) (kq p b r) W (h.rp.up a) h.np ht h.ok.2.2.2.2.2 λk hk=>⟨(h.S7 _ (OR hk)).tick,(h.S7 _ (OR hk)).want⟩);generalize dg l=O at*;generalize kq p b r=P at*;generalize ofS C0 O p.hold P=s at*;obtain⟨s1,Q⟩:=s;simp only at N ab;have ao:=Z1 (λW=>oi p s1 W H);generalize eW p s1=th at*;have HY:=Z1 (λW (q:Int)=>Ju p Q q r th W);clear he H hl ht X u L am aa h;have ap:p.val=.agg p.arr:=rfl;rw[ap]at*;clear ap;obtain⟨d,f,g,i,j,m⟩:=bi al.o.D8;unfold Pl.arr at*
 go_in
 go_wp2_with (first|(go_at_call 85;(with_reducible refine(a2.o _).mono ?_);rintro e w1 ⟨rfl,aq⟩;have ar:=Z1 (al.o.up aq);clear aq)|(go_at_call 131;(with_reducible refine(HL.o _ ar.o.below).mono ?_);rintro e w2 ⟨rfl,au⟩;have y:=Z1 (ar.o.up au);clear au))
 have R:M w2 w2.drew:=(Oy _ _).drew;refine zH (S:=λW=>M w2 W) R ?_;refine zq 3 ?_ (λW hW=>?_) ?_;rotate_left
 ·obtain⟨d,f,g,i,j,m⟩:=bi (y.o.up hW).D8;exact zf
 refine zq 6 ?_ (λW hW=>?_) ?_;rotate_left
 ·obtain⟨d,f,g,i,j,m⟩:=bi (y.o.up hW).D8;exact zf
 refine zL ?_;refine zo 4 λK hK=>?_;go_simp;refine zm (a4.o _ (y.o.up R).below) λw3 x=>?_;have T:=af R x;refine hK _ _ T ?_;clear hK x;refine zn ?_;refine zq 5 ?_ (λW hW=>?_) ?_;rotate_left
 ·have bw:=CY m1 m2 m3 m4 b;exact zf
 refine zo 8 λK hK=>?_;go_simp;refine zm (ay.o _ (y.o.up T).below) λw4 av=>?_;have ae:=af T av;refine hK _ _ ae ?_;clear hK av;refine zn ?_;refine zL ?_;have ag:=Z1 (y.o.up ae);clear R T ae d f g i j m;obtain⟨d,f,g,i,j,m⟩:=bi ag.o.D8;have U:∃q,jF p b r=q/\su p b r=if q=true then r else kL p b:=⟨_,rfl,an.o⟩
 obtain⟨q,aw,ah⟩:=U;rw[aw]at HN;have z:=Z1 (λW=>HY.o W (su p b r));rw[ah]at z;rw[ah]at N;clear aw ah an HY;generalize kL p b=wl at*
 cases q with
 |false=>
  have e0:(if(false=true)then r else wl)=wl:=rfl;rw[e0]at z N;clear e0;generalize pw p Q wl r th=wy at*
  go_wp2_with (first|(go_at_call 132;(refine(HW.o _).mono ?_);rintro e w5 ⟨rfl,a⟩;have B:=Z1 (ag.o.up a);clear a d f g i j m;obtain⟨d,f,g,i,j,m⟩:=bi B.o.D8)|(go_at_call 133;(refine(HN.o _).mono ?_);rintro e w6 ⟨rfl,a⟩;have D:=Z1 (B.o.up a);clear a d f g i j m;obtain⟨d,f,g,i,j,m⟩:=bi D.o.D8)|(go_at_call 88;(refine(HR.o _).mono ?_);rintro e w7 ⟨rfl,a⟩;have v:=Z1 (D.o.up a);clear a d f g i j m;obtain⟨d,f,g,i,j,m⟩:=bi v.o.D8)|(go_at_call 87;(refine(ab.o _ v.o.below).mono ?_);rintro e w8 ⟨rfl,a⟩;have F:=Z1 (v.o.up a);clear a d f g i j m;obtain⟨d,f,g,i,j,m⟩:=bi F.o.D8)|(go_at_call 89;(refine(ao.o _).mono ?_);rintro e w9 ⟨rfl,a⟩;have G:=Z1 (F.o.up a);clear a d f g i j m;obtain⟨d,f,g,i,j,m⟩:=bi G.o.D8)|(go_at_call 134;(refine(z.o _).mono ?_);rintro e ba ⟨rfl,a⟩;have t:=Z1 (G.o.up a);clear a d f g i j m;obtain⟨d,f,g,i,j,m⟩:=bi t.o.D8;obtain⟨⟨k0,k1,k2,k3,k4⟩,f0,f1,f2,f3,f4⟩:=eO t.o.res))
  obtain⟨x,aj⟩:=km t.o.res (I O) (I b) (I P) (I th) (I wy);rw[N.o];exact OH (cx gu rfl x rfl _ rfl) rfl ⟨rfl,aj.below t.o.below zO⟩
 |true=>
  have e0:(if(true=true)then r else wl)=r:=rfl;rw[e0]at z N;clear e0;generalize pw p Q r r th=wy at*
  go_wp2_with (first|(go_at_call 132;(refine(HW.o _).mono ?_);rintro e w5 ⟨rfl,a⟩;have B:=Z1 (ag.o.up a);clear a d f g i j m;obtain⟨d,f,g,i,j,m⟩:=bi B.o.D8)|(go_at_call 133;(refine(HN.o _).mono ?_);rintro e w6 ⟨rfl,a⟩;have D:=Z1 (B.o.up a);clear a d f g i j m;obtain⟨d,f,g,i,j,m⟩:=bi D.o.D8)|(go_at_call 88;(refine(HR.o _).mono ?_);rintro e w7 ⟨rfl,a⟩;have v:=Z1 (D.o.up a);clear a d f g i j m;obtain⟨d,f,g,i,j,m⟩:=bi v.o.D8)|(go_at_call 87;(refine(ab.o _ v.o.below).mono ?_);rintro e w8 ⟨rfl,a⟩;have F:=Z1 (v.o.up a);clear a d f g i j m;obtain⟨d,f,g,i,j,m⟩:=bi F.o.D8)|(go_at_call 89;(refine(ao.o _).mono ?_);rintro e w9 ⟨rfl,a⟩;have G:=Z1 (F.o.up a);clear a d f g i j m;obtain⟨d,f,g,i,j,m⟩:=bi G.o.D8)|(go_at_call 134;(refine(z.o _).mono ?_);rintro e ba ⟨rfl,a⟩;have t:=Z1 (G.o.up a);clear a d f g i j m;obtain⟨d,f,g,i,j,m⟩:=bi t.o.D8;obtain⟨⟨k0,k1,k2,k3,k4⟩,f0,f1,f2,f3,f4⟩:=eO t.o.res))
  obtain⟨x,aj⟩:=km t.o.res (I O) (I b) (I P) (I th) (I wy);rw[N.o];exact OH (cx gu rfl x rfl _ rfl) rfl ⟨rfl,aj.below t.o.below zO⟩
end Go.Fw
