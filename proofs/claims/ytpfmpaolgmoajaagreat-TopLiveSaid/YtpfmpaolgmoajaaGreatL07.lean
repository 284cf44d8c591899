/- Lemmas of this claim. Conditions: as each says. -/
import Derived.Test.YtpfmpaolgmoajaaGreatL03
import Derived.Test.YtpfmpaolgmoajaaGreatL02
set_option linter.unusedVariables false
set_option linter.unusedSimpArgs false
set_option maxHeartbeats 4000000
set_option maxRecDepth 20000
set_option linter.defProp false
open Go.Proofs.Tryz
namespace Go.Fw
open Go.Proofs Go.RowKit
variable (s:ByteArray)(b:UInt8)(w:World)(n a:Nat)
def On(b:Nat)(ha:a<18446744073709551616)(hb:b<18446744073709551616):bits .or .u64 (a:Int) (b:Int)=((a|||b:Nat):Int):=by
 have c:a|||b<2^64:=Rq zO zO
 show IntKind.u64.wrap ((BitVec.ofInt 64 (a:Int)|||BitVec.ofInt 64 (b:Int)).toNat:Int)=_;rw[BitVec.toNat_or,lg a ha,lg b hb];simp[IntKind.wrap,IntKind.bits,IntKind.signed];omega
def NT(ha:a<18446744073709551616):bits .and .u64 (a:Int) 63=((a%64:Nat):Int):=by
 show IntKind.u64.wrap ((BitVec.ofInt 64 (a:Int)&&& BitVec.ofInt 64 ((63:Nat):Int)).toNat:Int)=_;rw[BitVec.toNat_and,lg a ha,lg 63 zP,show(63:Nat)=2^6-1 by decide,Nat.and_two_pow_sub_one_eq_mod];simp[IntKind.wrap,IntKind.bits,IntKind.signed];omega
def IQ(n:Nat):Nat:=if n=1 then 45 else if n=2 then 46 else if n<13 then 45+n else if n=13 then 95 else 83+n
def IR:∀c:Fin 256,bJ (c.val:Int)≠0->IQ (bJ (c.val:Int)).toNat=c.val:=by decide+kernel
def EW(h:bJ (b.toNat:Int)≠0):IQ (bJ (b.toNat:Int)).toNat=b.toNat:=IR ⟨b.toNat,b.toNat_lt⟩ h
def qj(x1 x2 y1 y2:Int)(w:World):(binOp .eql 58 (.agg #[E x1,E x2]) (.agg #[E y1,E y2])).run prog w=.ok (.bool (x1==y1&&x2==y2)) w:=by
 have a:prog.stoodInHeld 58=false:=zR;rw[run_eql_struct,run_equalIn_agg w 9999 58 _ _ (by simp only[Program.fieldsOf,underlying58]) a];simp only[Program.fieldsOf,underlying58];simp[Op.eqFields,go_sem,underlying56];by_cases b:x1=y1<;>by_cases c:x2=y2<;>simp[b,c]
def IS(x y:K2)(w:World):
  C 124 #[x.val,y.val] w (J (I (bM x y)) w):=by
 obtain⟨a,c⟩:=x;obtain⟨b,d⟩:=y;have s:M w ((w.alloc (.cells #[E a,E c] 58)).alloc (.cells #[E b,E d] 58)):=ae (ae (Oy _ _) _) _;have l:=Z1 s;clear s;unfold K2.val K2.arr;simp only;have r:Hid (bM ⟨a,c⟩ ⟨b,d⟩=if a=b/\c=d then 0 else if a<b\/(a=b/\c<d)then -1 else 1):=Z1 (by unfold bM;simp);obtain⟨q,t,B⟩:∃q:Bool,(a==b&&c==d)=q/\∀w,(binOp .eql 58 (.agg #[E a,E c]) (.agg #[E b,E d])).run prog w=.ok (.bool q) w:=⟨_,rfl,qj _ _ _ _⟩;have u:=Z1 t;clear t
 cases q with
 |true=>
  have j:Hid (bM ⟨a,c⟩ ⟨b,d⟩=0):=Z1 (by rw[r.o,OB (by have:=u.o;simpa using this)])
  go_in
  go_wp2;go_ret;exact⟨aC j.o.symm,l.o⟩
 |false=>
  have v:¬(a=b/\c=d):=by have:=u.o;simpa using this
  have A:Hid (bM ⟨a,c⟩ ⟨b,d⟩=if a<b\/(a=b/\c<d)then -1 else 1):=Z1 (by rw[r.o,Oz v]);clear r v;have n:(a<b/\bM ⟨a,c⟩ ⟨b,d⟩= -1)\/(¬a<b/\a=b/\c<d/\bM ⟨a,c⟩ ⟨b,d⟩= -1)\/(¬a<b/\a=b/\¬c<d/\bM ⟨a,c⟩ ⟨b,d⟩=1)\/(¬a<b/\¬a=b/\bM ⟨a,c⟩ ⟨b,d⟩=1):=by
   rw[A.o];by_cases f:a<b
   ·exact .inl ⟨f,OB (.inl f)⟩
   ·by_cases g:a=b
    ·by_cases k:c<d
     ·exact .inr (.inl ⟨f,g,k,OB (.inr ⟨g,k⟩)⟩)
     ·exact .inr (.inr (.inl ⟨f,g,k,Oz (by rintro(h|⟨_,h⟩)<;>contradiction)⟩))
    ·exact .inr (.inr (.inr ⟨f,g,Oz (by rintro(h|⟨h,_⟩)<;>contradiction)⟩))
  rcases n with⟨f,i⟩|⟨f,g,k,i⟩|⟨f,g,k,i⟩|⟨f,g,i⟩
  ·have m:decide (a<b)=true:=by simpa using f
   have j:=Z1 i;clear f i
   go_in
   go_wp2;go_ret;exact⟨aC j.o.symm,l.o⟩
  ·have m:decide (a<b)=false:=by simpa using f
   have p:(a==b)=true:=by simpa using g
   have z:decide (c<d)=true:=by simpa using k
   have j:=Z1 i;clear f g k i
   go_in
   go_wp2;go_ret;exact⟨aC j.o.symm,l.o⟩
  ·have m:decide (a<b)=false:=by simpa using f
   have p:(a==b)=true:=by simpa using g
   have z:decide (c<d)=false:=by simpa using k
   have j:=Z1 i;clear f g k i
   go_in
   go_wp2;go_ret;exact⟨aC j.o.symm,l.o⟩
  ·have m:decide (a<b)=false:=by simpa using f
   have p:(a==b)=false:=by simpa using g
   have j:=Z1 i;clear f g i
   go_in
   go_wp2;go_ret;exact⟨aC j.o.symm,l.o⟩
def CB(h:bJ (b.toNat:Int)≠0):
  C 83 #[E (bJ (b.toNat:Int))] w λe w'=>e=.returned (.int .u8 b.toNat)/\w=w':=by
 have a:=Z1 (EW b h);obtain⟨j,l⟩:=ik (b.toNat:Int);have m:1<=bJ (b.toNat:Int):=zO;clear h;have k:Hid (∀n:Nat,IQ n=if n=1 then 45 else if n=2 then 46 else if n<13 then 45+n else if n=13 then 95 else 83+n):=Z1 λ_=>rfl;generalize bJ (b.toNat:Int)=q at*;obtain⟨n,rfl⟩:=Rh j;rw[PH,k.o]at a;clear k;generalize b.toNat=x at*;have d:n=1\/n=2\/(n≠1/\n≠2/\n<13)\/n=13\/(n≠1/\n≠2/\¬n<13/\n≠13):=zO;have v:1<=n:=zO;have p:n<=39:=zO;clear m j l
 rcases d with h|h|⟨f,g,i⟩|h|⟨f,g,i,r⟩
 ·subst h;have c:=Z1 (a.o);rw[OB rfl]at c;clear a
  go_in
  go_wp2;go_ret;exact⟨aC (by have:=c.o;omega),rfl⟩
 ·subst h;have c:=Z1 (a.o);rw[Oz zP,OB rfl]at c;clear a
  go_in
  go_wp2;go_ret;exact⟨aC (by have:=c.o;omega),rfl⟩
 ·rw[Oz f,Oz g,OB i]at a;have s:((n:Int)==1)=false:=zT;have t:((n:Int)==2)=false:=zT;have u:(n:Int)<13:=zO
  go_in
  go_wp2;go_ret;exact⟨aC (by have:=a.o;omega),rfl⟩
 ·subst h;have c:=Z1 (a.o);rw[Oz zP,Oz zP,Oz zP,OB rfl]at c;clear a
  go_in
  go_wp2;go_ret;exact⟨aC (by have:=c.o;omega),rfl⟩
 ·rw[Oz f,Oz g,Oz i,Oz r]at a;have s:((n:Int)==1)=false:=zT;have t:((n:Int)==2)=false:=zT;have u:¬(n:Int)<13:=zO;have y:((n:Int)==13)=false:=zT
  go_in
  go_wp2;go_ret;exact⟨aC (by have:=a.o;omega),rfl⟩
def xg(A B:Obj):(w.alloc A).alloc B=Sort.grow (w.drewN 0) #[A,B]:=by
 obtain⟨h,a,b,c,d⟩:=w;unfold World.alloc Sort.grow World.drewN;simp only[Qt];congr 1
def uL(x y:K2)(w:World):
  C 124 #[x.val,y.val] w λe w'=>e=.returned (I (bM x y))/\∃q os',w'=Sort.grow (w.drewN q) os':=by
 obtain⟨a,c⟩:=x;obtain⟨b,d⟩:=y;have l:Hid (∃q' os',((w.alloc (.cells #[E a,E c] 58)).alloc (.cells #[E b,E d] 58))=Sort.grow (w.drewN q') os'):=Z1 ⟨0,_,xg w _ _⟩;unfold K2.val K2.arr;simp only;have r:Hid (bM ⟨a,c⟩ ⟨b,d⟩=if a=b/\c=d then 0 else if a<b\/(a=b/\c<d)then -1 else 1):=Z1 (by unfold bM;simp);obtain⟨q,s,A⟩:∃q:Bool,(a==b&&c==d)=q/\∀w,(binOp .eql 58 (.agg #[E a,E c]) (.agg #[E b,E d])).run prog w=.ok (.bool q) w:=⟨_,rfl,qj _ _ _ _⟩;have t:=Z1 s;clear s
 cases q with
 |true=>
  have j:Hid (bM ⟨a,c⟩ ⟨b,d⟩=0):=Z1 (by rw[r.o,OB (by have:=t.o;simpa using this)])
  go_in
  go_wp2;go_ret;exact⟨aC j.o.symm,l.o⟩
 |false=>
  have u:¬(a=b/\c=d):=by have:=t.o;simpa using this
  have z:Hid (bM ⟨a,c⟩ ⟨b,d⟩=if a<b\/(a=b/\c<d)then -1 else 1):=Z1 (by rw[r.o,Oz u]);clear r u;have n:(a<b/\bM ⟨a,c⟩ ⟨b,d⟩= -1)\/(¬a<b/\a=b/\c<d/\bM ⟨a,c⟩ ⟨b,d⟩= -1)\/(¬a<b/\a=b/\¬c<d/\bM ⟨a,c⟩ ⟨b,d⟩=1)\/(¬a<b/\¬a=b/\bM ⟨a,c⟩ ⟨b,d⟩=1):=by
   rw[z.o];by_cases f:a<b
   ·exact .inl ⟨f,OB (.inl f)⟩
   ·by_cases g:a=b
    ·by_cases k:c<d
     ·exact .inr (.inl ⟨f,g,k,OB (.inr ⟨g,k⟩)⟩)
     ·exact .inr (.inr (.inl ⟨f,g,k,Oz (by rintro(h|⟨_,h⟩)<;>contradiction)⟩))
    ·exact .inr (.inr (.inr ⟨f,g,Oz (by rintro(h|⟨h,_⟩)<;>contradiction)⟩))
  rcases n with⟨f,i⟩|⟨f,g,k,i⟩|⟨f,g,k,i⟩|⟨f,g,i⟩
  ·have m:decide (a<b)=true:=by simpa using f
   have j:=Z1 i;clear f i
   go_in
   go_wp2;go_ret;exact⟨aC j.o.symm,l.o⟩
  ·have m:decide (a<b)=false:=by simpa using f
   have p:(a==b)=true:=by simpa using g
   have v:decide (c<d)=true:=by simpa using k
   have j:=Z1 i;clear f g k i
   go_in
   go_wp2;go_ret;exact⟨aC j.o.symm,l.o⟩
  ·have m:decide (a<b)=false:=by simpa using f
   have p:(a==b)=true:=by simpa using g
   have v:decide (c<d)=false:=by simpa using k
   have j:=Z1 i;clear f g k i
   go_in
   go_wp2;go_ret;exact⟨aC j.o.symm,l.o⟩
  ·have m:decide (a<b)=false:=by simpa using f
   have p:(a==b)=false:=by simpa using g
   have j:=Z1 i;clear f g i
   go_in
   go_wp2;go_ret;exact⟨aC j.o.symm,l.o⟩
def LR(hs:s.size<=maxLen)(h:bd s=false):
  C 18 #[.string s] w (J (.tuple #[.agg #[E 0,E 0],I 2]) w):=by
 have c:=λW=>dN s hs W;rw[jz h]at c;have j:=Z1 c;clear c h
 go_in
 go_wp2_with (go_at_call 62;refine(j.o _).mono ?_;rintro e l ⟨rfl,b⟩;have a:=Blk.later (Blk.A8 w 58 #[E 0,E 0] rfl) b;have m:=a.frozen 0;have n:=a.frozen 1;have p:=(ao a).1;have q:=(ao a).2;have d:=(a.B4 0 (E 0)).B4 1 (E 0);have f:=d.cell 1;have g:=(a.B4 0 (E 0)).cell 0;simp at g f;have i:=Z1 b;clear a d b)
 have k:=af (zh w _) i.o;exact OH (v:=.tuple #[.agg #[E 0,E 0],I 2]) (by simp[results,results18,go_sem,g,f]) rfl ⟨rfl,(k.setCell zS _).setCell zS _⟩
def Bw(l:List Nat)(c:Int)(n u:Nat)(hl:∀c∈l,c<64)(hn:l.length=n)(h10:n<10)(hc:0<=c/\c<=39)(hu:u=6*(9-n)):
  bits BinOp.or IntKind.u64 (halfN l:Int) (IntKind.u64.wrap (c*2^u))=(halfN (l++[c.toNat]):Int):=by
 obtain⟨k,rfl⟩:=Rh hc.1;have b:k<=39:=zO;have a:(2:Nat)^u=64^(9-n):=by rw[hu,Nat.pow_mul]
 have d:(64:Nat)^(9-n)<=64^9:=Rb zP zO;have f:=Nat.mul_le_mul b d;have e:(k:Int)*2^u=((k*64^(9-n):Nat):Int):=by rw[<-a];push_cast;rfl
 rw[e,Em ⟨zO,zO⟩,On _ _ (Nat.lt_trans (rq l hl zO) zP) zO,PH,<-hn,Is l k zO zO]
def Jl{s:ByteArray}{k:Nat}(h:k<s.size):(bq s).take (k+1)=(bq s).take k++[(bJ (s[k].toNat:Int)).toNat]:=by
 have a:k<(bq s).length:=by rw[eU];exact h
 rw[OG a];congr 2;simp[bq];rfl
def oA(h:bd s=true):
  C 18 #[.string s] w (J (.tuple #[.agg #[.int .u64 (av s).hi,.int .u64 (av s).lo],.int .i64 0]) w):=by
 obtain⟨s1,s2,s3⟩:=dn h;have U:=λW=>dN s zU W;rw[lT h]at U;have HC:=Z1 U;have H3:=Z1 s3;have L:=Z1 (eU s);clear U h s3
 go_in
 go_wp2_with (go_at_call 62;refine(HC.o _).mono ?_;rintro e b ⟨rfl,r⟩;have m:Hid (Blk b w.heap.size 58 #[.int .u64 0,.int .u64 0]/\M w b):=Z1 ⟨Blk.later (Blk.A8 w 58 #[.int .u64 0,.int .u64 0] rfl) r,af (zh w _) r⟩;clear r)
 have N:=m.o.2.size;have a5:=m.o.1.lt;go_loopw [] (λwr=>∃(a:Nat),a<=s.size/\wr.heap[b.heap.size+1]?=some (.stringIter s a)/\Hid (M w wr/\Blk wr w.heap.size 58 #[.int .u64 0,.int .u64 0]/\Blk wr b.heap.size 58 #[.int .u64 (halfN ((bq s).take a |>.take 10):Int),.int .u64 (halfN ((bq s).take a |>.drop 10):Int)])) (λwr=>s.size-wr.iterPos (b.heap.size+1))
 case atStart=>
  refine⟨0,zO,by have:=World.iter_heap (b.alloc (.cells #[.int .u64 0,.int .u64 0] 58)) s 0;simpa using this,Z1 ⟨ae (ae m.o.2 _) _,(m.o.1.alloc _).alloc _,?_⟩⟩;have t:∀l:List Nat,l=[]->(halfN l:Int)=0:=λl h=>by subst h;rfl
  rw[t _ zS,t _ zS];exact(Blk.A8 b 58 #[.int .u64 0,.int .u64 0] rfl).alloc _
 case round=>
  obtain⟨a,hp,hit,g⟩:=hrel;have n:=jy hit;have HP:=Z1 n;clear n;by_cases hlt:a<s.size
  ·have aj:=H3.o a hlt;have ha:(s[a]'hlt).toNat<128:=by
    rcases Nat.lt_or_ge (s[a]'hlt).toNat 128 with h|h
    ·exact h
    ·exact absurd (pm zO) aj
   have ak:∀j,(Instr.next (Z (b.heap.size+1) 0) true j).run prog wr=_:=λj=>Lib.run_next_ascii_at wr (b.heap.size+1) s a j hit hlt ha;have x:=Lib.iterAt_heap wr (b.heap.size+1) s a (a+1) hit;have O:=Lib.below_iterAt g.o.1 (k:=b.heap.size+1) zO s (a+1);have P:Blk (wr.iterAt (b.heap.size+1) s (a+1)) w.heap.size _ _:=(Lib.iterAt_other wr (b.heap.size+1) w.heap.size s (a+1) zO).trans g.o.2.1;have Q:Blk (wr.iterAt (b.heap.size+1) s (a+1)) b.heap.size _ _:=(Lib.iterAt_other wr (b.heap.size+1) b.heap.size s (a+1) zO).trans g.o.2.2;have d:=Z4 x O P Q;have ci:=ik ((s[a]'hlt).toNat:Int);have R:=Z1 (λW=>nV ((s[a]'hlt).toNat:Int) W zO zO);have A:=Jl hlt;generalize bJ ((s[a]'hlt).toNat:Int)=q at*;have p:=Z1 A;have S:((bq s).take a).length=a:=by rw[PG,L.o];omega
   have f:=Z1 S;clear A S;clear x O P Q hit;by_cases T:a<10
   ·have hm:a%10=a:=QE T;have am:(a:Int)%10=a:=zO;have X:(a:Int)<10:=zO;obtain⟨u,B⟩:∃u:Nat,u=6*(9-a):=⟨_,rfl⟩;have an:6*(9-(a:Int))=(u:Int):=zO;have aa:u<=54:=zO;have t:((bq s).take a).take 10=(bq s).take a:=OT (by rw[f.o];omega);have D:((bq s).take (a+1)).take 10=(bq s).take a++[q.toNat]:=by rw[p.o];exact OT (by simp[f.o];omega)
    have F:((bq s).take (a+1)).drop 10=((bq s).take a).drop 10:=by
     rw[Pt (by rw[p.o];simp[f.o];omega),Pt (by rw[f.o];omega)]
    have ap:=Bw ((bq s).take a) q a u (λc hc=>jr s c (Qb hc)) f.o T ci B;have G:=Z2 D F;rw[t]at d;clear B t D F;go_wp2;generalize wr.iterAt (b.heap.size+1) s (a+1)=W at*;have c0:=(ao d.o.2.2.2).1;have c1:=(ao d.o.2.2.2).2;have f0:=d.o.2.2.2.frozen 0;have f1:=d.o.2.2.2.frozen 1;generalize H:(halfN ((bq s).take a++[q.toNat]):Int)=y at*;have HY:=Z1 H;clear H;refine zb 8 ?_;iterate 3 still_step
    still_call ((R.o _).mono λ_ _ h=>⟨h.1,h.2.symm⟩);repeat still_step
    refine wpStill_nil ?_;go_wp2;have i:(W.setCell (Y b.heap.size 0) (.int .u64 y)).heap[b.heap.size+1]?=some (.stringIter s (a+1)):=(Pd W (Y b.heap.size 0) _ _ zS).trans d.o.1;go_roundw
    case rel=>
     refine⟨a+1,zO,i,Z1 ⟨fd (d.o.2.1.setCell (by simpa using N) _) 1,(d.o.2.2.1.D1 zT _).drew,?_⟩⟩;rw[G.o.1,G.o.2,HY.o];have hb:=d.o.2.2.2.B4 0 (.int .u64 y);refine Blk.drew ?_
     simpa using hb
    case measure=>rw[jy (w:=(W.setCell (Y b.heap.size 0) (.int .u64 y)).drew) i,HP.o];omega
   ·have am:(a:Int)%10=a-10:=zO;have X:¬(a:Int)<10:=zO;obtain⟨u,B⟩:∃u:Nat,u=6*(9-(a-10)):=⟨_,rfl⟩;have an:6*(9-((a:Int)-10))=(u:Int):=zO;have aa:u<=54:=zO;have D:((bq s).take (a+1)).take 10=((bq s).take a).take 10:=by
     rw[p.o,QN (by rw[f.o];omega)]
    have F:((bq s).take (a+1)).drop 10=((bq s).take a).drop 10++[q.toNat]:=by
     rw[p.o,List.drop_append_of_le_length (by rw[f.o];omega)]
    have ap:=Bw (((bq s).take a).drop 10) q (a-10) u (λc hc=>jr s c (Qb (PN hc))) (by rw[PW,f.o]) zO ci B;have G:=Z2 D F;clear B D F;go_wp2;generalize wr.iterAt (b.heap.size+1) s (a+1)=W at*;have c0:=(ao d.o.2.2.2).1;have c1:=(ao d.o.2.2.2).2;have f0:=d.o.2.2.2.frozen 0;have f1:=d.o.2.2.2.frozen 1;generalize H:(halfN (((bq s).take a).drop 10++[q.toNat]):Int)=y at*;have HY:=Z1 H;clear H;refine zb 8 ?_;iterate 3 still_step
    still_call ((R.o _).mono λ_ _ h=>⟨h.1,h.2.symm⟩);repeat still_step
    refine wpStill_nil ?_;go_wp2;have i:(W.setCell (Y b.heap.size 1) (.int .u64 y)).heap[b.heap.size+1]?=some (.stringIter s (a+1)):=(Pd W (Y b.heap.size 1) _ _ zS).trans d.o.1;go_roundw
    case rel=>
     refine⟨a+1,zO,i,Z1 ⟨fd (d.o.2.1.setCell (by simpa using N) _) 1,(d.o.2.2.1.D1 zT _).drew,?_⟩⟩;rw[G.o.1,G.o.2,HY.o];have hb:=d.o.2.2.2.B4 1 (.int .u64 y);refine Blk.drew ?_
     simpa using hb
    case measure=>rw[jy (w:=(W.setCell (Y b.heap.size 1) (.int .u64 y)).drew) i,HP.o];omega
  ·obtain rfl:a=s.size:=zO;have ak:∀j,(Instr.next (Z (b.heap.size+1) 0) true j).run prog wr=_:=λj=>Lib.run_next_end_at wr (b.heap.size+1) s s.size j hit hlt;have hf:=OT (by rw[L.o];omega);rw[hf]at g;have ay:Hid (av s=⟨(halfN ((bq s).take 10):Int),(halfN ((bq s).drop 10):Int)⟩):=Z1 rfl;generalize (halfN ((bq s).take 10):Int)=y at*;generalize (halfN ((bq s).drop 10):Int)=z at*;have c0:=(ao g.o.2.2).1;have c1:=(ao g.o.2.2).2;have f0:=g.o.2.1.frozen 0;have f1:=g.o.2.1.frozen 1;have g0:=(ao g.o.2.1).1;have g1:=(ao g.o.2.1).2;have z1:=g.o.2.1.B4 0 (.int .u64 y);have z2:=z1.B4 1 (.int .u64 z);have z3:=z1.cell 0;have z4:=z2.cell 1;simp at z3 z4;clear z1 z2 hf hit;go_wp2;rw[ay.o];exact OH (v:=.tuple #[.agg #[.int .u64 y,.int .u64 z],.int .i64 0]) (by simp[results,results18,go_sem,z3,z4]) rfl ⟨rfl,(g.o.1.setCell zS _).setCell zS _⟩
def Ll(m u j:Nat)(hm:m<18446744073709551616)(hu:u=6*(9-j)):bits BinOp.and IntKind.u64 ((m:Int)/2^u) 63=((m/64^(9-j)%64:Nat):Int):=by
 have a:(2:Nat)^u=64^(9-j):=by rw[hu,Nat.pow_mul]
 have b:(m:Int)/2^u=((m/64^(9-j):Nat):Int):=by rw[<-a];push_cast;rfl
 rw[b,NT _ (Nat.lt_of_le_of_lt (Nat.div_le_self _ _) hm)]
def Mn(k:K2)(i:Nat)(w:World)(hk:k.ok)(hi:i<20):
  C 82 #[k.val,I i] w (J (E (atN k i)) w):=by
 obtain⟨x,z⟩:=k;obtain⟨⟨p,t⟩,q,v⟩:=hk;simp only at p t q v;obtain⟨m,rfl⟩:=Rh p;obtain⟨a,rfl⟩:=Rh q;have j:m<18446744073709551616:=zO;have b:a<18446744073709551616:=zO;have h:Hid (atN ⟨(m:Int),(a:Int)⟩ i=(if i<10 then m else a)/64^(9-i%10)%64):=Z1 (by unfold atN;simp);unfold K2.val K2.arr;simp only;by_cases c:i<10
 ·obtain⟨u,d⟩:∃u:Nat,u=6*(9-i):=⟨_,rfl⟩;have r:6*(9-(i:Int))=(u:Int):=zO;have l:u<=54:=zO;have s:(i:Int)%10=i:=zO;have n:¬10<=(i:Int):=zO;have f:=Ll m u i j d;have g:Hid (atN ⟨(m:Int),(a:Int)⟩ i=m/64^(9-i)%64):=Z1 (by rw[h.o,OB c,QE c]);rw[<-g.o]at f;clear h g d j b;generalize atN ⟨(m:Int),(a:Int)⟩ i=y at*
  go_in
  go_wp2;go_ret;exact⟨rfl,ae (Oy _ _) _⟩
 ·obtain⟨u,d⟩:∃u:Nat,u=6*(9-(i-10)):=⟨_,rfl⟩;have r:6*(9-((i:Int)-10))=(u:Int):=zO;have l:u<=54:=zO;have s:(i:Int)%10=i-10:=zO;have n:10<=(i:Int):=zO;have f:=Ll a u (i-10) b d;have g:Hid (atN ⟨(m:Int),(a:Int)⟩ i=a/64^(9-(i-10))%64):=Z1 (by rw[h.o,Oz c,show i%10=i-10 by omega]);rw[<-g.o]at f;clear h g d j b;generalize atN ⟨(m:Int),(a:Int)⟩ i=y at*
  go_in
  go_wp2;go_ret;exact⟨rfl,ae (Oy _ _) _⟩
def Nx:cE prog 181 5 (.int .u8 0) 1 1:=⟨underlying181,zR,rfl⟩
def De(h:bd s=true):
  C 36 #[(av s).val] w (J (.tuple #[.string s,.bool true]) w):=by
 obtain⟨s1,R,S⟩:=dn h;have HP:=Z1 (λW=>oA s W h);have T:=Z1 (λi W hi=>Mn (av s) i W (jh s R) hi);have O:=Z1 (rr s R);have U:=Z1 (eU s);have H3:=Z1 S;have t:∀x y w,(binOp .neq 58 (.agg #[E x,E y]) (.agg #[E x,E y])).run prog w=.ok (.bool false) w:=by
  intro x y w;have hp:prog.stoodInHeld 58=false:=zR;rw[run_neq_struct,run_equalIn_agg w 9999 58 _ _ (by simp only[Program.fieldsOf,underlying58]) hp];simp only[Program.fieldsOf,underlying58];simp[Op.eqFields,go_sem,underlying56]
 have X:=Z1 t;clear h S t;generalize aa:av s=k at*;obtain⟨g,j⟩:=k;have b0:=Blk.A8 w 58 #[E g,E j] rfl;have F:Hid (Blk _ w.heap.size _ _/\M w _):=Z1 ⟨b0,zh w (.cells #[E g,E j] 58)⟩;clear b0 aa;unfold K2.val K2.arr at*;simp only at*
 go_in
 go_wp2;go_loopw [4,9] (λv i wr=>∃(k:Nat),k<=20/\i=I k/\∃(A:Option Addr) (c n:Nat),v=.slice A n c/\n=min k s.size/\Hid (Blk wr w.heap.size 58 #[E g,E j]/\aL 1 w wr 5 v n (bys (s.data.toList.take k)))) (λ_ i _=>20-(intOf i).toNat)
 case atStart=>exact⟨0,zO,rfl,none,0,0,rfl,zO,Z1 ⟨F.o.1,aL.L8 1 F.o.2 _⟩⟩
 case round=>
  obtain⟨k,hk,rfl,A,c,n,rfl,B,b⟩:=hrel;have HN:=Z1 B;have g0:=(ao b.o.1).1;have g1:=(ao b.o.1).2;by_cases G:k<20
  ·have l:=O.o k G;have D:=Z1 (λW=>T.o k W G);by_cases m:k<s.size
   ·have p:(bq s).getD k 0=(bJ (s[k].toNat:Int)).toNat:=by
     simp[bq,List.getD,m];rfl
    rw[p]at l;have h3:=H3.o k m;have a8:=ik (s[k].toNat:Int);have ad:=Z1 (λW=>CB s[k] W h3);have q:(atN ⟨g,j⟩ k:Int)=bJ (s[k].toNat:Int):=by rw[l];omega
    have u:s.data.toList.take (k+1)=s.data.toList.take k++[s.data.toList[k]'(by simpa using m)]:=OG (by simpa using m);have hg:s.data.toList[k]'(by simpa using m)=s[k]:=rfl;rw[hg]at u;generalize bJ (s[k].toNat:Int)=cc at*;rw[q]at D;obtain rfl:n=k:=zO;have Q:=Z1 u;have c1:0<cc:=zO;have c2:¬39<cc:=zO;generalize ai:s[n]=sk at*;clear p l q u hg h3 B ai
    go_wp2_with (first|(go_at_call 82;refine(D.o _).mono ?_;rintro e w1 ⟨rfl,a⟩;have H:=b.o.2.later a;have d:=b.o.1.later a;have f:=Z2 H d;clear H d)|(go_at_call 83;refine(ad.o _).mono ?_;rintro e w2 ⟨rfl,rfl⟩)|(at_builtin;go_must (refine bZ Nx zP rfl (.tmp 31) (.tmp 34) rfl rfl f.o.1.own f.o.1.le rfl rfl rfl zV zO zU ?_);intro v' w' L N))
    obtain⟨A2,al,rfl,_,_⟩:=ak L;have am:=f.o.1.app N L;have an:=aB f.o.1.own f.o.2 zP;have ap:=f.o.2.grown N (λe=>an e.symm);go_roundw
    case rel=>exact⟨n+1,zO,by go_num,A2,al,n+1,rfl,zO,Z1 ⟨ap,by rw[Q.o];simpa[bys]using am⟩⟩
    case measure=>simp[intOf];omega
   ·have p:(bq s).getD k 0=0:=by simp[List.getD];rw[Ps (by rw[U.o];omega)];rfl
    have q:(atN ⟨g,j⟩ k:Int)=0:=by rw[l,p];rfl
    rw[q]at D;have Q:Hid (s.data.toList.take (k+1)=s.data.toList.take k):=Z1 (by rw[OT zT,OT zT]);clear p l q B
    go_wp2_with (go_at_call 82;refine(D.o _).mono ?_;rintro e w1 ⟨rfl,a⟩;have r:=Z1 a;clear a)
    go_roundw
    case rel=>exact⟨k+1,zO,by go_num,A,c,n,rfl,by have:=HN.o;omega,Z1 ⟨b.o.1.later r.o,by rw[Q.o];exact b.o.2.later r.o⟩⟩
    case measure=>simp[intOf];omega
  ·obtain rfl:k=20:=zO;have hf:s.data.toList.take 20=s.data.toList:=OT zT;obtain rfl:n=s.size:=zO;rw[hf]at b;obtain⟨A9,c9,hv,_,_,hr⟩:=b.o.2.form;injection hv with au _ aw;subst au aw;have z:∀W,M wr W->(convert 181 9 (.slice A s.size c)).run prog W=.ok (.string s) W:=by
    intro W hb;have:=oZ (P:=prog) 181 9 5 c underlying181 underlying5 underlying9 (hr.below hb)
    simpa using this
   have ax:=Z1 z;have a6:=z wr (Oy _ _);clear z hf hr B
   go_wp2_with (go_at_call 18;refine(HP.o _).mono ?_;rintro e w1 ⟨rfl,a⟩;have t:=X.o g j;have d:=(b.o.1.later a).alloc (.cells #[E g,E j] 58);have j0:=(ao d).1;have j1:=(ao d).2;have a7:=ax.o _ (ae a (.cells #[E g,E j] 58));have r:=Z1 a;clear a d)
   go_ret2
   exact⟨rfl,ae (af b.o.2.below r.o) _⟩
end Go.Fw
