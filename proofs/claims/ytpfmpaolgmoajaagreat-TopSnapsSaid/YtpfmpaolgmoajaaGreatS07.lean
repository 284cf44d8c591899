/- Lemmas of this claim. Conditions: as each says. -/
import Derived.Test.YtpfmpaolgmoajaaGreatS03
import Derived.Test.YtpfmpaolgmoajaaGreatS02
import Derived.Test.YtpfmpaolgmoajaaGreatS04
set_option linter.unusedVariables false
set_option linter.unusedSimpArgs false
set_option maxHeartbeats 4000000
set_option maxRecDepth 20000
set_option linter.defProp false
open Go.Proofs.Tryz
namespace Go.Fw
open Go.Proofs Go.RowKit
variable {p B q:Nat}{v sl sl2:Value}{xs:List Value}{cs:Array Value}{ln:List (Int×Bool)}{w':World}(l:List Nat)(k:K2)(b:UInt8)(w:World)(s:ByteArray)(r:List Nat)(n c a:Nat)
def bq(s:ByteArray):List Nat:=s.data.toList.map λb=>(bJ (b.toNat:Int)).toNat
def eG(l:List Nat):Nat:=l.foldl (λa c=>a*64+c) 0
def halfN(l:List Nat):Nat:=eG l*64^(10-l.length)
def av(s:ByteArray):K2:=⟨(halfN ((bq s).take 10):Int),(halfN ((bq s).drop 10):Int)⟩
def ux:eG (l++[c])=eG l*64+c:=by
 unfold eG;rw[Qe];rfl
def uy:∀a,r.foldl (λa c=>a*64+c) a=a*64^r.length+eG r:=by
 induction r with
 |nil=>intro a;simp[eG]
 |cons c r ih=>
  intro a;have b:eG (c::r)=c*64^r.length+eG r:=by
   have:=ih (0*64+c);rw[Rz,PS]at this;rw[eG,Qz,Rz,PS];exact this
  rw[Qz,ih (a*64+c),b,OC,RA,Nat.add_mul,QM,Qk 64];omega
def Ac:eG (l++r)=eG l*64^r.length+eG r:=by
 rw[eG,Qe];exact uy r _
def Bk(h:∀c∈l,c<64):eG l<64^l.length:=by
 induction l with
 |nil=>simp[eG]
 |cons c r ih=>
  have d:=ih (λx a=>h x (by simp[a]));have b:=h c zS;rw[show eG (c::r)=c*64^r.length+eG r by rw[eG,Qz,uy];simp,OC,RA];have:c*64^r.length+64^r.length<=64^r.length*64:=by
   rw[Qk (64^r.length) 64,<-Qj];exact Pr _ b
  omega
def rq(h:∀c∈l,c<64)(hl:l.length<=10):halfN l<64^10:=by
 unfold halfN;have a:=Bk l h
 calc eG l*64^(10-l.length)<64^l.length*64^(10-l.length):=Nat.mul_lt_mul_of_pos_right a (Sw zP)
  _=64^10:=by rw[<-Nat.pow_add];congr 1;omega
def Cn(hl:l.length<10):halfN (l++[c])=halfN l+c*64^(9-l.length):=by
 unfold halfN;rw[ux,OS,List.length_singleton,show 10-l.length=(9-l.length)+1 by omega,show 10-(l.length+1)=9-l.length by omega,RA,Nat.add_mul,QM];congr 1;rw[Qk 64]
def Is(hc:c<64)(hl:l.length<10):halfN l|||c*64^(9-l.length)=halfN (l++[c]):=by
 rw[Cn l c hl];unfold halfN;have e:(64:Nat)^(10-l.length)=2^(6*(10-l.length)):=by rw[Nat.pow_mul]
 have a:c*64^(9-l.length)<2^(6*(10-l.length)):=by
  rw[<-e,show 10-l.length=(9-l.length)+1 by omega,RA,Qk];exact Nat.mul_lt_mul_of_pos_left hc (Sw zP)
 rw[e,Qk];exact(Nat.two_pow_add_eq_or_of_lt a _).symm
def wM(h:∀c∈l,c<64)(hl:l.length<=10)(i:Nat)(hi:i<10):halfN l/64^(9-i)%64=l.getD i 0:=by
 by_cases b:i<l.length
 ·have m:l=l.take i++([l[i]]++l.drop (i+1)):=by
   rw[List.singleton_append,<-Pu b,Qr]
  have d:l.getD i 0=l[i]:=by simp[List.getD,b]
  rw[d];have e:(l.drop (i+1)).length=l.length-(i+1):=zS;have f:=Bk (l.drop (i+1)) (λc g=>h c (PN g));have g:=h _ (OR b);unfold halfN;have j:eG l=(eG (l.take i)*64+l[i])*64^(l.drop (i+1)).length+eG (l.drop (i+1)):=by
   conv=>lhs;rw[m]
   rw[<-Pv,Ac,ux]
  rw[j];generalize eG (l.take i)=a at*;generalize l[i]=c at*;generalize eG (l.drop (i+1))=r at*;rw[e]at f ⊢;have n:(64:Nat)^(9-i)=64^(l.length-(i+1))*64^(10-l.length):=by rw[<-Nat.pow_add];congr 1;omega
  rw[n,<-Nat.div_div_eq_div_mul];generalize 64^(l.length-(i+1))=p at*;have o:0<(64:Nat)^(10-l.length):=Sw zP;generalize (64:Nat)^(10-l.length)=q at*;have k:0<p:=zO;rw[show((a*64+c)*p+r)*q/p/q=((a*64+c)*p+r)/p by
   rw[Nat.div_div_eq_div_mul,Nat.mul_div_mul_right _ _ o]]
  rw[Nat.add_comm,Nat.add_mul_div_right _ _ k,Nat.div_eq_of_lt f];omega
 ·have d:l.getD i 0=0:=by simp[List.getD];rw[Ps zO];rfl
  rw[d];unfold halfN;rw[show 10-l.length=(9-i)+1+(i-l.length) by omega,Nat.pow_add,RA];rw[show eG l*(64^(9-i)*64*64^(i-l.length))=(eG l*64^(i-l.length)*64)*64^(9-i) by
   rw[Qk (64^(9-i)) 64,QM,QM,Qk (64^(9-i)) (64^(i-l.length)),Nat.mul_left_comm,<-QM,<-QM,Qk 64 (eG l)];simp[QM,Qk,Nat.mul_left_comm]]
  rw[Nat.mul_div_cancel _ (Sw zP)];omega
def jr:∀c∈bq s,c<64:=by
 intro c a;obtain⟨b,_,rfl⟩:=Pa.1 a;have:=ik (b.toNat:Int);omega
def eU:(bq s).length=s.size:=by simp[bq]
def jh(h:s.size<=20):(av s).ok:=by
 have b:=eU s;have d:=rq ((bq s).take 10) (λc a=>jr s c (Qb a)) zT;have e:=rq ((bq s).drop 10) (λc a=>jr s c (PN a)) zT;exact⟨by unfold cK av;dsimp only;omega,by unfold cK av;dsimp only;omega⟩
def atN(k:K2)(i:Nat):Nat:=(if i<10 then k.hi.toNat else k.lo.toNat)/64^(9-i%10)%64
def rr(h:s.size<=20)(i:Nat)(hi:i<20):atN (av s) i=(bq s).getD i 0:=by
 have d:=eU s;unfold atN av;by_cases a:i<10
 ·rw[OB a,PH,QE a,wM _ (λc b=>jr s c (Qb b)) zT i a];simp[List.getD,Pw a]
 ·rw[Oz a,PH,show i%10=i-10 by omega,wM _ (λc b=>jr s c (PN b)) zT (i-10) zO];simp only[List.getD,PM];rw[show 10+(i-10)=i by omega]
def Eo{a b:UInt8}(h:bJ (a.toNat:Int)=bJ (b.toNat:Int))(h0:bJ (a.toNat:Int)≠0):a=b:=by
 apply UInt8.toNat_inj.1;have c:=a.toNat_lt;have d:=b.toNat_lt;unfold bJ at h h0
 repeat' split at h
 all_goals first|omega|(exfalso;apply h0;simp[*];done)|(repeat' split at h0)<;>omega
def mL{s t:ByteArray}(hs:bd s=true)(ht:bd t=true)(h:av s=av t):s=t:=by
 obtain⟨u,o,k⟩:=dn hs;obtain⟨v,p,q⟩:=dn ht;have e:∀i,i<20->(bq s).getD i 0=(bq t).getD i 0:=λi c=>by rw[<-rr s o i c,<-rr t p i c,h]
 have g:∀i (c:i<s.size),(bq s).getD i 0=(bJ (s[i].toNat:Int)).toNat:=λi c=>by
  simp[bq,List.getD,c];rfl
 have j:∀i (c:i<t.size),(bq t).getD i 0=(bJ (t[i].toNat:Int)).toNat:=λi c=>by
  simp[bq,List.getD,c];rfl
 have l:∀i,s.size<=i->(bq s).getD i 0=0:=λi c=>by simp[List.getD];rw[Ps (by rw[eU];exact c)];rfl
 have m:∀i,t.size<=i->(bq t).getD i 0=0:=λi c=>by simp[List.getD];rw[Ps (by rw[eU];exact c)];rfl
 have n:s.size=t.size:=by
  rcases Nat.lt_trichotomy s.size t.size with d|d|d
  ·exfalso;have f:=e s.size zO;rw[l _ (OA _),j _ d]at f;have:=q _ d;have:=ik (t[s.size].toNat:Int);omega
  ·exact d
  ·exfalso;have f:=e t.size zO;rw[m _ (OA _),g _ d]at f;have:=k _ d;have:=ik (s[t.size].toNat:Int);omega
 apply ByteArray.ext;apply Array.ext
 ·exact n
 ·intro i d f;have r:=e i (by have:i<s.size:=d;omega);rw[g i d,j i f]at r;refine Eo (a:=s[i]) (b:=t[i]) ?_ (k i d);have:=ik (s[i].toNat:Int);have:=ik (t[i].toNat:Int);omega
def On(b:Nat)(ha:a<18446744073709551616)(hb:b<18446744073709551616):bits .or .u64 (a:Int) (b:Int)=((a|||b:Nat):Int):=by
 have c:a|||b<2^64:=Rq zO zO
 show IntKind.u64.wrap ((BitVec.ofInt 64 (a:Int)|||BitVec.ofInt 64 (b:Int)).toNat:Int)=_;rw[BitVec.toNat_or,lg a ha,lg b hb];simp[IntKind.wrap,IntKind.bits,IntKind.signed];omega
def NT(ha:a<18446744073709551616):bits .and .u64 (a:Int) 63=((a%64:Nat):Int):=by
 show IntKind.u64.wrap ((BitVec.ofInt 64 (a:Int)&&& BitVec.ofInt 64 ((63:Nat):Int)).toNat:Int)=_;rw[BitVec.toNat_and,lg a ha,lg 63 zP,show(63:Nat)=2^6-1 by decide,Nat.and_two_pow_sub_one_eq_mod];simp[IntKind.wrap,IntKind.bits,IntKind.signed];omega
def IQ(n:Nat):Nat:=if n=1 then 45 else if n=2 then 46 else if n<13 then 45+n else if n=13 then 95 else 83+n
def IR:∀c:Fin 256,bJ (c.val:Int)≠0->IQ (bJ (c.val:Int)).toNat=c.val:=by decide+kernel
def EW(h:bJ (b.toNat:Int)≠0):IQ (bJ (b.toNat:Int)).toNat=b.toNat:=IR ⟨b.toNat,b.toNat_lt⟩ h
def qj(x1 x2 y1 y2:Int)(w:World):(binOp .eql 58 (.agg #[E x1,E x2]) (.agg #[E y1,E y2])).run prog w=.ok (.bool (x1==y1&&x2==y2)) w:=by
 have a:prog.stoodInHeld 58=false:=zR;rw[run_eql_struct,run_equalIn_agg w 9999 58 _ _ (by simp only[Program.fieldsOf,underlying58]) a];simp only[Program.fieldsOf,underlying58];simp[Op.eqFields,go_sem,underlying56];by_cases b:x1=y1<;>by_cases c:x2=y2<;>simp[b,c]
def IS(x y:K2)(w:World):
  C 124 #[x.val,y.val] w (J (I (bM x y)) w):=by
 obtain⟨a,c⟩:=x;obtain⟨b,d⟩:=y;have s:M w ((w.alloc (.cells #[E a,E c] 58)).alloc (.cells #[E b,E d] 58)):=ae (ae (Oy _ _) _) _;have l:=Z1 s;clear s;unfold K2.val K2.arr;simp only;have r:Hid (bM ⟨a,c⟩ ⟨b,d⟩=if a=b/\c=d then 0 else if a<b\/(a=b/\c<d)then -1 else 1):=Z1 (by unfold bM;simp);obtain⟨q,t,B⟩:∃q:Bool,(a==b&&c==d)=q/\∀w,(binOp .eql 58 (.agg #[E a,E c]) (.agg #[E b,E d])).run prog w=.ok (.bool q) w:=⟨_,rfl,qj _ _ _ _⟩;have u:=Z1 t;clear t
 cases q with
 |true=>
  have j:Hid (bM ⟨a,c⟩ ⟨b,d⟩=0):=Z1 (by rw[r.o,OB (by have:=u.o;simpa using this)])
  go_in
  go_wp2;go_ret;exact⟨aC j.o.symm,l.o⟩
 |false=>
  have v:¬(a=b/\c=d):=by have:=u.o;simpa using this
  have A:Hid (bM ⟨a,c⟩ ⟨b,d⟩=if a<b\/(a=b/\c<d)then -1 else 1):=Z1 (by rw[r.o,Oz v]);clear r v;have n:(a<b/\bM ⟨a,c⟩ ⟨b,d⟩= -1)\/(¬a<b/\a=b/\c<d/\bM ⟨a,c⟩ ⟨b,d⟩= -1)\/(¬a<b/\a=b/\¬c<d/\bM ⟨a,c⟩ ⟨b,d⟩=1)\/(¬a<b/\¬a=b/\bM ⟨a,c⟩ ⟨b,d⟩=1):=by
   rw[A.o];by_cases f:a<b
   ·exact .inl ⟨f,OB (.inl f)⟩
   ·by_cases g:a=b
    ·by_cases k:c<d
     ·exact .inr (.inl ⟨f,g,k,OB (.inr ⟨g,k⟩)⟩)
     ·exact .inr (.inr (.inl ⟨f,g,k,Oz (by rintro(h|⟨_,h⟩)<;>contradiction)⟩))
    ·exact .inr (.inr (.inr ⟨f,g,Oz (by rintro(h|⟨h,_⟩)<;>contradiction)⟩))
  rcases n with⟨f,i⟩|⟨f,g,k,i⟩|⟨f,g,k,i⟩|⟨f,g,i⟩
  ·have m:decide (a<b)=true:=by simpa using f
   have j:=Z1 i;clear f i
   go_in
   go_wp2;go_ret;exact⟨aC j.o.symm,l.o⟩
  ·have m:decide (a<b)=false:=by simpa using f
   have p:(a==b)=true:=by simpa using g
   have z:decide (c<d)=true:=by simpa using k
   have j:=Z1 i;clear f g k i
   go_in
   go_wp2;go_ret;exact⟨aC j.o.symm,l.o⟩
  ·have m:decide (a<b)=false:=by simpa using f
   have p:(a==b)=true:=by simpa using g
   have z:decide (c<d)=false:=by simpa using k
   have j:=Z1 i;clear f g k i
   go_in
   go_wp2;go_ret;exact⟨aC j.o.symm,l.o⟩
  ·have m:decide (a<b)=false:=by simpa using f
   have p:(a==b)=false:=by simpa using g
   have j:=Z1 i;clear f g i
   go_in
   go_wp2;go_ret;exact⟨aC j.o.symm,l.o⟩
def CB(h:bJ (b.toNat:Int)≠0):
  C 83 #[E (bJ (b.toNat:Int))] w λe w'=>e=.returned (.int .u8 b.toNat)/\w=w':=by
 have a:=Z1 (EW b h);obtain⟨j,l⟩:=ik (b.toNat:Int);have m:1<=bJ (b.toNat:Int):=zO;clear h;have k:Hid (∀n:Nat,IQ n=if n=1 then 45 else if n=2 then 46 else if n<13 then 45+n else if n=13 then 95 else 83+n):=Z1 λ_=>rfl;generalize bJ (b.toNat:Int)=q at*;obtain⟨n,rfl⟩:=Rh j;rw[PH,k.o]at a;clear k;generalize b.toNat=x at*;have d:n=1\/n=2\/(n≠1/\n≠2/\n<13)\/n=13\/(n≠1/\n≠2/\¬n<13/\n≠13):=zO;have v:1<=n:=zO;have p:n<=39:=zO;clear m j l
 rcases d with h|h|⟨f,g,i⟩|h|⟨f,g,i,r⟩
 ·subst h;have c:=Z1 (a.o);rw[OB rfl]at c;clear a
  go_in
  go_wp2;go_ret;exact⟨aC (by have:=c.o;omega),rfl⟩
 ·subst h;have c:=Z1 (a.o);rw[Oz zP,OB rfl]at c;clear a
  go_in
  go_wp2;go_ret;exact⟨aC (by have:=c.o;omega),rfl⟩
 ·rw[Oz f,Oz g,OB i]at a;have s:((n:Int)==1)=false:=zT;have t:((n:Int)==2)=false:=zT;have u:(n:Int)<13:=zO
  go_in
  go_wp2;go_ret;exact⟨aC (by have:=a.o;omega),rfl⟩
 ·subst h;have c:=Z1 (a.o);rw[Oz zP,Oz zP,Oz zP,OB rfl]at c;clear a
  go_in
  go_wp2;go_ret;exact⟨aC (by have:=c.o;omega),rfl⟩
 ·rw[Oz f,Oz g,Oz i,Oz r]at a;have s:((n:Int)==1)=false:=zT;have t:((n:Int)==2)=false:=zT;have u:¬(n:Int)<13:=zO;have y:((n:Int)==13)=false:=zT
  go_in
  go_wp2;go_ret;exact⟨aC (by have:=a.o;omega),rfl⟩
def Ji(hk:k.ok):
  C 225 #[k.val] w λe w'=>e=.returned (E (ng (jD k)))/\M w w':=by
 have c:=λW=>Cm k W hk;have j:=Z1 c;have a:(jD k).length=16:=rfl;have d:(bys (jD k)).toArray.all (·.oneCell')=true:=Re.2 λu p=>Lr _ u (by simpa using p);have f:(bys (jD k)).toArray.size=16:=rfl;generalize jD k=l at*;have r:∀W:World,(convert 181 9 (V W.heap.size 0 16 16)).run prog (W.alloc (.cells (bys l).toArray 349))=.ok (.string ⟨l.toArray⟩) (W.alloc (.cells (bys l).toArray 349)):=by
  intro W;have q:=wv W 349 (bys l).toArray 16 W.heap.size (W.heap.size+1) (by simp[bys,a]) rfl rfl;exact oZ 181 9 5 16 underlying181 underlying5 underlying9 (by simpa using q)
 have h:=Z1 (λW=>Ir ⟨l.toArray⟩ W (by show l.toArray.size<=1000;simp[a]));have m:=Z3 a d f;have b:cU prog 349 16:=⟨zR,zR,zR⟩;have i:=Z1 b;clear c a d f b;obtain⟨s,t⟩:=k;unfold K2.val K2.arr at*;simp only at*
 go_in
 go_wp2_with (first|(go_at_call 235;refine(j.o _).mono ?_;rintro e v ⟨rfl,g⟩;have n:=Z1 g;clear g)|(go_at_call 236;refine(h.o _).mono ?_;rintro e x ⟨rfl,rfl⟩)|(refine aS i.o rfl rfl ?_)|(refine aT i.o rfl (.tmp 3) (.tmp 5) rfl _ rfl zF (bys l).toArray _ zF _ m.o.2.2 i.o.D6 m.o.2.1 ?_))
 go_ret;exact⟨aC zS,ae (af (ae (Oy _ _) _) n.o) _⟩
def Fq(h b:Int)(w:World)(hh:cK h)(hb:b=0\/b=1\/b=2\/b=3\/b=4\/b=5\/b=6):
  C 224 #[E h,I b] w λe w'=>e=.returned (E (kK h b))/\w=w':=by
 obtain⟨c,d⟩:=hh;have a:Hid (∀b,kK h b=if b<1\/32<b then 0 else bits BinOp.and IntKind.u64 (rm h (h/2^b.toNat)) (2^b.toNat-1)):=Z1 λ_=>rfl
 rcases hb with rfl|rfl|rfl|rfl|rfl|rfl|rfl
 all_goals
  go_in
  go_wp2;go_ret;refine⟨aC ?_,rfl⟩;rw[a.o]
  first|rw[OB zP]|(rw[Oz zP];rfl)
def rI(n:Int)(w:World)(hk:k.ok)(h:dL n=true):
  C 202 #[k.val,I n] w (J (I (gg k n)) w):=by
 have b:=λW=>oc n W;rw[h]at b;have g:=Z1 b;have i:=Z1 (λW=>Aa n W h);have j:=Z1 (λW=>Ji k W hk);have l:=ro k h;have r:=ob h;have m:Hid (gg k n=kK (ng (jD k)) (ki n)):=Z1 rfl;have c:ki n=0\/ki n=1\/ki n=2\/ki n=3\/ki n=4\/ki n=5\/ki n=6:=by
  rcases nh h with rfl|rfl|rfl|rfl|rfl|rfl|rfl<;>decide
 have d:=Z1 (λW=>Fq (ng (jD k)) (ki n) W (Ly _) c);have a:kK (ng (jD k)) (ki n)=gg k n:=rfl;rw[a]at d;generalize gg k n=x at*;obtain⟨s,t⟩:=l;have u:x<=64:=zO;clear a c b h hk m;obtain⟨v,y⟩:=k;unfold K2.val K2.arr at*;simp only at*
 go_in
 go_wp2_with (first|(go_at_call 112;refine(g.o _).mono ?_;rintro e p ⟨rfl,rfl⟩)|(go_at_call 225;refine(j.o _).mono ?_;rintro e p ⟨rfl,f⟩)|(go_at_call 226;refine(i.o _).mono ?_;rintro e q ⟨rfl,rfl⟩)|(go_at_call 224;refine(d.o _).mono ?_;rintro e q ⟨rfl,rfl⟩))
 go_ret;exact⟨rfl,af (ae (Oy _ _) _) f⟩
section
open Go.Shelf Go.WideShapes Go.ChangeShapes Go.Deep
set_option maxRecDepth 100000
def xJ(t:Tr)(x:Ev)(p:Nat)(w:World)(hx:cV x)(hb:Blk w p 151 t.arr)(hn:0<=t.nth/\t.nth<=1000000):
  C 71 #[Z p 0,.agg x.cs] w λe w'=>e=.returned (.bool (t.ok x))/\Blk w' p 151 (t.next x).arr/\ag (λj=>j=p) w w':=by
 have s:=eu (w:=w) (t:=79) hx.c0;have c2:=eu (w:=w) (t:=79) hx.c2;have R:=eu (w:=w) (t:=79) hx.Q7;have S:=eu (w:=w) (t:=79) hx.Q8;have a7:=hb.lt;have m:=hb.alloc (.cells x.cs 79);have bx:=Blk.A8 w 79 x.cs rfl;have hK:=ag.B5 (L:=λj=>j=p) (zh w (.cells x.cs 79));have F:=Z1 hx;clear hb hx;obtain⟨cs,a,c,nth,h,i⟩:=x;obtain⟨tn,d,k,g⟩:=t;have b:=Z3 m bx hK;have G:=m.cell 0;have v:=m.cell 1;have H:=m.cell 2;have N:=m.cell 3;have f0:=m.frozen 0;have X:=m.frozen 1;have f2:=m.frozen 2;have f3:=m.frozen 3;simp[Tr.arr]at G v H N;simp only at s c2 R S hn;clear m bx hK
 go_in
 go_upto_block 0 with fail
 generalize w.alloc (.cells cs 79)=W1 at*;go_cut [5] (λs5 wx=>s5=.bool (Tr.is ⟨tn,d,k,g⟩ ⟨cs,a,c,nth,h,i⟩)/\Hid (Blk wx p 151 (Tr.D5 ⟨tn,d,k,g⟩ ⟨cs,a,c,nth,h,i⟩)/\Blk wx w.heap.size 79 cs/\ag (λj=>j=p) w wx))
 case first=>
  rcases Dg a with rfl|rfl|rfl|rfl|rfl|rfl|rfl|⟨k1,y,k3,k4,k5,k6,k7⟩
  ·by_cases f:d=0
   ·subst f;go_wp2;go_meet;refine⟨by simp[Tr.is],Z1 ⟨by simpa[Tr.D5,Tr.next,Tr.arr]using b.o.1,b.o.2.1,b.o.2.2⟩⟩
   ·by_cases l:d=3
    ·subst l;go_wp2;go_meet;refine⟨by simp[Tr.is],Z1 ⟨by simpa[Tr.D5,Tr.next,Tr.arr]using b.o.1.B4 0 (I (tn+1)),b.o.2.1.D1 (p:=Y p 0) (by show w.heap.size≠p;omega) _,b.o.2.2.setCell (p:=Y p 0) (.inl rfl) _⟩⟩
    ·have u:(d==0)=false:=by simp[f]
     have m1:(d==3)=false:=by simp[l]
     go_wp2;go_meet;refine⟨by simp[Tr.is,f,l],Z1 ⟨by simpa[Tr.D5,Tr.next,Tr.arr,f,l]using b.o.1,b.o.2.1,b.o.2.2⟩⟩
  ·by_cases f:d=1
   ·subst f;go_wp2;go_meet;refine⟨by simp[Tr.is],Z1 ⟨by simpa[Tr.D5,Tr.next,Tr.arr]using b.o.1,b.o.2.1,b.o.2.2⟩⟩
   ·have u:(d==1)=false:=by simp[f]
    go_wp2;go_meet;refine⟨by simp[Tr.is,f],Z1 ⟨by simpa[Tr.D5,Tr.next,Tr.arr,f]using b.o.1,b.o.2.1,b.o.2.2⟩⟩
  ·by_cases f:d=2
   ·subst f;go_wp2;go_meet;refine⟨by simp[Tr.is],Z1 ⟨by simpa[Tr.D5,Tr.next,Tr.arr]using b.o.1,b.o.2.1,b.o.2.2⟩⟩
   ·have u:(d==2)=false:=by simp[f]
    go_wp2;go_meet;refine⟨by simp[Tr.is,f],Z1 ⟨by simpa[Tr.D5,Tr.next,Tr.arr,f]using b.o.1,b.o.2.1,b.o.2.2⟩⟩
  ·by_cases f:d=0
   ·subst f;go_wp2;go_meet;refine⟨by simp[Tr.is],Z1 ⟨by simpa[Tr.D5,Tr.next,Tr.arr]using (b.o.1.B4 2 (E h)).B4 3 (E i),(b.o.2.1.D1 (p:=Y p 2) (by show w.heap.size≠p;omega) _).D1 (p:=Y p 3) (by show w.heap.size≠p;omega) _,(b.o.2.2.setCell (p:=Y p 2) (.inl rfl) _).setCell (p:=Y p 3) (.inl rfl) _⟩⟩
   ·by_cases l:d=7
    ·subst l;go_wp2;go_meet;refine⟨by simp[Tr.is],Z1 ⟨by simpa[Tr.D5,Tr.next,Tr.arr]using (b.o.1.B4 2 (E h)).B4 3 (E i),(b.o.2.1.D1 (p:=Y p 2) (by show w.heap.size≠p;omega) _).D1 (p:=Y p 3) (by show w.heap.size≠p;omega) _,(b.o.2.2.setCell (p:=Y p 2) (.inl rfl) _).setCell (p:=Y p 3) (.inl rfl) _⟩⟩
    ·have u:(d==0)=false:=by simp[f]
     have m1:(d==7)=false:=by simp[l]
     go_wp2;go_meet;refine⟨by simp[Tr.is,f,l],Z1 ⟨by simpa[Tr.D5,Tr.next,Tr.arr]using (b.o.1.B4 2 (E h)).B4 3 (E i),(b.o.2.1.D1 (p:=Y p 2) (by show w.heap.size≠p;omega) _).D1 (p:=Y p 3) (by show w.heap.size≠p;omega) _,(b.o.2.2.setCell (p:=Y p 2) (.inl rfl) _).setCell (p:=Y p 3) (.inl rfl) _⟩⟩
  ·by_cases f:d=4
   ·subst f;go_wp2;go_meet;refine⟨by simp[Tr.is],Z1 ⟨by simpa[Tr.D5,Tr.next,Tr.arr]using b.o.1,b.o.2.1,b.o.2.2⟩⟩
   ·have u:(d==4)=false:=by simp[f]
    go_wp2;go_meet;refine⟨by simp[Tr.is,f],Z1 ⟨by simpa[Tr.D5,Tr.next,Tr.arr,f]using b.o.1,b.o.2.1,b.o.2.2⟩⟩
  ·by_cases f:d=5
   ·subst f;go_wp2;go_meet;refine⟨by simp[Tr.is],Z1 ⟨by simpa[Tr.D5,Tr.next,Tr.arr]using b.o.1,b.o.2.1,b.o.2.2⟩⟩
   ·have u:(d==5)=false:=by simp[f]
    go_wp2;go_meet;refine⟨by simp[Tr.is,f],Z1 ⟨by simpa[Tr.D5,Tr.next,Tr.arr,f]using b.o.1,b.o.2.1,b.o.2.2⟩⟩
  ·by_cases f:d=5
   ·subst f;go_wp2;go_meet;refine⟨by simp[Tr.is],Z1 ⟨by simpa[Tr.D5,Tr.next,Tr.arr]using b.o.1,b.o.2.1,b.o.2.2⟩⟩
   ·by_cases l:d=6
    ·subst l;go_wp2;go_meet;refine⟨by simp[Tr.is],Z1 ⟨by simpa[Tr.D5,Tr.next,Tr.arr]using b.o.1,b.o.2.1,b.o.2.2⟩⟩
    ·have u:(d==5)=false:=by simp[f]
     have m1:(d==6)=false:=by simp[l]
     go_wp2;go_meet;refine⟨by simp[Tr.is,f,l],Z1 ⟨by simpa[Tr.D5,Tr.next,Tr.arr,f,l]using b.o.1,b.o.2.1,b.o.2.2⟩⟩
  ·have m1:(a==1)=false:=by simp[k1]
   have m2:(a==2)=false:=by simp[y]
   have m3:(a==3)=false:=by simp[k3]
   have m4:(a==4)=false:=by simp[k4]
   have m5:(a==5)=false:=by simp[k5]
   have m6:(a==6)=false:=by simp[k6]
   have m7:(a==7)=false:=by simp[k7]
   go_wp2;go_meet;refine⟨by simp[Tr.is,k1,y,k3,k4,k5,k6,k7],Z1 ⟨by simpa[Tr.D5,Tr.next,Tr.arr,k1,k4]using b.o.1,b.o.2.1,b.o.2.2⟩⟩
 case rest=>
  obtain⟨rfl,O⟩:=hcut;have n:=O.o.1;have z:=O.o.2.1;have al:(Tr.next ⟨tn,d,k,g⟩ ⟨cs,a,c,nth,h,i⟩).last=a:=rfl;have T:Tr.ok ⟨tn,d,k,g⟩ ⟨cs,a,c,nth,h,i⟩=(Tr.is ⟨tn,d,k,g⟩ ⟨cs,a,c,nth,h,i⟩&&(nth==(Tr.next ⟨tn,d,k,g⟩ ⟨cs,a,c,nth,h,i⟩).nth&&(h==(Tr.next ⟨tn,d,k,g⟩ ⟨cs,a,c,nth,h,i⟩).hi&&i==(Tr.next ⟨tn,d,k,g⟩ ⟨cs,a,c,nth,h,i⟩).lo))):=rfl;have A:Tr.D5 ⟨tn,d,k,g⟩ ⟨cs,a,c,nth,h,i⟩=#[I (Tr.next ⟨tn,d,k,g⟩ ⟨cs,a,c,nth,h,i⟩).nth,I d,E (Tr.next ⟨tn,d,k,g⟩ ⟨cs,a,c,nth,h,i⟩).hi,E (Tr.next ⟨tn,d,k,g⟩ ⟨cs,a,c,nth,h,i⟩).lo]:=rfl;rw[A]at n;clear s c2 R S G v H N f0 X f2 f3 A;have b2:=n.B4 1 (I a);have x2:=z.D1 (p:=Y p 1) (by show w.heap.size≠p;omega) (I a);have y:=O.o.2.2.setCell (p:=Y p 1) (.inl rfl) (I a);have X:=n.frozen 1;have v:=n.cell 1;have q0:=z.cell 0;have s:=F.o.c0;simp only at s;rw[s]at q0;simp at v;have q:=Z4 T b2 x2 y;clear s T b2 x2 y n z al;generalize Tr.is ⟨tn,d,k,g⟩ ⟨cs,a,c,nth,h,i⟩=ap at*;go_upto_region 21 with fail
  have U:(Tr.next ⟨tn,d,k,g⟩ ⟨cs,a,c,nth,h,i⟩).arr=#[I (Tr.next ⟨tn,d,k,g⟩ ⟨cs,a,c,nth,h,i⟩).nth,I a,E (Tr.next ⟨tn,d,k,g⟩ ⟨cs,a,c,nth,h,i⟩).hi,E (Tr.next ⟨tn,d,k,g⟩ ⟨cs,a,c,nth,h,i⟩).lo]:=rfl;have aq:=Z1 U;clear U X q0 v;have B:=q.o.2.1;have P:=q.o.2.2.1;have r:=Z1 q.o.1;have ar:=Z1 q.o.2.2.2;clear q;generalize (Tr.next ⟨tn,d,k,g⟩ ⟨cs,a,c,nth,h,i⟩).nth=nn at*;generalize (Tr.next ⟨tn,d,k,g⟩ ⟨cs,a,c,nth,h,i⟩).hi=hh at*;generalize (Tr.next ⟨tn,d,k,g⟩ ⟨cs,a,c,nth,h,i⟩).lo=ll at*;clear O;generalize (wc.setCell (Y p 1) (I a))=w2 at*;have G:=B.cell 0;have H:=B.cell 2;have N:=B.cell 3;have u2:=(P.cell 2).trans F.o.c2;have au:=(P.cell 27).trans F.o.Q7;have av:=(P.cell 28).trans F.o.Q8;simp at G H N u2 au av;have b4:=B;have ax:=Z1 b4;clear B P b4;have a8:=qj h i hh ll;have D:∀W Q,W=w2.drewN Q->Blk W p 151 (Tr.next ⟨tn,d,k,g⟩ ⟨cs,a,c,nth,h,i⟩).arr/\ag (λj=>j=p) w W:=λW Q e=>by
   rw[e,aq.o];exact⟨ax.o.drewN Q,ar.o.drewN Q⟩
  have HF:=Z1 D;clear D
  cases ap with
  |false=>
   go_quiet (fail);go_wp2;go_ret;exact⟨by rw[r.o];rfl,HF.o _ _ rfl⟩
  |true=>
   cases he:(nth==nn)with
   |false=>
    go_quiet (fail);go_wp2;go_ret;exact⟨by rw[r.o,he];rfl,HF.o _ _ rfl⟩
   |true=>
    go_quiet (fail);go_wp2;go_ret;exact⟨by rw[r.o,he];rfl,HF.o _ _ rfl⟩
def sU(l:List Ev)(A:Option Addr)(c n:Nat)(w:World)(ho:∀e∈l,cV e)(hr:an w w.heap.size 34 A n (evs l))(hl:n<=100000):
  Calls prog 26 #[.slice A n c] w λe w'=>e=.returned (.bool (ix l))/\Below w.heap.size w w':=by
 have hn:=kA ho hr;have HN:=Z1 hn;have HO:=Z1 ho;have ap:=@run_makeMap prog;have hz:∀w,(zeroValue 151).run prog w=.ok (.agg Tr.zero.arr) w:=λw=>by kernel_rfl
 have HZ:=Z1 hz;have aa:=World.ownsMap_made (H:=Unit) w prog 3 Rtr;clear hn ho hz
 go_in
 go_wp2;clear ap;go_loopw [10] (λi wr=>∃(k:Nat),k<=n/\i=.int .i64 k/\Hid (∃D tr,Trk prog 3 wr w.heap.size k tr D/\ix l=fy tr (l.drop k)/\(∀q,0<=(tr q).nth/\(tr q).nth<=k)/\Below w.heap.size w wr)) (λi _=>n-(intOf i).toNat)
 case atStart=>exact⟨0,OK _,rfl,Z1 ⟨_,λ_=>Tr.zero,⟨aa,λq=>rfl⟩,rfl,λq=>by simp[Tr.zero],ae (Oy _ _) _⟩⟩
 case round=>
  obtain⟨k,hk,rfl,HW⟩:=hrel;clear aa;obtain⟨D,tr,L,F,T,N⟩:=HW.o;by_cases bb:k<n
  ·have O:k<l.length:=by have:=HN.o;omega
   obtain⟨b,o,rfl,_,hc⟩:=mw HO.o (hr.below N) O;have G:=HO.o _ (OR O);have s:=AF (tr:=tr) O;generalize l[k]=x at*;rw[s]at F;have ab:=dw hc;have c1:=eu (w:=wr) (t:=79) G.c1;have m:=Maps.keyOf_int_mk underlying3 (by have:=G.Q0;unfold aq at this;simpa[Lit.wf,IntKind.min,IntKind.max,IntKind.signed,IntKind.bits]using this);obtain⟨v,ps,aw,hv⟩:=(L.own.alloc (.cells x.cs 79)).lookup (Maps.int_keyed underlying3) underlying149 (HZ.o _) (BB Tr.zero) m;rw[L.at_]at hv;obtain rfl:=Mo hv;have a:=Z9 G.size G.all ab L F T N G m;have HR:=Z1 hr;have bc:=T x.task;clear hc ab s L F T N G hv m HW hr;have a2:(k:Int)<(n:Int):=by omega
   have u:=(Blk.A8 wr 79 x.cs rfl).alloc (.cells (tr x.task).arr 151);have ac:=Blk.A8 (wr.alloc (.cells x.cs 79)) 151 (tr x.task).arr (g:=wr.heap.size+1) (by simp);have ax:=(u.cell 1).trans a.o.2.2.2.2.2.2.2.1.c1;have P:=Z3 u ac (bQ u);clear u ac;have d:=Z1 (show(tr x.task).arr.size=4/\((tr x.task).arr.all λv=>v.oneCell')=true from⟨rfl,by simp[Tr.arr,Value.oneCell']⟩);have h:kU tr x=((decide (0<=x.task)&&decide (x.task<32))&&(tr x.task).ok x):=rfl;have Q:=Z1 h;clear h;have R:Below w.heap.size w ((wr.alloc (.cells x.cs 79)).alloc (.cells (tr x.task).arr 151)):=ae (ae a.o.2.2.2.2.2.2.1 _) _;have f:=Z1 R;clear R;by_cases h0:x.task<0
   ·go_wp2_with (first|(refine aG ba rfl (.tmp 12) rfl ⟨b,o+k*34,none⟩ (by rfl) x.cs a.o.1 a.o.2.2.1 ?_)|(refine aS ba rfl rfl ?_)|(refine aS kV rfl rfl ?_)|(refine aT ba rfl (.tmp 5) (.tmp 13) rfl _ rfl (by rfl) x.cs _ (by rfl) _ a.o.1 ba.D6 a.o.2.1 ?_)|(refine aT kV rfl (.tmp 6) (.tmp 17) rfl _ rfl (by rfl) (tr x.task).arr _ (by rfl) _ d.o.1 kV.D6 d.o.2 ?_))
    go_ret;refine⟨cN ?_,f.o⟩;rw[a.o.2.2.2.2.1,Q.o];simp;omega
   ·by_cases h1:32<=x.task
    ·go_wp2_with (first|(refine aG ba rfl (.tmp 12) rfl ⟨b,o+k*34,none⟩ (by rfl) x.cs a.o.1 a.o.2.2.1 ?_)|(refine aS ba rfl rfl ?_)|(refine aS kV rfl rfl ?_)|(refine aT ba rfl (.tmp 5) (.tmp 13) rfl _ rfl (by rfl) x.cs _ (by rfl) _ a.o.1 ba.D6 a.o.2.1 ?_)|(refine aT kV rfl (.tmp 6) (.tmp 17) rfl _ rfl (by rfl) (tr x.task).arr _ (by rfl) _ d.o.1 kV.D6 d.o.2 ?_))
     go_ret;refine⟨cN ?_,f.o⟩;rw[a.o.2.2.2.2.1,Q.o];simp;omega
    ·go_wp2_with (first|(refine aG ba rfl (.tmp 12) rfl ⟨b,o+k*34,none⟩ (by rfl) x.cs a.o.1 a.o.2.2.1 ?_)|(refine aS ba rfl rfl ?_)|(refine aS kV rfl rfl ?_)|(refine aT ba rfl (.tmp 5) (.tmp 13) rfl _ rfl (by rfl) x.cs _ (by rfl) _ a.o.1 ba.D6 a.o.2.1 ?_)|(refine aT kV rfl (.tmp 6) (.tmp 17) rfl _ rfl (by rfl) (tr x.task).arr _ (by rfl) _ d.o.1 kV.D6 d.o.2 ?_)|(refine fh ba (by rfl) (.tmp 5) rfl ⟨wr.heap.size,0,none⟩ (by rfl) x.cs a.o.1 P.o.2.2 ?_))
     refine(xJ (tr x.task) x (wr.heap.size+1) _ a.o.2.2.2.2.2.2.2.1 P.o.2.1 (by omega)).mono ?_;rintro e w1 ⟨rfl,ad,y⟩;have h:kU tr x=(tr x.task).ok x:=by
      rw[Q.o];simp;omega
     have z:=f.o.trans (y.below (B:=w.heap.size) f.o.size λj hj=>by have:=a.o.2.2.2.2.2.2.1.size;omega);have p:=y.B0 P.o.1 (by omega);have r:=Z5 h z (bQ ad) y p;have e1:=(p.cell 1).trans a.o.2.2.2.2.2.2.2.1.c1;clear h z ad y p c1 ax aw
     cases hk9:(tr x.task).ok x with
     |false=>
      go_wp2;go_ret;refine⟨cN ?_,r.o.2.1⟩;rw[a.o.2.2.2.2.1,r.o.1,hk9];rfl
     |true=>
      have af:=a.o.2.2.2.1.own.alloc (.cells x.cs 79);have ag:=af.alloc (.cells (tr x.task).arr 151);have a4:=a.o.2.2.2.1.own.lt;have ah:w1.ownsMap prog 3 Rtr w.heap.size k D:=by
       obtain⟨es,U,he,q1,q2,q3⟩:=ag;exact⟨es,U,(r.o.2.2.2.1.block _ (by simp;omega) (by omega)).trans he,q1,q2,q3⟩
      have ay:=Z1 ah;clear af ag ah
      go_wp2_with (first|(refine aG kV rfl (.tmp 6) rfl ⟨wr.heap.size+1,0,none⟩ (by rfl) ((tr x.task).next x).arr rfl r.o.2.2.1 ?_)|(at_mapUpdate;refine wpList_mapUpdate_own _ rfl _ _ _ 149 rfl 3 151 (Maps.int_keyed underlying3) underlying149 Rtr w.heap.size k D rfl ay.o (by unfold maxLen;omega) _ _ (.int .i64 x.task) rfl rfl a.o.2.2.2.2.2.2.2.2 (lR ((tr x.task).next x)) [] (BB _) ?_;intro w2 X S))
      go_roundw
      case rel=>exact⟨k+1,by omega,by go_num,Z1 ⟨_,cT tr x,a.o.2.2.2.1.put x X,by rw[a.o.2.2.2.2.1,r.o.1,hk9];rfl,λq=>JK a.o.2.2.2.2.2.1 x q,r.o.2.1.grown S r.o.2.1.size λj hj=>by injection hj with hj;omega⟩⟩
      case measure=>simp[intOf];omega
  ·obtain rfl:k=n:=by omega
   have hf:l.drop k=[]:=Pt (by have:=HN.o;omega);rw[hf]at F;have ai:=Z2 F N;clear F N L T hf;go_wp2;go_ret;exact⟨cN (by rw[ai.o.1];rfl),ai.o.2⟩
end
def qS{w:World}{B' s s' n n':Nat}{e e':TypeId}{v':Value}{xs':List Value}(h:aQ w B e s v n xs)(h':w.ownsRow B' e' s' v' n' xs')(hne:e≠e'):∀k,v.ownBlock=some k->some k≠v'.ownBlock:=by
 intro k b a
 rcases h'.2 with⟨rfl,_⟩|⟨c,f,g,rfl,_,d,_⟩
 ·simp[Value.ownBlock]at a
 ·have:k=c:=by simpa[Value.ownBlock]using a
  subst this;exact h.ne d hne b
def bt.drew{w:World}{t:TypeId}{l:Lk}(h:bt w p q B t cs sl l):bt w.drew p q B t cs sl l:=⟨h.B0,h.line.D3 λ_ _=>rfl,h.r,h.m,h.s⟩
def bt.shift{w:World}{t:TypeId}{l:Lk}(h:bt w p q B t cs sl l)(hne:393≠t)
  (hT:aQ w B 393 2 sl2 ln.length (eJ ln)):bt (w.setCell (Y p (q+2)) sl2) p q B t (cs.setIfInBounds (q+2) sl2) sl2 ⟨l.r,l.w,ln⟩:=
 ⟨h.B0.B4 (q+2) sl2,hT.D3 λk a=>Pd w _ _ k λe=>hT.ne h.B0 hne (by rw[a,e]),(bf zO _).trans h.r,(bf zO _).trans h.m,cP h.s _⟩
def bt.Q4{w:World}{t:TypeId}{l:Lk}(h:bt w p q B t cs sl l)(hne:393≠t)
  (hT:aQ w B 393 2 sl2 ln.length (eJ ln))(t2:TypeId)(c2:Array Value):bt ((w.setCell (Y p (q+2)) sl2).alloc (.cells c2 t2)) p q B t (cs.setIfInBounds (q+2) sl2) sl2 ⟨l.r,l.w,ln⟩/\Blk ((w.setCell (Y p (q+2)) sl2).alloc (.cells c2 t2)) w.heap.size t2 c2:=
 ⟨(h.shift hne hT).up (ae (Oy _ _) _),Blk.A8 _ _ _ (by simp[World.setCell])⟩
def bt.grown{w:World}{B' s n:Nat}{t:TypeId}{l:Lk}(h:bt w p q B t cs sl l)(hg:w.grownBy w' v.ownBlock)(ho:w.ownsRow B' 3 s v n xs)(hp:p<B'):bt w' p q B t cs sl l:=
 ⟨h.B0.grown hg (λe=>p8 ho hp e.symm),h.line.D3 λk a=>hg.block k (h.line.lt k a).2 (qS h.line ho zP k a),h.r,h.m,h.s⟩
def vX{w0 w:World}{s n:Nat}{e:TypeId}(h:ag (λj=>j=p) w0 w)(hg:w.grownBy w' v.ownBlock)(ho:w.ownsRow w0.heap.size e s v n xs):ag (λj=>j=p) w0 w':=
 ⟨hg.os.trans h.os,hg.tape.trans h.tape,hg.output.trans h.output,OJ h.size hg.size,λk a b=>(hg.block k (OV a h.size) λe=>by have:=(ho.lt k e.symm).1;omega).trans (h.block k a b)⟩
def Kb(w:World)(p q B:Nat)(ty:TypeId)(cs:Array Value)(sl:Value)(l:Lk)(out:List Int)(e:Ending)(w':World):Prop:=
 ∃v,e=.returned (.tuple #[v,I 0])/\w'.ownsRow w.heap.size 3 1 v out.length (i64s out)/\∃cs' sl',bt w' p q B ty cs' sl' l/\bF q 3 cs cs'/\ag (λj=>j=p) w w'/\sl'.ownBlock=sl.ownBlock
def rP(p q B:Nat)(ty:TypeId)(cs:Array Value)(sl:Value)(l:Lk)(t:Int)(w:World)(h:bt w p q B ty cs sl l)(hl:l.ok)(hne:393≠ty)(hn:l.line.length<=900)(ht: -9223372036854775808<=t/\t<=9223372036854775807)(hz:eD l t≠0):
  C 277 #[Z p q,I t] w (Kb w p q B ty cs sl (mO l t).1 (mO l t).2):=by
 have D:=mj t;have HT:=Z1 ht;have hh:=ml p q B ty cs sl l t w h hl ht;have T:=iG t;have a1:=u32_andNot_nat l.r (bitN t) hl.r T;have a2:=u32_andNot_nat l.w (bitN t) hl.w T;have ao:mO l t=eX l.line (clr l.r (bitN t)) (clr l.w (bitN t)):=rfl;have d1:(eD l t==0)=false:=by simpa using hz
 have l1:=wU (bitN t) hl.r;have l2:=wU (bitN t) hl.w;have e1:l.r&&& (4294967295-bitN t)=clr l.r (bitN t):=rfl;have e2:l.w&&& (4294967295-bitN t)=clr l.w (bitN t):=rfl;rw[e1]at a1;rw[e2]at a2;generalize mO l t=bi at*;generalize eD l t=hv at*;generalize clr l.r (bitN t)=U at*;generalize clr l.w (bitN t)=X at*;have ap:=Z1 ao;have HH:=Z1 hh;clear ao hh hz e1 e2;have c0:=h.c0;have c1:=h.c1;have f0:=h.B0.frozen q;have f1:=h.B0.frozen (q+1);have hp:=h.B0.lt
 go_in
 go_wp2_with fail;refine HH.o.mono ?_;rintro e w1 ⟨rfl,rfl⟩;go_wp2;refine zb 9 ?_;repeat still_step
 still_call ((D _ HT.o).mono λe w1 h=>⟨h.1,h.2.symm⟩);repeat still_step
 refine wpStill_nil ?_;go_wp2;refine zb 9 ?_;repeat still_step
 still_call ((D _ HT.o).mono λe w1 h=>⟨h.1,h.2.symm⟩);repeat still_step
 refine wpStill_nil ?_;go_wp2;go_loopg [6] l.line.length (λk v wr=>∃(l':Lk) (R:Array Value) (aa:Value) (x:List Int),k=l'.line.length/\bt wr p q B ty R aa l'/\l'.ok/\x.length+l'.line.length<=900/\wr.ownsRow w.heap.size 3 1 v x.length (i64s x)/\ag (λj=>j=p) w wr/\
  Hid (bi=((eX l'.line l'.r l'.w).1,x++(eX l'.line l'.r l'.w).2)/\bF q 3 cs R/\aa.ownBlock=sl.ownBlock))
 case atStart=>
  refine⟨⟨U,X,l.line⟩,_,sl,[],rfl,?_,⟨l1,l2,hl.line⟩,by simpa using hn,Pn _ _ _ _,?_,Z1 ⟨by rw[ap.o];rfl,((bF.refl q 3 cs).B4 (i:=q) zO zO (.int .u32 U)).B4 (i:=q+1) zO zO (.int .u32 X),rfl⟩⟩
  ·have k1:ag (λj=>j=p) w ((w.setCell (Y p q) (.int .u32 U)).setCell (Y p (q+1)) (.int .u32 X)):=((ag.refl (λj=>j=p) w).setCell (p:=Y p q) (.inl rfl) _).setCell (p:=Y p (q+1)) (.inl rfl) _;refine bt.drew (bt.drew ?_);exact h.D3 (w':=(w.setCell (Y p q) (.int .u32 U)).setCell (Y p (q+1)) (.int .u32 X)) hne ((h.B0.B4 q (.int .u32 U)).B4 (q+1) (.int .u32 X)) ((bf zO _).trans (cP h.r _)) (cP ((bf zO _).trans h.m) _) ((bf zO _).trans ((bf zO _).trans h.s)) k1
  ·exact(((ag.refl (λj=>j=p) w).setCell (p:=Y p q) (.inl rfl) _).setCell (p:=Y p (q+1)) (.inl rfl) _).drew.drew
 case round=>
  obtain⟨⟨r,m,a⟩,R,aa,x,aq,f,ar,ab,z,hK,ac⟩:=hrel;have HR:=Z1 ac.o.1;have F:=Z1 ac.o.2;clear ac;have g2:=f.c2;have cp:=f.B0.lt;have k2:=f.B0.frozen (q+2);have HG:=Z1 aq;have N:=Z1 ar;have Q:=Z1 ab;clear aq ar ab h hl hn HH ap D T d1 a1 a2 l1 l2 c0 c1 f0 f1
  rcases a with _|⟨⟨b,d⟩,a⟩
  ·obtain⟨A,c,rfl,_,_,_⟩:=f.line.form;have HL:=Z1 f;have HK:=Z1 hK;have HO:=Z1 z;clear f hK z;simp only[OE]at g2;go_wp2
   go_ret2
   rw[HR.o];exact⟨u6,rfl,by simpa[eX]using HO.o,_,_,HL.o,F.o.1,HK.o,F.o.2⟩
  ·obtain⟨g,au,O,bo,a4,a5,hrest⟩:=aQ.rest (n:=a.length) f.line;subst bo;obtain⟨A,c,G,_,_,av⟩:=f.line.form;obtain⟨bl,o,hA,_,q0,q1⟩:=Bo (k:=0) av zS;have aw:A=some (Y g au):=by injection G with h1 _ _;exact h1.symm
   have bq:((Y bl o):Addr)=(Y g au):=by rw[aw]at hA;injection hA with hA;exact hA.symm
   injection bq with br bs;subst br bs;simp only[Rz,Qt,QW]at q0 q1;have ae:=ry p q B ty R _ _ d wr f;have H:=Z1 ae;clear G av hA aw ae;have L:=Z1 hrest;clear hrest;try simp only[OC]at g2
   have cq:a.length<=900:=by have:=Q.o;simp only[OC]at this;omega
   have cj:O<9223372036854775807:=by simpa[maxLen]using a5
   by_cases S:fL ⟨r,m,(b,d)::a⟩ d=true
   ·have P:eX ((b,d)::a) r m=((eX a (ei ⟨r,m,a⟩ (b,d)).r (ei ⟨r,m,a⟩ (b,d)).w).1,b::(eX a (ei ⟨r,m,a⟩ (b,d)).r (ei ⟨r,m,a⟩ (b,d)).w).2):=by
     rw[eX];exact OB S
    have af:=Z1 P;rw[S]at H;have ah:=IB (b,d) N.o;have a6:=Z1 ah;have ai: -9223372036854775808<=b/\b<=9223372036854775807:=by have:=N.o.line (b,d) zS;simp only at this;omega
    have a7:=Z1 ai;have a8:Hid (Lk.ok ⟨r,m,a⟩):=Z1 ⟨N.o.r,N.o.w,λy hy=>N.o.line y (by simp[hy])⟩;have cr:x.length<=899:=by have:=Q.o;simp only[OC]at this;omega
    have G:∃o2,Hid (O=0/\o2=o\/O≠0/\o2=o+2)/\Hid (aQ wr B 393 2 (V bl o2 a.length O) a.length (eJ a)):=by
     by_cases h0:O=0
     ·exact⟨o,Z1 (.inl ⟨h0,rfl⟩),by have:=L.o;rw[OB zO]at this;exact this⟩
     ·exact⟨o+2,Z1 (.inr ⟨h0,rfl⟩),by have:=L.o;rw[Oz zO]at this;exact this⟩
    obtain⟨o2,bu,bv⟩:=G;clear S ah ai P L;have cl:=hK.size;have bw:=Z1 hK;have bx:=Z1 z;have bz:=Z1 f;clear f z hK
    rcases bu.o with⟨h0,h1⟩|⟨h0,h1⟩
    all_goals
     subst h1;try (subst h0;clear a4)
     obtain⟨ax,D⟩:=bz.o.Q4 hne bv.o 393 #[I b,.bool d];have b0:=Z1 ax;have b1:=Z1 D;clear ax D;go_wp2_with fail;refine H.o.mono ?_;rintro e w2 ⟨rfl,rfl⟩;go_wp2_with fail;refine(wW p q B ty _ _ ⟨r,m,a⟩ (b,d) _ b0.o a8.o hne a7.o).mono ?_;rintro e w4 ⟨rfl,ct,h4,ay,ak⟩;have b3:=Z1 ay;clear ay;have az:=ak.B0 b1.o zO;have i0:=az.cell 0;simp at i0;have u:=(((ag.refl (λj=>j=p) wr).setCell (p:=Y p (q+2)) (.inl rfl) _).alloc _).trans ak;have al:=u.own bx.o hp;have cu:=u.size;have H4:=Z1 h4;have b4:=Z1 u;clear h4 ak az u
     go_wp2_with (at_builtin;go_must (refine bZ lV zP rfl (.tmp 64) (.tmp 67) rfl rfl al zO zS rfl rfl zV zO zU ?_);intro v' w' b5 a0)
     go_roundg a.length
     case measure=>rw[HG.o];simp
     case rel=>
      refine⟨ei ⟨r,m,a⟩ (b,d),_,_,x++[b],by rw[lN],H4.o.grown a0 al hp,a6.o,?_,?_,?_,?_⟩
      ·rw[lN];have:=Q.o;simp only[OC]at this;simp;omega
      ·simpa[i64s]using b5
      ·exact vX (bw.o.trans b4.o) a0 al
      ·exact Z1 ⟨by rw[HR.o,af.o,lN];simp,(F.o.1.B4 (i:=q+2) zO zO _).trans b3.o,F.o.2⟩
   ·have b6:fL ⟨r,m,(b,d)::a⟩ d=false:=by simpa using S
    rw[b6]at H;have P:eX ((b,d)::a) r m=(⟨r,m,(b,d)::a⟩,[]):=by rw[eX];exact Oz S
    have af:=Z1 P;clear S P;go_wp2_with fail;refine H.o.mono ?_;rintro e w2 ⟨rfl,rfl⟩;go_wp2
    go_ret2
    rw[HR.o,af.o];exact⟨u6,rfl,by simpa using z,_,_,f,F.o.1,hK,F.o.2⟩
def pO{w:World}{B B' s s' n n':Nat}{e e':TypeId}{v v':Value}{xs xs':List Value}(h:aQ w B e s v n xs)(h':aQ w B' e' s' v' n' xs')(hne:e≠e'):∀k,v.ownBlock=some k->some k≠v'.ownBlock:=by
 intro k b a
 rcases h'.2 with⟨rfl,_⟩|⟨c,f,g,i,rfl,_,d,_⟩
 ·simp[Value.ownBlock]at a
 ·have:k=c:=by simpa[Value.ownBlock]using a
  subst this;exact h.ne d hne b
def ag.U3{L:Nat->Prop}{w w':World}(h:ag L w w'){B s n:Nat}{e:TypeId}{v:Value}{xs:List Value}(hv:w.ownsRow B e s v n xs)(hL:∀k,v.ownBlock=some k->¬L k):w'.ownsRow B e s v n xs:=by
 refine⟨hv.1,?_⟩
 rcases hv.2 with a|⟨g,b,c,rfl,d,a,f⟩
 ·exact .inl a
 ·exact .inr ⟨g,b,c,rfl,d,(h.block g (Blk.lt a) (hL g rfl)).trans a,f⟩
def Gh{w:World}{B g:Nat}{e:TypeId}{s:Nat}(h:Blk w g e #[])(hB:B<=g):w.ownsRow B e s (V g 0 0 0) 0 []:=by
 have:=eI (s:=s) (n:=0) h hB zS (by simp[maxLen])
 simpa using this
def Gi(xs:List Int)(A:Option Addr)(c n:Nat)(w:World)(hr:an w w.heap.size 1 A n (i64s xs))(hn:n<=100000):
  C 313 #[.slice A n c] w λe w'=>∃v,e=.returned v/\aL 1 w w' 3 v n (i64s xs):=by
 rcases A with _|b
 ·have a:n=0:=by
   rcases PR n with a|a
   ·exact a
   ·obtain⟨b,h,_⟩:=hr.2 a
    cases h
  subst a;have p:=OU (by simpa using hr.1);rw[p];have q:∀w,(binOp .eql 25 (.slice none 0 c) (.slice none 0 0)).run prog w=.ok (.bool true) w:=λw=>zR
  go_in
  go_wp2;go_ret;exact⟨_,rfl,aL.F8 1 w 3⟩
 ·have r:=Blk.A8 w 3 #[] (g:=w.heap.size) rfl;have d:=Gh (B:=w.heap.size) (s:=1) r (OA _);have f:=hr.alloc (OA _) (.cells #[] 3);obtain⟨i,t,u,j,l⟩:=info_parts lV.info;have x:=Ho xs;have q:∀w,(binOp .eql 25 (.slice (some b) n c) (.slice none 0 0)).run prog w=.ok (.bool false) w:=λw=>zR
  go_in
  go_wp2_with (at_builtin;go_must (refine bP (w.alloc (.cells #[] 3)) rfl (.tmp 5) (.tmp 6) _ rfl w.heap.size 3 i (I 0) 1 8 lV.under t u j l rfl zP _ 0 [] rfl d w.heap.size (some b) n c (i64s xs) rfl f x zU zO zS ?_);intro y w' m o _)
  go_ret;refine⟨y,rfl,by simpa using m,?_⟩;exact(ae (Oy _ w) (.cells #[] 3)).grown o zS λk z=>(d.lt k z).1
structure cF(w:World)(p q B:Nat)(t:TypeId)(cs:Array Value)(sl al:Value)(l:Lk)(zs:List Int):Prop where
 lock:bt w p q B t cs sl l
 B3:aQ w B 3 1 al zs.length (i64s zs)
 a:cs[q+3]?=some al
structure oQ(t:TypeId):Prop where
 want:393≠t
 int:3≠t
section
variable {w w':World} {p q B:Nat} {t:TypeId} {cs cs':Array Value} {sl sl' al al2:Value} {l l':Lk} {zs zs2:List Int}
def cF.c3(h:cF w p q B t cs sl al l zs):w.cell? (Y p (q+3))=some al:=(h.lock.B0.cell (q+3)).trans h.a
def cF.up(h:cF w p q B t cs sl al l zs)(hb:M w w'):cF w' p q B t cs sl al l zs:=⟨h.lock.up hb,h.B3.later hb,h.a⟩
def cF.F7(h:cF w p q B t cs sl al l zs)(ht:oQ t):al.ownBlock≠some p:=h.B3.ne h.lock.B0 ht.int
def cF.R6(h:bt w p q B t cs sl l)(ht:oQ t)(ha:cs[q+3]?=some al)(hT:aQ w B 3 1 al2 zs2.length (i64s zs2)):cF (w.setCell (Y p (q+3)) al2) p q B t (cs.setIfInBounds (q+3) al2) sl al2 l zs2:=
 ⟨⟨h.B0.B4 (q+3) al2,h.line.D3 λk a=>Pd w _ _ k λe=>h.line.ne h.B0 ht.want (by rw[a,e]),(bf zO _).trans h.r,(bf zO _).trans h.m,(bf zO _).trans h.s⟩,
  hT.D3 λk a=>Pd w _ _ k λe=>hT.ne h.B0 ht.int (by rw[a,e]),cP ha _⟩
def cF.grown(h:cF w p q B t cs sl al l zs)(ht:oQ t)(hg:w.grownBy w' al.ownBlock):bt w' p q B t cs sl l:=
 ⟨h.lock.B0.grown hg λe=>h.F7 ht e.symm,h.lock.line.D3 λk a=>hg.block k (h.lock.line.lt k a).2 (pO h.lock.line h.B3 zP k a),h.lock.r,h.lock.m,h.lock.s⟩
def cF.dropped(h:cF w p q B t cs sl al l zs)(ht:oQ t)(h2:bt w' p q B t cs' sl' l')(hK:ag (λj=>j=p) w w')(ho:bF q 3 cs cs'):cF w' p q B t cs' sl' al l' zs:=
 ⟨h2,h.B3.D3 λk b=>hK.block k (h.B3.lt k b).2 λe=>h.F7 ht (by rw[b,e]),(ho.2 _ zO).trans h.a⟩
def cF.asked(h:cF w p q B t cs sl al l zs)(ht:oQ t)(h2:bt w' p q B t cs' sl' l')(hK:ag (λj=>j=p\/sl.ownBlock=some j) w w')(ho:bF q 3 cs cs'):cF w' p q B t cs' sl' al l' zs:=
 ⟨h2,h.B3.D3 λk b=>hK.block k (h.B3.lt k b).2 λe=>e.elim (λe=>h.F7 ht (by rw[b,e])) λe=>pO h.B3 h.lock.line zP k b e.symm,(ho.2 _ zO).trans h.a⟩
end
def Gj(p q B:Nat)(ty:TypeId)(cs:Array Value)(sl al:Value)(l:Lk)(zs:List Int)(t:Int)(w:World)(h:cF w p q B ty cs sl al l zs)(hty:oQ ty)(hl:l.ok)(hn:l.line.length<=900)(has:zs.length<=900)(hBw:B<=w.heap.size)(ht: -9223372036854775808<=t/\t<=9223372036854775807)(hz:eD l t=2):
  C 357 #[Z p q,I t] w λe w'=>
   (∃v,e=.returned (.tuple #[v,I 0]))/\∃cs' sl' al',cF w' p q B ty cs' sl' al' (mO l t).1 (zs++[t])/\bF q 4 cs cs'/\ag (λj=>j=p\/al.ownBlock=some j) w w'/\sl'.ownBlock=sl.ownBlock/\(al'.ownBlock=al.ownBlock\/∀k,al'.ownBlock=some k->w.heap.size<=k):=by
 have u:=ml p q B _ _ sl l t w h.lock hl ht;rw[hz]at u;have G:=Z1 u;have H:=Z1 hz;have L:=Z1 ht;have S:=h.c3;have R:=h.F7 hty;have T:=h.lock.B0.lt;obtain⟨A,c,rfl,_,_,_⟩:=h.B3.form
 go_in
 go_wp2_with fail;refine G.o.mono ?_;rintro e U ⟨rfl,rfl⟩;have N:=h.B3
 go_wp2_with (at_builtin;go_must (refine rK lV zP rfl (.tmp 20) (.tmp 22) rfl rfl N hBw rfl rfl rfl zV zO zU ?_);intro X w' f g O b;obtain⟨r,s,rfl,_,_,_⟩:=f.form;have m:w.grownBy w' (Value.slice A zs.length c).ownBlock:=g;clear g;have x:=Z1 b;clear b;have d:=cF.grown h hty m;have f3:=d.B0.frozen (q+3);have q3:w'.cell? (Y p (q+3))=some (Value.slice A zs.length c):=(d.B0.cell (q+3)).trans h.a)
 have y:cF (w'.setCell (Y p (q+3)) (Value.slice r (zs.length+1) s)) p q B ty (cs.setIfInBounds (q+3) (Value.slice r (zs.length+1) s)) sl (Value.slice r (zs.length+1) s) l (zs++[t]):=cF.R6 d hty h.a (by simpa[i64s]using f);refine(rP p q B _ _ sl l t _ y.lock hl hty.want hn L.o (by rw[H.o];decide)).mono ?_;rintro e w2 ⟨v,rfl,_,z,D,P,n,hK,F⟩;go_wp2
 go_ret2
 have Q:ag (λj=>j=p\/(Value.slice A zs.length c).ownBlock=some j) w w':=dl (ag.refl (λ_=>False) w) m (λ_ h=>h.elim) λk e=>.inr e;exact⟨⟨v,rfl⟩,z,D,_,y.dropped hty P hK n,((bF.refl q 4 cs).B4 (i:=q+3) zO zO _).trans (n.more (OA _) zO),(Q.setCell (p:=Y p (q+3)) (.inl (.inl rfl)) _).trans (hK.C3 λk e=>.inl e),F,x.o⟩
def aQ.R7{w:World}{B:Nat}{v:Value}{t:Int}{zs:List Int}(h:aQ w B 3 1 v (t::zs).length (i64s (t::zs))):
  ∃g off cap o2,v=V g off (zs.length+1) (cap+1)/\zs.length<=cap/\cap<maxLen/\w.cell? (Y g off)=some (I t)/\(cap=0/\o2=off\/cap≠0/\o2=off+1)/\
   aQ w B 3 1 (V g o2 zs.length cap) zs.length (i64s zs):=by
 obtain⟨g,off,cap,d,f,i,a⟩:=aQ.rest (n:=zs.length) h;have j:w.cell? (Y g off)=some (I t):=by
  obtain⟨A,c,e,_,_,m⟩:=h.form;obtain⟨b,o,p,_,q⟩:=m.J6 (k:=0) zP zS;have:=q 0 (I t) (by simp[i64s]);rw[d]at e;injection e with e _ _;rw[p]at e;injection e with e;injection e with r s;subst r s
  simpa using this
 by_cases l:cap=0
 ·refine⟨g,off,cap,off,d,f,i,j,.inl ⟨l,rfl⟩,?_⟩;rw[OB zO]at a;exact a
 ·refine⟨g,off,cap,off+1,d,f,i,j,.inr ⟨l,rfl⟩,?_⟩;rw[Oz zO]at a;exact a
def Gk(p q B:Nat)(ty:TypeId)(cs:Array Value)(sl al:Value)(l:Lk)(w:World)(h:cF w p q B ty cs sl al l []):
  C 279 #[Z p q] w λe w'=>e=.returned (.tuple #[I (-1),.bool false])/\w=w':=by
 have a:=h.c3;obtain⟨A,c,rfl,_,_,_⟩:=h.B3.form;simp only[OE]at a
 go_in
 go_wp2
 go_ret2
 exact⟨rfl,rfl⟩
def xV(p q B:Nat)(ty:TypeId)(cs:Array Value)(sl al:Value)(l:Lk)(t:Int)(zs:List Int)(w:World)(h:cF w p q B ty cs sl al l (t::zs))(hty:oQ ty)(hl:l.ok)(hn:l.line.length<=900)(has:zs.length<=900)(hBw:B<=w.heap.size)(ht: -9223372036854775808<=t/\t<=9223372036854775807):
  C 279 #[Z p q] w λe w'=>
   e=.returned (.tuple #[I t,.bool (gI l t true).2.1])/\∃cs' sl' al',cF w' p q B ty cs' sl' al' (gI l t true).1 zs/\bF q 4 cs cs'/\ag (λj=>j=p\/sl.ownBlock=some j) w w'/\al'.ownBlock=al.ownBlock/\(sl'.ownBlock=sl.ownBlock\/∀k,sl'.ownBlock=some k->w.heap.size<=k):=by
 have z:=Z1 ht;have Q:=h.c3;have N:=h.F7 hty;have R:=h.lock.B0.lt;have S:=h.lock.B0.frozen (q+3);obtain⟨g,O,c,A,rfl,b,f,P,m,D⟩:=aQ.R7 h.B3;have F:c<9223372036854775807:=by simpa[maxLen]using f
 have G:=cF.R6 h.lock hty h.a D;have n:=Z1 G;have T:=Z1 h;have r:ag (λj=>j=p\/sl.ownBlock=some j) w (w.setCell (Y p (q+3)) (V g A zs.length c)):=(ag.refl _ w).setCell (p:=Y p (q+3)) (.inl (.inl rfl)) _;have H:=Z1 r;have U:=Z1 b
 rcases m with⟨s,u⟩|⟨s,u⟩
 all_goals
  subst u;try (subst s;clear b)
  go_in
  go_wp2_with fail;refine(ud p q B _ _ sl l t true _ n.o.lock hl hty.want hn (by simpa[World.setCell]using hBw) z.o).mono ?_;rintro e X ⟨rfl,v,x,L,d,hK,y⟩;go_wp2
  go_ret2
  exact⟨rfl,v,x,_,n.o.asked hty L hK d,((bF.refl q 4 cs).B4 (i:=q+3) zO zO _).trans (d.more (OA _) zO),H.o.trans hK,rfl,by simpa[World.setCell]using y⟩
def xW(p q B:Nat)(ty:TypeId)(cs:Array Value)(sl al:Value)(l:Lk)(zs:List Int)(w:World)(h:cF w p q B ty cs sl al l zs)(hn:zs.length<=900):
  C 299 #[Z p q] w λe w'=>∃v,e=.returned v/\aL 1 w w' 3 v zs.length (i64s zs):=by
 have d:=h.c3;obtain⟨A,c,rfl,_,_,a⟩:=h.B3.form
 go_in
 go_wp2_with fail;refine(Gi zs A c zs.length w a zO).mono ?_;rintro e f ⟨v,rfl,b⟩;go_wp2;go_ret;exact⟨v,rfl,b⟩
def Dt(f:Lk->Int->Lk)(l:Lk)(a:List Int)(t:Int):(a++[t]).foldl f l=f (a.foldl f l) t:=zS
def cF.O0{w w':World}{p q B B' n:Nat}{ty:TypeId}{cs:Array Value}{sl al v:Value}{l:Lk}{zs:List Int}{xs:List Value}(h:cF w p q B ty cs sl al l zs)(hg:w.grownBy w' v.ownBlock)(ho:w.ownsRow B' 3 1 v n xs)(hp:p<B')(hal:∀k,al.ownBlock=some k->k<B'):cF w' p q B ty cs sl al l zs:=
 ⟨h.lock.grown hg ho hp,h.B3.D3 λk b=>hg.block k (h.B3.lt k b).2 λe=>by have:=(ho.lt k e.symm).1;have:=hal k b;omega,h.a⟩
def AH(p q B:Nat)(ty:TypeId)(cs:Array Value)(sl al:Value)(l:Lk)(zs:List Int)(w:World)(h:cF w p q B ty cs sl al l zs)(hty:oQ ty)(hl:l.ok)(hn:l.line.length<=100)(hz:zs.length<=100)(hBw:B<=w.heap.size)(ht:rZ zs):
  C 284 #[Z p q] w λe w'=>(∃v,e=.returned v)/\∃cs' sl' al',cF w' p q B ty cs' sl' al' (kM l zs) []/\bF q 4 cs cs'/\ag (λj=>j=p\/sl.ownBlock=some j) w w'/\al'.ownBlock=al.ownBlock/\(sl'.ownBlock=sl.ownBlock\/∀k,sl'.ownBlock=some k->w.heap.size<=k):=by
 have Q:=Z1 (xW p q B ty cs sl al l zs w h zO);have R:∀k,al.ownBlock=some k->k<w.heap.size:=λk a=>(h.B3.lt k a).2;have hp:=h.lock.B0.lt;have S:=Z1 R;have HL:=Z1 hl;have HT:=Z1 ht;have HN:=Z1 hn;generalize T:zs.length=n at*;have r:=Z1 T
 go_in
 go_wp2_with fail;refine Q.o.mono ?_;rintro e w1 ⟨v1,rfl,x⟩;obtain⟨A1,c1,rfl,_,_,_⟩:=x.form;have y:=h.up x.below;have U:=x.below;go_wp2;go_loopw [3,9] (λv i wr=>∃(k:Nat) (cs':Array Value) (sl' al':Value),k<=n/\i=I k/\wr.ownsRow w.heap.size 3 1 v k (i64s (zs.take k))/\cF wr p q B ty cs' sl' al' (kM l (zs.take k)) (zs.drop k)/\ag (λj=>j=p\/sl.ownBlock=some j) w wr/\Hid (al'.ownBlock=al.ownBlock/\bF q 4 cs cs'/\(sl'.ownBlock=sl.ownBlock\/∀k,sl'.ownBlock=some k->w.heap.size<=k))) (λ_ i _=>n-(intOf i).toNat)
 case atStart=>
  exact⟨0,cs,sl,al,zO,rfl,Pn _ _ _ _,by simpa[kM]using y,ag.B5 U,Z1 ⟨rfl,bF.refl _ _ _,.inl rfl⟩⟩
 case round=>
  obtain⟨k,cs',sl',al',a,rfl,L,hM,hK,c⟩:=hrel;have X:=Z1 hM;have N:=Z1 L;have g:=Z1 hK;have a3:=hK.size;by_cases a8:k<n
  ·have z:k<zs.length:=by have:=r.o;omega
   have aa:=Pu z;have ab:=OG z;have ac:=HT.o k z;generalize zs[k]=t at*;have HD:=Z1 aa;have G:=Z1 ab;have ad:=Z1 ac;obtain⟨ae,O⟩:=IE (zs.take k) HL.o;have af:=Z1 ae;have ah:(kM l (zs.take k)).line.length<=900:=by have:=HN.o;simp at O;omega
   have ai:=Z1 ah;have aj:(zs.drop (k+1)).length<=900:=by have:=r.o;simp;omega
   have ak:=Z1 aj;have H:Hid (cF wr p q B ty cs' sl' al' (kM l (zs.take k)) (t::zs.drop (k+1))):=by rw[<-HD.o];exact X
   go_wp2_with fail;refine(xV p q B ty cs' sl' al' _ t _ wr H.o hty af.o ai.o ak.o zO ad.o).mono ?_;rintro e w2 ⟨rfl,am,an,ao,ap,P,A,aq,ar⟩;have D:=A.U3 N.o λk a e=>e.elim (λe=>by have:=(N.o.lt k a).1;omega) λe=>qS H.o.lock.line N.o zP k e a.symm;have a9:=A.size;have au:=Z1 ap;have d:=Z1 A;have s:=Z3 aq P ar
   go_wp2_with (at_builtin;go_must (refine bZ lV zP rfl (.tmp 16) (.tmp 18) rfl rfl D zO zS rfl rfl zV zO zU ?_);intro v' w' av b)
   go_roundw
   case rel=>
    have aw:=au.o.O0 b D hp λk a=>by rw[s.o.1,c.o.1]at a;exact S.o k a
    have u:ag (λj=>j=p\/sl.ownBlock=some j) w w2:=⟨d.o.os.trans g.o.os,d.o.tape.trans g.o.tape,d.o.output.trans g.o.output,OJ g.o.size d.o.size,λj F f=>(d.o.block j (OV F g.o.size) λe=>e.elim (λe=>f (.inl e)) λe=>by
     rcases c.o.2.2 with m|m
     ·exact f (.inr (m▸e))
     ·have:=m j e;omega).trans (g.o.block j F f)⟩
    refine⟨k+1,am,an,ao,zO,by go_num,?_,?_,?_,Z1 ⟨by rw[s.o.1,c.o.1],c.o.2.1.trans s.o.2.1,?_⟩⟩
    ·rw[G.o];simpa[i64s]using av
    ·rw[G.o];unfold kM;rw[Dt];exact aw
    ·exact⟨b.os.trans u.os,b.tape.trans u.tape,b.output.trans u.output,OJ u.size b.size,λj F f=>(b.block j (OV F u.size) λe=>by have:=(D.lt j e.symm).1;omega).trans (u.block j F f)⟩
    ·rcases s.o.2.2 with m|m
     ·rw[m];exact c.o.2.2
     ·exact .inr λk a=>by have:=m k a;omega
   case measure=>simp[intOf];omega
  ·have ax:k=n:=zO;subst ax;go_wp2;go_ret;have e1:zs.take k=zs:=OT (by have:=r.o;omega);have e2:zs.drop k=[]:=Pt (by have:=r.o;omega);have y:=X.o;rw[e1]at y;rw[e2]at y;exact⟨⟨_,rfl⟩,cs',sl',al',y,c.o.2.1,g.o,c.o.1,c.o.2.2⟩
end Go.Fw
