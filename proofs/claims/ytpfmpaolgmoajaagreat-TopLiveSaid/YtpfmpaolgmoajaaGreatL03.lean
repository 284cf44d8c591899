/- Lemmas of this claim. Conditions: as each says. -/
import Derived.Test.YtpfmpaolgmoajaaGreatL01
set_option linter.unusedVariables false
set_option linter.unusedSimpArgs false
set_option maxHeartbeats 4000000
set_option maxRecDepth 20000
set_option linter.defProp false
open Go.Proofs.Tryz
namespace Go.Fw
open Go.Proofs Go.RowKit
variable (k:K2)(l:List Nat)(h n:Int)(s:ByteArray)(b x:Int)(w:World)(r:List Nat)(c:Nat)
def rm(a b:Int):Int:=bits BinOp.xor IntKind.u64 a b
def kJ(x:Int)(s:Int):UInt8:=UInt8.ofNat (x/s).toNat
def uw{x s:Int}(hx:0<=x)(hs:0<s):((kJ x s).toNat:Int)=x/s%256:=by
 have a:0<=x/s:=Int.ediv_nonneg hx zO;unfold kJ;generalize x/s=y at*;simp;omega
def Cj(x:Int):List UInt8:=[kJ x 72057594037927936,kJ x 281474976710656,kJ x 1099511627776,kJ x 4294967296,kJ x 16777216,kJ x 65536,kJ x 256,kJ x 1]
def jD(k:K2):List UInt8:=Cj k.hi++Cj k.lo
def jE(h:Int)(l:List UInt8):Int:=l.foldl (λh c=>wrW (rm h (c.toNat:Int)*1099511628211)) h
def ng(l:List UInt8):Int:=jE 14695981039346656037 l
def Em{x:Int}(h:cK x):IntKind.u64.wrap x=x:=by
 unfold cK at h;simp[IntKind.wrap,IntKind.bits,IntKind.signed];omega
def Io(l:List UInt8):∀h,cK h->cK (jE h l):=by
 induction l with
 |nil=>intro h a;exact a
 |cons c r ih=>intro h _;exact ih _ (jA _)
def Ly(l:List UInt8):cK (ng l):=Io l _ (by unfold cK;decide)
def Ck(l:List UInt8)(c:UInt8):jE h (l++[c])=wrW (rm (jE h l) (c.toNat:Int)*1099511628211):=by
 unfold jE;rw[Qe];rfl
def ki(n:Int):Int:=if n=2 then 1 else if n=4 then 2 else if n=8 then 3 else if n=16 then 4 else if n=32 then 5 else if n=64 then 6 else 0
def kK(h:Int)(b:Int):Int:=if b<1\/32<b then 0 else bits BinOp.and IntKind.u64 (rm h (h/2^b.toNat)) (2^b.toNat-1)
def gg(k:K2)(n:Int):Int:=kK (ng (jD k)) (ki n)
def lg(a:Nat)(ha:a<18446744073709551616):(BitVec.ofInt 64 (a:Int)).toNat=a:=by
 rw[BitVec.ofInt_natCast,BitVec.toNat_ofNat];exact QE zO
def Ip(m:Nat)(hm:m<18446744073709551616):0<=bits BinOp.and IntKind.u64 x (m:Int)/\bits BinOp.and IntKind.u64 x (m:Int)<=m:=by
 have e:bits BinOp.and IntKind.u64 x (m:Int)=IntKind.u64.wrap ((BitVec.ofInt 64 x&&& BitVec.ofInt 64 (m:Int)).toNat:Int):=rfl;rw[e,BitVec.toNat_and,lg m hm];have a:(BitVec.ofInt 64 x).toNat&&& m<=m:=Nat.and_le_right;generalize (BitVec.ofInt 64 x).toNat&&& m=y at*;simp[IntKind.wrap,IntKind.bits,IntKind.signed];omega
def nh{n:Int}(h:dL n=true):n=1\/n=2\/n=4\/n=8\/n=16\/n=32\/n=64:=by
 unfold dL at h
 simpa using h
def kj(b:Nat)(h1:1<=b)(h2:b<=6):0<=kK x b/\kK x b<((2^b:Nat):Int):=by
 unfold kK;rw[Oz zO];have c:2^b<=2^6:=Rb zO h2;have a:=Nat.two_pow_pos b;have e:(2:Int)^(b:Int).toNat - 1=((2^b-1:Nat):Int):=by
  rw[PH,Int.ofNat_sub a];push_cast;rfl
 rw[e];have:=Ip (rm x (x/2^(b:Int).toNat)) (2^b-1) zO;exact⟨this.1,zO⟩
def ro{n:Int}(h:dL n=true):0<=gg k n/\gg k n<n:=by
 unfold gg;generalize ng (jD k)=x
 rcases nh h with rfl|rfl|rfl|rfl|rfl|rfl|rfl
 ·have e:kK x (ki 1)=0:=by unfold kK;exact OB zP
  rw[e];exact⟨zP,zP⟩
 ·exact kj x 1 zP zP
 ·exact kj x 2 zP zP
 ·exact kj x 3 zP zP
 ·exact kj x 4 zP zP
 ·exact kj x 5 zP zP
 ·exact kj x 6 zP zP
def Iq{kh kl:Int}(h1:0<=kh)(h2:kh<=18446744073709551615)(h3:0<=kl)(h4:kl<=18446744073709551615):
  (bys (jD ⟨kh,kl⟩)).toArray=#[.int .u8 (kh/72057594037927936),.int .u8 (kh/281474976710656%256),.int .u8 (kh/1099511627776%256),.int .u8 (kh/4294967296%256),.int .u8 (kh/16777216%256),.int .u8 (kh/65536%256),.int .u8 (kh/256%256),.int .u8 (kh%256),
   .int .u8 (kl/72057594037927936),.int .u8 (kl/281474976710656%256),.int .u8 (kl/1099511627776%256),.int .u8 (kl/4294967296%256),.int .u8 (kl/16777216%256),.int .u8 (kl/65536%256),.int .u8 (kl/256%256),.int .u8 (kl%256)]:=by
 have a:kh/72057594037927936%256=kh/72057594037927936:=zO;have b:kl/72057594037927936%256=kl/72057594037927936:=zO;simp[bys,jD,Cj,uw h1,uw h3,a,b,Int.ediv_one]
def Cm(hk:k.ok):
  C 235 #[k.val] w λe w'=>e=.returned (.agg (bys (jD k)).toArray)/\M w w':=by
 obtain⟨f,g⟩:=k;obtain⟨⟨a,b⟩,c,d⟩:=hk;simp only at a b c d;unfold K2.val K2.arr;simp only
 go_in
 go_wp2;refine wp_loop_rounds 9 ?_
 repeat (rw[rounds_succ];go_wp2)
 exact OH (v:=.agg (bys (jD ⟨f,g⟩)).toArray) (by rw[Iq a b c d];simp[results,results235,go_sem]) rfl ⟨rfl,ae (ae (ae (Oy _ _) _) _) _⟩
def Ir(hs:s.size<=1000):
  C 236 #[.string s] w λe w'=>e=.returned (E (ng s.data.toList))/\w=w':=by
 obtain⟨a,c⟩:∃b:Int,b=14695981039346656037:=⟨_,rfl⟩;have f:=Z1 c;have n:Hid (ng s.data.toList=jE a s.data.toList):=Z1 (by rw[c];rfl);clear c
 go_in
 go_wp2;go_loop [3,7] (λh i=>∃k:Nat,k<=s.size/\i=I k/\h=E (jE a (s.data.toList.take k))) (λ_ i=>s.size-(intOf i).toNat)
 case atStart=>exact⟨0,OK _,rfl,by rw[OO,jE,List.foldl_nil,f.o]⟩
 case round=>
  obtain⟨k,r,rfl,rfl⟩:=hrel;by_cases g:k<s.size
  ·have j:k<s.data.toList.length:=by simpa using g
   have d:=OG j;have l:s.data.toList[k]=s[k]:=rfl;rw[l]at d;have p:Hid (jE a (s.data.toList.take (k+1))=wrW (rm (jE a (s.data.toList.take k)) (s[k].toNat:Int)*1099511628211)):=Z1 (by rw[d,Ck]);clear d l;go_wp2;go_round
   case rel=>exact⟨k+1,zO,by go_num,by rw[p.o,Em (x:=(s[k].toNat:Int)) ⟨zO,by have:=s[k].toNat_lt;omega⟩];simp only[wrW,rm]⟩
   case measure=>simp[intOf];omega
  ·have m:s.data.toList.take k=s.data.toList:=OT zT;have q:Hid (ng s.data.toList=jE a (s.data.toList.take k)):=Z1 (by rw[m];exact n.o);clear m;go_wp2;go_ret;exact⟨aC q.o.symm,rfl⟩
def Aa(h:dL n=true):C 226 #[I n] w λe w'=>e=.returned (I (ki n))/\w=w':=by
 have a:=oc n w;rw[h]at a;have b:=Z1 a;clear a
 rcases nh h with rfl|rfl|rfl|rfl|rfl|rfl|rfl
 all_goals
  clear h
  go_in
  go_wp2_with (go_at_call 112;refine b.o.mono ?_;rintro e c ⟨rfl,rfl⟩)
  refine wp_loop_rounds 8 ?_
  repeat (rw[rounds_succ];go_wp2)
  go_ret;exact⟨rfl,rfl⟩
def bq(s:ByteArray):List Nat:=s.data.toList.map λb=>(bJ (b.toNat:Int)).toNat
def eG(l:List Nat):Nat:=l.foldl (λa c=>a*64+c) 0
def halfN(l:List Nat):Nat:=eG l*64^(10-l.length)
def av(s:ByteArray):K2:=⟨(halfN ((bq s).take 10):Int),(halfN ((bq s).drop 10):Int)⟩
def ux:eG (l++[c])=eG l*64+c:=by
 unfold eG;rw[Qe];rfl
def uy:∀a,r.foldl (λa c=>a*64+c) a=a*64^r.length+eG r:=by
 induction r with
 |nil=>intro a;simp[eG]
 |cons c r ih=>
  intro a;have b:eG (c::r)=c*64^r.length+eG r:=by
   have:=ih (0*64+c);rw[Rz,PS]at this;rw[eG,Qz,Rz,PS];exact this
  rw[Qz,ih (a*64+c),b,OC,RA,Nat.add_mul,QM,Qk 64];omega
def Ac:eG (l++r)=eG l*64^r.length+eG r:=by
 rw[eG,Qe];exact uy r _
def Bk(h:∀c∈l,c<64):eG l<64^l.length:=by
 induction l with
 |nil=>simp[eG]
 |cons c r ih=>
  have d:=ih (λx a=>h x (by simp[a]));have b:=h c zS;rw[show eG (c::r)=c*64^r.length+eG r by rw[eG,Qz,uy];simp,OC,RA];have:c*64^r.length+64^r.length<=64^r.length*64:=by
   rw[Qk (64^r.length) 64,<-Qj];exact Pr _ b
  omega
def rq(h:∀c∈l,c<64)(hl:l.length<=10):halfN l<64^10:=by
 unfold halfN;have a:=Bk l h
 calc eG l*64^(10-l.length)<64^l.length*64^(10-l.length):=Nat.mul_lt_mul_of_pos_right a (Sw zP)
  _=64^10:=by rw[<-Nat.pow_add];congr 1;omega
def Cn(hl:l.length<10):halfN (l++[c])=halfN l+c*64^(9-l.length):=by
 unfold halfN;rw[ux,OS,List.length_singleton,show 10-l.length=(9-l.length)+1 by omega,show 10-(l.length+1)=9-l.length by omega,RA,Nat.add_mul,QM];congr 1;rw[Qk 64]
def Is(hc:c<64)(hl:l.length<10):halfN l|||c*64^(9-l.length)=halfN (l++[c]):=by
 rw[Cn l c hl];unfold halfN;have e:(64:Nat)^(10-l.length)=2^(6*(10-l.length)):=by rw[Nat.pow_mul]
 have a:c*64^(9-l.length)<2^(6*(10-l.length)):=by
  rw[<-e,show 10-l.length=(9-l.length)+1 by omega,RA,Qk];exact Nat.mul_lt_mul_of_pos_left hc (Sw zP)
 rw[e,Qk];exact(Nat.two_pow_add_eq_or_of_lt a _).symm
def wM(h:∀c∈l,c<64)(hl:l.length<=10)(i:Nat)(hi:i<10):halfN l/64^(9-i)%64=l.getD i 0:=by
 by_cases b:i<l.length
 ·have m:l=l.take i++([l[i]]++l.drop (i+1)):=by
   rw[List.singleton_append,<-Pu b,Qr]
  have d:l.getD i 0=l[i]:=by simp[List.getD,b]
  rw[d];have e:(l.drop (i+1)).length=l.length-(i+1):=zS;have f:=Bk (l.drop (i+1)) (λc g=>h c (PN g));have g:=h _ (OR b);unfold halfN;have j:eG l=(eG (l.take i)*64+l[i])*64^(l.drop (i+1)).length+eG (l.drop (i+1)):=by
   conv=>lhs;rw[m]
   rw[<-Pv,Ac,ux]
  rw[j];generalize eG (l.take i)=a at*;generalize l[i]=c at*;generalize eG (l.drop (i+1))=r at*;rw[e]at f ⊢;have n:(64:Nat)^(9-i)=64^(l.length-(i+1))*64^(10-l.length):=by rw[<-Nat.pow_add];congr 1;omega
  rw[n,<-Nat.div_div_eq_div_mul];generalize 64^(l.length-(i+1))=p at*;have o:0<(64:Nat)^(10-l.length):=Sw zP;generalize (64:Nat)^(10-l.length)=q at*;have k:0<p:=zO;rw[show((a*64+c)*p+r)*q/p/q=((a*64+c)*p+r)/p by
   rw[Nat.div_div_eq_div_mul,Nat.mul_div_mul_right _ _ o]]
  rw[Nat.add_comm,Nat.add_mul_div_right _ _ k,Nat.div_eq_of_lt f];omega
 ·have d:l.getD i 0=0:=by simp[List.getD];rw[Ps zO];rfl
  rw[d];unfold halfN;rw[show 10-l.length=(9-i)+1+(i-l.length) by omega,Nat.pow_add,RA];rw[show eG l*(64^(9-i)*64*64^(i-l.length))=(eG l*64^(i-l.length)*64)*64^(9-i) by
   rw[Qk (64^(9-i)) 64,QM,QM,Qk (64^(9-i)) (64^(i-l.length)),Nat.mul_left_comm,<-QM,<-QM,Qk 64 (eG l)];simp[QM,Qk,Nat.mul_left_comm]]
  rw[Nat.mul_div_cancel _ (Sw zP)];omega
def jr:∀c∈bq s,c<64:=by
 intro c a;obtain⟨b,_,rfl⟩:=Pa.1 a;have:=ik (b.toNat:Int);omega
def eU:(bq s).length=s.size:=by simp[bq]
def jh(h:s.size<=20):(av s).ok:=by
 have b:=eU s;have d:=rq ((bq s).take 10) (λc a=>jr s c (Qb a)) zT;have e:=rq ((bq s).drop 10) (λc a=>jr s c (PN a)) zT;exact⟨by unfold cK av;dsimp only;omega,by unfold cK av;dsimp only;omega⟩
def atN(k:K2)(i:Nat):Nat:=(if i<10 then k.hi.toNat else k.lo.toNat)/64^(9-i%10)%64
def rr(h:s.size<=20)(i:Nat)(hi:i<20):atN (av s) i=(bq s).getD i 0:=by
 have d:=eU s;unfold atN av;by_cases a:i<10
 ·rw[OB a,PH,QE a,wM _ (λc b=>jr s c (Qb b)) zT i a];simp[List.getD,Pw a]
 ·rw[Oz a,PH,show i%10=i-10 by omega,wM _ (λc b=>jr s c (PN b)) zT (i-10) zO];simp only[List.getD,PM];rw[show 10+(i-10)=i by omega]
def Eo{a b:UInt8}(h:bJ (a.toNat:Int)=bJ (b.toNat:Int))(h0:bJ (a.toNat:Int)≠0):a=b:=by
 apply UInt8.toNat_inj.1;have c:=a.toNat_lt;have d:=b.toNat_lt;unfold bJ at h h0
 repeat' split at h
 all_goals first|omega|(exfalso;apply h0;simp[*];done)|(repeat' split at h0)<;>omega
def mL{s t:ByteArray}(hs:bd s=true)(ht:bd t=true)(h:av s=av t):s=t:=by
 obtain⟨u,o,k⟩:=dn hs;obtain⟨v,p,q⟩:=dn ht;have e:∀i,i<20->(bq s).getD i 0=(bq t).getD i 0:=λi c=>by rw[<-rr s o i c,<-rr t p i c,h]
 have g:∀i (c:i<s.size),(bq s).getD i 0=(bJ (s[i].toNat:Int)).toNat:=λi c=>by
  simp[bq,List.getD,c];rfl
 have j:∀i (c:i<t.size),(bq t).getD i 0=(bJ (t[i].toNat:Int)).toNat:=λi c=>by
  simp[bq,List.getD,c];rfl
 have l:∀i,s.size<=i->(bq s).getD i 0=0:=λi c=>by simp[List.getD];rw[Ps (by rw[eU];exact c)];rfl
 have m:∀i,t.size<=i->(bq t).getD i 0=0:=λi c=>by simp[List.getD];rw[Ps (by rw[eU];exact c)];rfl
 have n:s.size=t.size:=by
  rcases Nat.lt_trichotomy s.size t.size with d|d|d
  ·exfalso;have f:=e s.size zO;rw[l _ (OA _),j _ d]at f;have:=q _ d;have:=ik (t[s.size].toNat:Int);omega
  ·exact d
  ·exfalso;have f:=e t.size zO;rw[m _ (OA _),g _ d]at f;have:=k _ d;have:=ik (s[t.size].toNat:Int);omega
 apply ByteArray.ext;apply Array.ext
 ·exact n
 ·intro i d f;have r:=e i (by have:i<s.size:=d;omega);rw[g i d,j i f]at r;refine Eo (a:=s[i]) (b:=t[i]) ?_ (k i d);have:=ik (s[i].toNat:Int);have:=ik (t[i].toNat:Int);omega
def Ji(hk:k.ok):
  C 225 #[k.val] w λe w'=>e=.returned (E (ng (jD k)))/\M w w':=by
 have c:=λW=>Cm k W hk;have j:=Z1 c;have a:(jD k).length=16:=rfl;have d:(bys (jD k)).toArray.all (·.oneCell')=true:=Re.2 λu p=>Lr _ u (by simpa using p);have f:(bys (jD k)).toArray.size=16:=rfl;generalize jD k=l at*;have r:∀W:World,(convert 181 9 (V W.heap.size 0 16 16)).run prog (W.alloc (.cells (bys l).toArray 349))=.ok (.string ⟨l.toArray⟩) (W.alloc (.cells (bys l).toArray 349)):=by
  intro W;have q:=wv W 349 (bys l).toArray 16 W.heap.size (W.heap.size+1) (by simp[bys,a]) rfl rfl;exact oZ 181 9 5 16 underlying181 underlying5 underlying9 (by simpa using q)
 have h:=Z1 (λW=>Ir ⟨l.toArray⟩ W (by show l.toArray.size<=1000;simp[a]));have m:=Z3 a d f;have b:cU prog 349 16:=⟨zR,zR,zR⟩;have i:=Z1 b;clear c a d f b;obtain⟨s,t⟩:=k;unfold K2.val K2.arr at*;simp only at*
 go_in
 go_wp2_with (first|(go_at_call 235;refine(j.o _).mono ?_;rintro e v ⟨rfl,g⟩;have n:=Z1 g;clear g)|(go_at_call 236;refine(h.o _).mono ?_;rintro e x ⟨rfl,rfl⟩)|(refine aS i.o rfl rfl ?_)|(refine aT i.o rfl (.tmp 3) (.tmp 5) rfl _ rfl zF (bys l).toArray _ zF _ m.o.2.2 i.o.D6 m.o.2.1 ?_))
 go_ret;exact⟨aC zS,ae (af (ae (Oy _ _) _) n.o) _⟩
def Fq(hh:cK h)(hb:b=0\/b=1\/b=2\/b=3\/b=4\/b=5\/b=6):
  C 224 #[E h,I b] w λe w'=>e=.returned (E (kK h b))/\w=w':=by
 obtain⟨c,d⟩:=hh;have a:Hid (∀b,kK h b=if b<1\/32<b then 0 else bits BinOp.and IntKind.u64 (rm h (h/2^b.toNat)) (2^b.toNat-1)):=Z1 λ_=>rfl
 rcases hb with rfl|rfl|rfl|rfl|rfl|rfl|rfl
 all_goals
  go_in
  go_wp2;go_ret;refine⟨aC ?_,rfl⟩;rw[a.o]
  first|rw[OB zP]|(rw[Oz zP];rfl)
def rI(hk:k.ok)(h:dL n=true):
  C 202 #[k.val,I n] w (J (I (gg k n)) w):=by
 have b:=λW=>oc n W;rw[h]at b;have g:=Z1 b;have i:=Z1 (λW=>Aa n W h);have j:=Z1 (λW=>Ji k W hk);have l:=ro k h;have r:=ob h;have m:Hid (gg k n=kK (ng (jD k)) (ki n)):=Z1 rfl;have c:ki n=0\/ki n=1\/ki n=2\/ki n=3\/ki n=4\/ki n=5\/ki n=6:=by
  rcases nh h with rfl|rfl|rfl|rfl|rfl|rfl|rfl<;>decide
 have d:=Z1 (λW=>Fq (ng (jD k)) (ki n) W (Ly _) c);have a:kK (ng (jD k)) (ki n)=gg k n:=rfl;rw[a]at d;generalize gg k n=x at*;obtain⟨s,t⟩:=l;have u:x<=64:=zO;clear a c b h hk m;obtain⟨v,y⟩:=k;unfold K2.val K2.arr at*;simp only at*
 go_in
 go_wp2_with (first|(go_at_call 112;refine(g.o _).mono ?_;rintro e p ⟨rfl,rfl⟩)|(go_at_call 225;refine(j.o _).mono ?_;rintro e p ⟨rfl,f⟩)|(go_at_call 226;refine(i.o _).mono ?_;rintro e q ⟨rfl,rfl⟩)|(go_at_call 224;refine(d.o _).mono ?_;rintro e q ⟨rfl,rfl⟩))
 go_ret;exact⟨rfl,af (ae (Oy _ _) _) f⟩
end Go.Fw
