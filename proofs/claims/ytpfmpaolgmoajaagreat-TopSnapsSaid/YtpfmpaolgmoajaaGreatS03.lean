/- Lemmas of this claim. Conditions: as each says. -/
import Derived.Test.YtpfmpaolgmoajaaGreatS01
set_option linter.unusedVariables false
set_option linter.unusedSimpArgs false
set_option maxHeartbeats 4000000
set_option maxRecDepth 20000
set_option linter.defProp false
open Go.Proofs.Tryz
namespace Go.Fw
open Go.Proofs Go.RowKit
variable (h:Int)(k:K2)(n x:Int)(w:World)(l:List UInt8)(b:Int)
def rm(a b:Int):Int:=bits BinOp.xor IntKind.u64 a b
def kJ(x:Int)(s:Int):UInt8:=UInt8.ofNat (x/s).toNat
def uw{x s:Int}(hx:0<=x)(hs:0<s):((kJ x s).toNat:Int)=x/s%256:=by
 have a:0<=x/s:=Int.ediv_nonneg hx zO;unfold kJ;generalize x/s=y at*;simp;omega
def Cj(x:Int):List UInt8:=[kJ x 72057594037927936,kJ x 281474976710656,kJ x 1099511627776,kJ x 4294967296,kJ x 16777216,kJ x 65536,kJ x 256,kJ x 1]
def jD(k:K2):List UInt8:=Cj k.hi++Cj k.lo
def jE(h:Int)(l:List UInt8):Int:=l.foldl (λh c=>wrW (rm h (c.toNat:Int)*1099511628211)) h
def ng(l:List UInt8):Int:=jE 14695981039346656037 l
def Em{x:Int}(h:cK x):IntKind.u64.wrap x=x:=by
 unfold cK at h;simp[IntKind.wrap,IntKind.bits,IntKind.signed];omega
def Io:∀h,cK h->cK (jE h l):=by
 induction l with
 |nil=>intro h a;exact a
 |cons c r ih=>intro h _;exact ih _ (jA _)
def Ly:cK (ng l):=Io l _ (by unfold cK;decide)
def Ck(c:UInt8):jE h (l++[c])=wrW (rm (jE h l) (c.toNat:Int)*1099511628211):=by
 unfold jE;rw[Qe];rfl
def ki(n:Int):Int:=if n=2 then 1 else if n=4 then 2 else if n=8 then 3 else if n=16 then 4 else if n=32 then 5 else if n=64 then 6 else 0
def kK(h:Int)(b:Int):Int:=if b<1\/32<b then 0 else bits BinOp.and IntKind.u64 (rm h (h/2^b.toNat)) (2^b.toNat-1)
def gg(k:K2)(n:Int):Int:=kK (ng (jD k)) (ki n)
def lg(a:Nat)(ha:a<18446744073709551616):(BitVec.ofInt 64 (a:Int)).toNat=a:=by
 rw[BitVec.ofInt_natCast,BitVec.toNat_ofNat];exact QE zO
def Ip(m:Nat)(hm:m<18446744073709551616):0<=bits BinOp.and IntKind.u64 x (m:Int)/\bits BinOp.and IntKind.u64 x (m:Int)<=m:=by
 have e:bits BinOp.and IntKind.u64 x (m:Int)=IntKind.u64.wrap ((BitVec.ofInt 64 x&&& BitVec.ofInt 64 (m:Int)).toNat:Int):=rfl;rw[e,BitVec.toNat_and,lg m hm];have a:(BitVec.ofInt 64 x).toNat&&& m<=m:=Nat.and_le_right;generalize (BitVec.ofInt 64 x).toNat&&& m=y at*;simp[IntKind.wrap,IntKind.bits,IntKind.signed];omega
def nh{n:Int}(h:dL n=true):n=1\/n=2\/n=4\/n=8\/n=16\/n=32\/n=64:=by
 unfold dL at h
 simpa using h
def kj(b:Nat)(h1:1<=b)(h2:b<=6):0<=kK x b/\kK x b<((2^b:Nat):Int):=by
 unfold kK;rw[Oz zO];have c:2^b<=2^6:=Rb zO h2;have a:=Nat.two_pow_pos b;have e:(2:Int)^(b:Int).toNat - 1=((2^b-1:Nat):Int):=by
  rw[PH,Int.ofNat_sub a];push_cast;rfl
 rw[e];have:=Ip (rm x (x/2^(b:Int).toNat)) (2^b-1) zO;exact⟨this.1,zO⟩
def ro{n:Int}(h:dL n=true):0<=gg k n/\gg k n<n:=by
 unfold gg;generalize ng (jD k)=x
 rcases nh h with rfl|rfl|rfl|rfl|rfl|rfl|rfl
 ·have e:kK x (ki 1)=0:=by unfold kK;exact OB zP
  rw[e];exact⟨zP,zP⟩
 ·exact kj x 1 zP zP
 ·exact kj x 2 zP zP
 ·exact kj x 3 zP zP
 ·exact kj x 4 zP zP
 ·exact kj x 5 zP zP
 ·exact kj x 6 zP zP
def Iq{kh kl:Int}(h1:0<=kh)(h2:kh<=18446744073709551615)(h3:0<=kl)(h4:kl<=18446744073709551615):
  (bys (jD ⟨kh,kl⟩)).toArray=#[.int .u8 (kh/72057594037927936),.int .u8 (kh/281474976710656%256),.int .u8 (kh/1099511627776%256),.int .u8 (kh/4294967296%256),.int .u8 (kh/16777216%256),.int .u8 (kh/65536%256),.int .u8 (kh/256%256),.int .u8 (kh%256),
   .int .u8 (kl/72057594037927936),.int .u8 (kl/281474976710656%256),.int .u8 (kl/1099511627776%256),.int .u8 (kl/4294967296%256),.int .u8 (kl/16777216%256),.int .u8 (kl/65536%256),.int .u8 (kl/256%256),.int .u8 (kl%256)]:=by
 have a:kh/72057594037927936%256=kh/72057594037927936:=zO;have b:kl/72057594037927936%256=kl/72057594037927936:=zO;simp[bys,jD,Cj,uw h1,uw h3,a,b,Int.ediv_one]
def Cm(hk:k.ok):
  C 235 #[k.val] w λe w'=>e=.returned (.agg (bys (jD k)).toArray)/\M w w':=by
 obtain⟨f,g⟩:=k;obtain⟨⟨a,b⟩,c,d⟩:=hk;simp only at a b c d;unfold K2.val K2.arr;simp only
 go_in
 go_wp2;refine wp_loop_rounds 9 ?_
 repeat (rw[rounds_succ];go_wp2)
 exact OH (v:=.agg (bys (jD ⟨f,g⟩)).toArray) (by rw[Iq a b c d];simp[results,results235,go_sem]) rfl ⟨rfl,ae (ae (ae (Oy _ _) _) _) _⟩
def Ir(s:ByteArray)(w:World)(hs:s.size<=1000):
  C 236 #[.string s] w λe w'=>e=.returned (E (ng s.data.toList))/\w=w':=by
 obtain⟨a,c⟩:∃b:Int,b=14695981039346656037:=⟨_,rfl⟩;have f:=Z1 c;have n:Hid (ng s.data.toList=jE a s.data.toList):=Z1 (by rw[c];rfl);clear c
 go_in
 go_wp2;go_loop [3,7] (λh i=>∃k:Nat,k<=s.size/\i=I k/\h=E (jE a (s.data.toList.take k))) (λ_ i=>s.size-(intOf i).toNat)
 case atStart=>exact⟨0,OK _,rfl,by rw[OO,jE,List.foldl_nil,f.o]⟩
 case round=>
  obtain⟨k,r,rfl,rfl⟩:=hrel;by_cases g:k<s.size
  ·have j:k<s.data.toList.length:=by simpa using g
   have d:=OG j;have l:s.data.toList[k]=s[k]:=rfl;rw[l]at d;have p:Hid (jE a (s.data.toList.take (k+1))=wrW (rm (jE a (s.data.toList.take k)) (s[k].toNat:Int)*1099511628211)):=Z1 (by rw[d,Ck]);clear d l;go_wp2;go_round
   case rel=>exact⟨k+1,zO,by go_num,by rw[p.o,Em (x:=(s[k].toNat:Int)) ⟨zO,by have:=s[k].toNat_lt;omega⟩];simp only[wrW,rm]⟩
   case measure=>simp[intOf];omega
  ·have m:s.data.toList.take k=s.data.toList:=OT zT;have q:Hid (ng s.data.toList=jE a (s.data.toList.take k)):=Z1 (by rw[m];exact n.o);clear m;go_wp2;go_ret;exact⟨aC q.o.symm,rfl⟩
def Aa(h:dL n=true):C 226 #[I n] w λe w'=>e=.returned (I (ki n))/\w=w':=by
 have a:=oc n w;rw[h]at a;have b:=Z1 a;clear a
 rcases nh h with rfl|rfl|rfl|rfl|rfl|rfl|rfl
 all_goals
  clear h
  go_in
  go_wp2_with (go_at_call 112;refine b.o.mono ?_;rintro e c ⟨rfl,rfl⟩)
  refine wp_loop_rounds 8 ?_
  repeat (rw[rounds_succ];go_wp2)
  go_ret;exact⟨rfl,rfl⟩
end Go.Fw
