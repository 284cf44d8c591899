/- Lemmas of this claim. Conditions: as each says. -/
import Derived.Test.YtpfmpaolgmoajaaGreatL06
import Derived.Test.YtpfmpaolgmoajaaGreatL05
import Derived.Shelf.SlIter.Keys
import Derived.Shelf.SlSortCmp.NoneTotal
import Derived.Test.YtpfmpaolgmoajaaGreatL07
set_option linter.unusedVariables false
set_option linter.unusedSimpArgs false
set_option maxHeartbeats 4000000
set_option maxRecDepth 20000
set_option linter.defProp false
open Go.Proofs.Tryz
namespace Go.Fw
open Go.RowKit open Go.Proofs hiding intOf
variable {g B p mb i p' b h d:Nat}{cs:Array Value}{v:Value}{xs:List Value}{L l ks:List K2}{C7 t:Int}{w1 w2:World}{fz:Bool}{F S:Nat->Prop}{x' x:Ld}{ops:Array Oper}{rest:List Oper}{a:Act}{Q:Exit->Act->World->Prop}(w w':World)(gf:Nat)(lb:Array Value)(u q n k:Nat)(c:Cg)(W:World)(Sp:List K2->Prop)(N:Nat)(Kp:World->World->Prop)
section
variable {P:Program} {k:TypeId} {κ:Type} {enc:κ→Lit} {E3:κ→Prop} {w w':World} {b:Nat} {l:List (κ×Value)}
def aw.C9(h:aw P k enc E3 w b l){t:TypeId}(hb:Blk w g t cs):b≠g:=by
 rintro rfl;obtain⟨⟨d,⟨e,a,c,_⟩,_⟩,_,_⟩:=h;unfold Blk at hb;rw[c]at hb
 cases hb
def aw.E7(h:aw P k enc E3 w b l){s n:Nat}{e:TypeId}(ho:w.ownsRow B e s v n xs):v.ownBlock≠some b:=by
 intro a
 rcases ho.2 with⟨rfl,_⟩|⟨g,f,c,rfl,_,d,_⟩
 ·cases a
 ·have:b=g:=by simpa[Value.ownBlock]using a.symm
  exact h.C9 (g:=g) (t:=e) (cs:=c) d this
end
structure Qm.E5(x:Qm):Prop where
 line:x.line.length<=1000
 C5:x.C5.length<=1000
 busy:x.busy.length<=1000
def jQ(l:List K2):List (K2×Value):=l.map λk=>(k,I 1)
def IK(l:List K2)(k:K2):ap (jQ l) k=if k∈l then some (I 1)else none:=by
 induction l with
 |nil=>simp[jQ,ap]
 |cons x r ih=>
  unfold jQ at*;by_cases h:x=k
  ·simp[ap,h]
  ·simp only[Pi,ap,Oz h,ih,Pj,Pc h,false_or]
def EJ(l:List K2)(k:K2):(ap (jQ l) k).getD (I 0)=I (if k∈l then 1 else 0):=by
 rw[IK];split<;>rfl
def rD(l:List K2)(k:K2):aR (jQ l) k (I 1)=jQ (fu l k):=by
 induction l with
 |nil=>simp[jQ,aR,fu]
 |cons x r ih=>
  unfold jQ at*;by_cases h:x=k
  ·simp[aR,fu,h]
  ·simp only[Pi,aR,Oz h,ih];unfold fu;simp only[Pj,Pc h,false_or];split<;>simp
def wY(l:List K2)(k:K2):ft (jQ l) k=jQ (ib l k):=by
 unfold jQ ft ib;rw[Rk];rfl
def nk(l:List K2):(jQ l).length=l.length:=by simp[jQ]
abbrev bD(w:World)(b:Nat)(l:List K2):Prop:=aw prog 58 lO K2.ok w b (jQ l)
def bD.drew{w:World}{b:Nat}{l:List K2}(h:bD w b l):bD w.drew b l:=aw.D3 h rfl
def wZ(w:World):(zeroValue 3).run prog w=.ok (I 0) w:=zR
def bD.look{w:World}{b:Nat}{l:List K2}(h:bD w b l){k0 k1:Int}(hk:K2.ok ⟨k0,k1⟩):
  (Instr.lookup 161 (.map (some b)) (.agg #[E k0,E k1]) false).run prog w=.ok (I (if(⟨k0,k1⟩:K2)∈l then 1 else 0)) w:=by
 have:=aw.look h jO underlying161 (wZ w) hk;rw[EJ]at this;exact this
def EK(k0 k1:Int)(hk:K2.ok ⟨k0,k1⟩)(w:World):(Instr.lookup 161 (.map none) (.agg #[E k0,E k1]) false).run prog w=.ok (I 0) w:=by
 have:=Maps.look_nil (P:=prog) (w:=w) (t:=161) false qf underlying161 (wZ w) (nI ⟨k0,k1⟩ hk);simpa[K2.val,K2.arr]using this
def dE.D3{w w':World}{p q B:Nat}{t:TypeId}{cs:Array Value}{S:Nat->Prop}{L:List K2}(h:dE w p q B t cs S L){d:Nat}{m:List (K2×Value)}(hd:aw prog 58 lO K2.ok w d m)(hK:ag (λj=>j=d) w w'):dE w' p q B t cs S L:=by
 obtain⟨g,i,f,b,c,l,n,o⟩:=h.ex;refine⟨g,i,f,b,c.D3 λk a=>hK.block k (c.lt k a) λe=>?_,l,n,o⟩
 rcases a with rfl|a|a
 ·exact hd.C9 c.B0 e.symm
 ·exact hd.E7 c.front (by rw[a,e])
 ·exact hd.E7 c.back (by rw[a,e])
def dE.drew{w:World}{p q B:Nat}{t:TypeId}{cs:Array Value}{S:Nat->Prop}{L:List K2}(h:dE w p q B t cs S L):dE w.drew p q B t cs S L:=by
 obtain⟨a,c,f,b,d,e,g,i⟩:=h.ex;exact⟨a,c,f,b,d.drew,e,g,i⟩
def dE.up{w w':World}{p q B:Nat}{t:TypeId}{cs:Array Value}{S:Nat->Prop}{L:List K2}(h:dE w p q B t cs S L)(hb:M w w'):dE w' p q B t cs S L:=by
 obtain⟨a,c,f,b,d,e,g,i⟩:=h.ex;exact⟨a,c,f,b,d.up hb,e,g,i⟩
def dE.more{w:World}{p q B:Nat}{t:TypeId}{cs:Array Value}{S S':Nat->Prop}{L:List K2}(h:dE w p q B t cs S L)(hs:∀k,S k->S' k):dE w p q B t cs S' L:=by
 obtain⟨c,d,f,b,e,g,i,j⟩:=h.ex;exact⟨c,d,f,b,e,g,λk a=>hs k (i k a),λk a=>hs k (j k a)⟩
def dE.B0{w:World}{p q B:Nat}{t:TypeId}{cs:Array Value}{S:Nat->Prop}{L:List K2}(h:dE w p q B t cs S L):Blk w p t cs:=by
 obtain⟨c,d,f,b,a,_⟩:=h.ex;exact a.B0
def dE.cell{w:World}{p q B:Nat}{t:TypeId}{cs:Array Value}{S:Nat->Prop}{L:List K2}(h:dE w p q B t cs S L){i:Nat}(hi:i<q\/q+2<=i)(v:Value):dE (w.setCell (Y p i) v) p q B t (cs.setIfInBounds i v) S L:=by
 obtain⟨c,d,f,b,a,e,g,j⟩:=h.ex;exact⟨c,d,f,b,⟨a.B0.B4 i v,bA (p:=Y p i) a.front (aB a.front a.B0 a.ne) v,bA (p:=Y p i) a.back (aB a.back a.B0 a.ne) v,a.apart,(bf zO v).trans a.v0,(bf zO v).trans a.v1,a.ne⟩,e,g,j⟩
structure gq(w:World)(p q:Nat)(t:TypeId)(cs:Array Value)(S:Nat->Prop)(x:Qm):Prop where
 line:dE w p q 0 t cs S x.line
 over:cs[q+4]?=some (.bool x.over)
 maps:(cs[q+2]?=some (.map none)/\cs[q+3]?=some (.map none)/\x.C5=[]/\x.busy=[])\/
  (∃d b,cs[q+2]?=some (.map (some d))/\cs[q+3]?=some (.map (some b))/\d≠b/\S d/\S b/\bD w d x.C5/\bD w b x.busy)
 ok:∀k∈x.line,k.ok
def lP(w w':World)(p q:Nat)(t:TypeId)(cs:Array Value)(S:Nat->Prop)(x:Qm):Prop:=
 ∃cs',gq w' p q t cs' (λk=>S k\/w.heap.size<=k) x/\bF q 5 cs cs'/\ag (λk=>k=p\/S k) w w'
def gq.up{w w':World}{p q:Nat}{t:TypeId}{cs:Array Value}{S:Nat->Prop}{x:Qm}(h:gq w p q t cs S x)(hb:M w w'):gq w' p q t cs S x:=
 ⟨h.line.up hb,h.over,h.maps.imp id λ⟨d,b,a,c,e,f,g,i,j⟩=>⟨d,b,a,c,e,f,g,aw.up i hb,aw.up j hb⟩,h.ok⟩
def gq.more{w:World}{p q:Nat}{t:TypeId}{cs:Array Value}{S S':Nat->Prop}{x:Qm}(h:gq w p q t cs S x)(hs:∀k,S k->S' k):gq w p q t cs S' x:=
 ⟨h.line.more hs,h.over,h.maps.imp id λ⟨d,b,a,c,e,f,g,i,j⟩=>⟨d,b,a,c,e,hs _ f,hs _ g,i,j⟩,h.ok⟩
def gq.same{w w':World}{p q:Nat}{t:TypeId}{cs:Array Value}{S:Nat->Prop}{x:Qm}(h:gq w p q t cs S x)(hb:M w w'):lP w w' p q t cs S x:=
 ⟨cs,(h.up hb).more λ_ h=>.inl h,bF.refl _ _ _,ag.B5 hb⟩
def EL(p q:Nat)(t:TypeId)(cs:Array Value)(S:Nat->Prop)(x:Qm)(w:World)(h:gq w p q t cs S x):
  C 283 #[Z p q] w λe w'=>(∃v,e=.returned v)/\lP w w' p q t cs S {x with over:=true}:=by
 have i:=(h.line.B0.cell (q+4)).trans h.over;have n:=h.line.B0.frozen (q+4);have H:=Z1 h;obtain⟨r,s,u,l⟩:=x
 cases l
 ·simp only at i;clear h
  go_in
  go_wp2;go_ret;refine⟨⟨_,rfl⟩,cs.setIfInBounds (q+4) (.bool true),⟨(H.o.line.cell (.inr zO) _).more λ_ h=>.inl h,cP H.o.over _,?_,H.o.ok⟩,(bF.refl q 5 cs).B4 zO zO _,(ag.refl _ w).setCell (p:=Y p (q+4)) (.inl (.inl rfl)) _⟩
  rcases H.o.maps with⟨a,c,f,g⟩|⟨d,b,a,c,f,g,m,j,k⟩
  ·exact .inl ⟨(bf zO _).trans a,(bf zO _).trans c,f,g⟩
  ·exact .inr ⟨d,b,(bf zO _).trans a,(bf zO _).trans c,f,.inl g,.inl m,aw.D3 j (Pd w _ _ d (aw.C9 j H.o.line.B0)),aw.D3 k (Pd w _ _ b (aw.C9 k H.o.line.B0))⟩
 ·simp only at i;clear h
  go_in
  go_wp2;go_ret;exact⟨⟨_,rfl⟩,H.o.same (Oy _ _)⟩
def uG(p q:Nat)(t:TypeId)(cs:Array Value)(S:Nat->Prop)(x:Qm)(w:World)(h:gq w p q t cs S x)(hf:x.E5):
  C 350 #[Z p q] w λe w'=>e=.returned (.bool (x.over&&decide (x.line=[])))/\M w w':=by
 have c:=(h.line.B0.cell (q+4)).trans h.over;have d:=Z1 (rA p q 0 t cs S x.line w h.line (by have:=hf.line;omega));have b:((x.line.length:Int)==0)=decide (x.line=[]):=by
  cases x.line with
  |nil=>rfl
  |cons a r=>simp;omega
 have f:=Z1 b;obtain⟨i,j,k,g⟩:=x
 cases g
 ·simp only at c;clear h b hf
  go_in
  go_wp2;go_ret;exact⟨rfl,Oy _ _⟩
 ·simp only at c d;clear h b hf
  go_in
  go_wp2_with fail;refine d.o.mono ?_;rintro e l ⟨rfl,rfl⟩;go_wp2;go_ret;exact⟨cN (by simpa using f.o),(Oy _ _).drew⟩
inductive Tg where
 |free
 |st (i:Nat)
 |nd (k:K2)
 |fz
 |F2
 |wld
 |lk (n:Nat)
 |ln
 |al
 |q
 |ev
 |cl (i:Nat)
 |wk (i:Nat)
 |eng
 deriving DecidableEq
def ext(T:Nat->Tg)(n:Nat)(g:Tg):Nat->Tg:=λk=>if k<n then T k else g
def br(T:Nat->Tg){n k:Nat}(g:Tg)(h:k<n):ext T n g k=T k:=OB h
def cC(T:Nat->Tg){n k:Nat}(g:Tg)(h:n<=k):ext T n g k=g:=Oz zO
structure Nd where
 p:Nat
 x:Ld
 fz:Bool
def Nd.tag(z:Nd)(k:K2):Tg:=if z.fz=true then .fz else .nd k
def iT(zs:List (K2×Nd)):List (K2×Value):=zs.map λz=>(z.1,Z z.2.p 0)
def ji(zs:List (K2×Nd))(k:K2):ap (iT zs) k=(ap zs k).map λz=>Z z.p 0:=rv zs (λ_ z=>Z z.p 0) k
def nm(zs:List (K2×Nd)):(iT zs).length=zs.length:=by simp[iT]
def xb(zs:List (K2×Nd))(k:K2)(z:Nd):aR (iT zs) k (Z z.p 0)=iT (aR zs k z):=by
 induction zs with
 |nil=>rfl
 |cons e r ih=>
  obtain⟨j,y⟩:=e;simp only[iT,Pi,aR]at ih ⊢;by_cases h:j=k
  ·simp[h]
  ·simp[h,ih]
abbrev iq(w:World)(b:Nat)(l:List (K2×Value)):Prop:=aw prog 58 lO K2.ok w b l
def iq.drew{w:World}{b:Nat}{l:List (K2×Value)}(h:iq w b l):iq w.drew b l:=aw.D3 h rfl
def uH(w:World):(zeroValue 173).run prog w=.ok (.pointer none) w:=zR
def iq.look{w:World}{b:Nat}{l:List (K2×Value)}(h:iq w b l){k0 k1:Int}(hk:K2.ok ⟨k0,k1⟩):
  (Instr.lookup 285 (.map (some b)) (.agg #[E k0,E k1]) false).run prog w=.ok ((ap l ⟨k0,k1⟩).getD (.pointer none)) w:=
 aw.look h jO underlying285 (uH w) hk
def iq.look_ok{w:World}{b:Nat}{l:List (K2×Value)}(h:iq w b l){k0 k1:Int}(hk:K2.ok ⟨k0,k1⟩):
  (Instr.lookup 285 (.map (some b)) (.agg #[E k0,E k1]) true).run prog w=.ok (.tuple #[(ap l ⟨k0,k1⟩).getD (.pointer none),.bool (ap l ⟨k0,k1⟩).isSome]) w:=
 aw.look_ok h jO underlying285 (uH w) hk
def qg(c:Cg)(mb:Nat)(C7:Int):Array Value:=#[.map (some mb),I c.st,I c.sa,I c.lo,I c.hi,I C7]
structure dm(w:World)(c:Cg)(p mb:Nat)(C7:Int)(zs:List (K2×Nd)):Prop where
 B0:Blk w p 287 (qg c mb C7)
 map:iq w mb (iT zs)
structure cL(w:World)(c:Cg)(T:Nat->Tg)(i p mb:Nat)(C7:Int)(zs:List (K2×Nd)):Prop where
 at_:dm w c p mb C7 zs
 tp:T p=.st i
 tm:T mb=.st i
 nodes:∀z∈zs,bC w c z.2.p z.2.x z.2.fz (λb=>T b=z.2.tag z.1)
section
variable {w w':World} {c:Cg} {T:Nat→Tg} {i p mb:Nat} {C7:Int} {zs:List (K2×Nd)}
def dm.lt(h:dm w c p mb C7 zs):p<w.heap.size/\mb<w.heap.size:=⟨h.B0.lt,h.map.lt⟩
def dm.ne(h:dm w c p mb C7 zs):p≠mb:=Pc (aw.C9 h.map h.B0)
def dm.B7{L:Nat->Prop}(h:dm w c p mb C7 zs)(hK:ag L w w')(h1:¬L p)(h2:¬L mb):dm w' c p mb C7 zs:=⟨hK.B0 h.B0 h1,aw.B7 h.map hK h2⟩
def dm.up(h:dm w c p mb C7 zs)(hb:M w w'):dm w' c p mb C7 zs:=h.B7 (L:=λ_=>False) (ag.B5 hb) id id
def cL.B7{L:Nat->Prop}(h:cL w c T i p mb C7 zs)(hK:ag L w w')(h1:∀b,T b=.st i->¬L b)(h2:∀z∈zs,∀b,T b=z.2.tag z.1->¬L b):cL w' c T i p mb C7 zs:=
 ⟨h.at_.B7 hK (h1 _ h.tp) (h1 _ h.tm),h.tp,h.tm,λz a=>(h.nodes z a).B7 hK (h2 z a)⟩
def cL.up(h:cL w c T i p mb C7 zs)(hb:M w w'):cL w' c T i p mb C7 zs:=h.B7 (L:=λ_=>False) (ag.B5 hb) (λ_ _ e=>e) λ_ _ _ _ e=>e
def cL.tags{T':Nat->Tg}(h:cL w c T i p mb C7 zs)(hT:∀b,b<w.heap.size->T' b=T b):cL w c T' i p mb C7 zs:=
 ⟨h.at_,(hT _ h.at_.lt.1).trans h.tp,(hT _ h.at_.lt.2).trans h.tm,λz a=>(h.nodes z a).more λb d e=>(hT b d).trans e⟩
end
def mP(w:World)(c:Cg)(p mb:Nat)(C7:Int)(zs:List (K2×Nd))(h:dm w c p mb C7 zs):C 300 #[Z p 0] w λe w'=>e=.returned (.bool true)/\w=w':=by
 have a:w.cell? (Y p 0)=some (.map (some mb)):=h.B0.cell 0;have b:∀w,(binOp .neq 285 (.map (some mb)) (.map none)).run prog w=.ok (.bool true) w:=λw=>zR;clear h
 go_in
 go_wp2;go_ret;exact⟨rfl,rfl⟩
def rE(w:World)(c:Cg)(p mb:Nat)(C7:Int)(zs:List (K2×Nd))(h:dm w c p mb C7 zs)(k:K2)(hk:k.ok):
  Calls prog 311 #[.pointer (some ⟨p,0,none⟩),k.val] w λe w'=>e=.returned ((ap (iT zs) k).getD (.pointer none))/\Below w.heap.size w w':=by
 have a:=zh w (.cells #[.int .u64 k.hi,.int .u64 k.lo] 58);have f:=Blk.A8 w 58 #[.int .u64 k.hi,.int .u64 k.lo] rfl;have b:=h.up a;have j:=Z1 (mP _ c p mb C7 zs b);have l:=b.B0.cell 0;simp[qg]at l;obtain⟨m,n⟩:=k;have q:=(iq.drew b.map).look hk;have g:=Z2 a f;unfold K2.val K2.arr;simp only at*;clear h b a f
 go_in
 go_wp2_with fail;refine zY j.o ?_;generalize d:w.heap.size=r at*;generalize w.alloc (.cells #[.int .u64 m,.int .u64 n] 58)=V at*;have i:=Z1 d;clear d;obtain⟨s,t⟩:=ao g.o.2;go_wp2;refine cM (by kernel_rfl) (by kernel_rfl) ?_;repeat still_step
 refine wpStill_nil ?_;go_wp2;go_ret;exact⟨rfl,i.o▸g.o.1.drew⟩
def mQ(w:World)(c:Cg)(p mb:Nat)(C7:Int)(zs:List (K2×Nd))(h:dm w c p mb C7 zs)(k:K2)(hk:k.ok)(hn:zs.length<=100000)(z:Nd):
  C 303 #[Z p 0,k.val,Z z.p 0] w λe w'=>e=.returned (.tuple #[])/\∃ver',dm w' c p mb ver' (aR zs k z)/\ag (λb=>b=p\/b=mb) w w':=by
 have f:=zh w (.cells #[E k.hi,E k.lo] 58);have s:=Blk.A8 w 58 #[E k.hi,E k.lo] rfl;have n:=h.up f;have F:=n.B0.cell 0;simp[qg]at F;have j:=h.lt;obtain⟨t,u⟩:=k;have a:=Z5 f s n j hk;unfold K2.val K2.arr;simp only at*;clear h n f s j hk
 go_in
 go_wp2;generalize l:w.heap.size=H at*;generalize w.alloc (.cells #[E t,E u] 58)=V at*;have x:=Z1 l;clear l;obtain⟨L,N⟩:=ao a.o.2.1;refine zb 6 ?_;repeat still_step
 refine wpStill_nil ?_;refine cZ rfl _ _ _ 285 173 rfl jO underlying285 ⟨t,u⟩ a.o.2.2.2.2 (Z z.p 0) rfl rfl rfl (iq.drew a.o.2.2.1.map) (by rw[nm];exact hn) ?_;intro q g i y;rw[xb]at g;have d:=i.B0 a.o.2.2.1.B0.drew a.o.2.2.1.ne;have G:=d.cell 5;have O:=d.frozen 5;simp[qg]at G;have r:=Z3 g i d;clear g i y d;go_wp2;have A:=a.o.2.2.1.ne;have B:=r.o.2.2.B4 5 (I (wrap64 (C7+1)));have m:ag (λb=>b=p) q (q.setCell (Y p 5) (I (wrap64 (C7+1)))):=(ag.refl (λb=>b=p) q).setCell (p:=Y p 5) (.inl rfl) _;have D:=a.o.1;try rw[<-x.o]at D
 exact Pf (v:=.tuple #[]) (by simp[results,results303,go_sem]) rfl ⟨rfl,_,⟨B,aw.B7 r.o.1 m (Pc A)⟩,((ag.B5 D).drew.trans (r.o.2.1.C3 λb e=>.inr e)).trans (m.C3 λb e=>.inl e)⟩
def xc(w w':World)(c:Cg)(zs:List (K2×Nd))(k:K2)(e:Ending):Prop:=
 Below w.heap.size w w'/\((∃z,ap zs k=some z/\e=.returned (.tuple #[.pointer (some ⟨z.p,0,none⟩),.int .i64 0]))\/
  (ap zs k=none/\c.lo<=zs.length/\e=.returned (.tuple #[.pointer none,.int .i64 6]))\/
  (ap zs k=none/\zs.length<c.lo/\∃p,e=.returned (.tuple #[.pointer (some ⟨p,0,none⟩),.int .i64 0])/\bC w' c p .new false λb=>w.heap.size<=b))
def uI(hc:c.ok)(p mb:Nat)(C7:Int)(zs:List (K2×Nd))(h:dm w c p mb C7 zs)(k:K2)(hk:k.ok):
  C 301 #[Z p 0,k.val] w λe w'=>xc w w' c zs k e:=by
 have f:=zh w (.cells #[E k.hi,E k.lo] 58);have v:=Blk.A8 w 58 #[E k.hi,E k.lo] rfl;have a:=h.up f;have H:=a.B0.cell 0;have L:=a.B0.cell 1;have N:=a.B0.cell 2;have O:=a.B0.cell 3;have P:=a.B0.cell 4;simp[qg]at H L N O P;obtain⟨x,y⟩:=k;have r:=(iq.drew a.map).look_ok hk;rw[ji]at r;have s:=aw.len (iq.drew (iq.drew a.map)) underlying285 3;rw[nm]at s;have A:=Z1 (λW=>wS c hc W);have i:=Z2 f v;obtain⟨S,T,t,U⟩:=c;unfold K2.val K2.arr;unfold Cg.val at A;simp only at*;clear h a f v hc
 go_in
 go_wp2;generalize m:w.heap.size=X at*;generalize w.alloc (.cells #[E x,E y] 58)=V at*;have g:=Z1 m;clear m;obtain⟨d0,d1⟩:=ao i.o.2;refine cM zR zR ?_;repeat still_step
 refine wpStill_nil ?_
 cases hg:ap zs (⟨x,y⟩:K2)with
 |some z=>
  have j:=Z1 hg;simp only[hg,PT,Qd,Rl]at r ⊢;clear hg;go_wp2
  go_ret2
  exact⟨g.o▸i.o.1.drew,.inl ⟨z,j.o,rfl⟩⟩
 |none=>
  have j:=Z1 hg;simp only[hg,QH,QV,RE]at r ⊢;clear hg;go_wp2;refine cM zR zR ?_;repeat still_step
  refine wpStill_nil ?_;by_cases d:t<=zs.length
  ·have B:((t:Int)<=(zs.length:Int)):=zO;have u:=Z1 d;clear d;go_wp2
   go_ret2
   exact⟨g.o▸i.o.1.drew.drew,.inr (.inl ⟨j.o,u.o,rfl⟩)⟩
  ·have B:¬((t:Int)<=(zs.length:Int)):=zO;have u:=Z1 d;clear d;go_wp2_with fail;refine(A.o _).mono ?_;rintro e w2 ⟨Q,rfl,D,n⟩;have l:=i.o.1;try rw[<-g.o]at l
   have q:=l.size;have F:=Z2 (D.more (G:=λb=>w.heap.size<=b) λb _ e=>OJ q e) (af l.drew.drew n);clear D n l q;go_wp2
   go_ret2
   have R:=u.o;exact⟨F.o.2,.inr (.inr ⟨j.o,by simp only;omega,Q,rfl,F.o.1⟩)⟩
def dm.D7{w:World}{c:Cg}{zs:List (K2×Nd)}(h:dm w c p mb C7 zs):cw zs:=by
 have:=h.map.D7;unfold cw iT at*
 rwa [Px]at this
def dm.O2{w:World}{c:Cg}{zs:List (K2×Nd)}(h:dm w c p mb C7 zs):∀z∈zs,z.1.ok:=λz a=>h.map.E3 (z.1,Z z.2.p 0) (Pa.2 ⟨z,a,rfl⟩)
def nJ(w w':World)(c:Cg)(T:Nat->Tg)(i p mb:Nat)(zs:List (K2×Nd))(k:K2)(x:Ld):Prop:=
 ∃T' ver' p',(∀b,b<w.heap.size->T' b=T b)/\cL w' c T' i p mb ver' (aR zs k ⟨p',x,false⟩)/\ag (λb=>T b=.st i\/T b=.nd k) w w'
def kt{α:Type}{l:List (K2×α)}(hd:cw l){k:K2}{v:α}{e:K2×α}(h:e∈aR l k v):e=(k,v)\/(e∈l/\e.1≠k):=by
 have:=(io hd k v).mem_iff.1 h
 rcases Pj.1 this with e|e
 ·exact .inl e
 ·have:=Pp.1 e;exact .inr ⟨this.1,by simpa using this.2⟩
def qi{w:World}{c:Cg}{T:Nat->Tg}{zs:List (K2×Nd)}{k:K2}{p0:Nat}(h:cL w c T i p mb C7 zs)(hb:M w w1)
  (hF:fz=false->∀b,F b->T b=.nd k\/w.heap.size<=b)(hN:dh w1 w2 c p0 fz F p' x'):
  dm w2 c p mb C7 zs/\∀w3 ver',dm w3 c p mb ver' (aR zs k ⟨p',x',false⟩)->ag (λb=>b=p\/b=mb) w2 w3->nJ w w3 c T i p mb zs k x':=by
 obtain⟨G,v,x,y,d⟩:=hN;have A:=hb.size;have j:∀b,G b->T b=.nd k\/w.heap.size<=b:=λb e=>by
  cases fz with
  |false=>
        rcases(v rfl).2 b e with e|e
        ·exact hF rfl b e
        ·exact .inr zO
  |true=>exact .inr (OJ A (x rfl b e))
 have a:=h.at_.lt;have B:¬G p:=λe=>by
  rcases j _ e with e|e
  ·rw[h.tp]at e;cases e
  ·omega
 have D:¬G mb:=λe=>by
  rcases j _ e with e|e
  ·rw[h.tm]at e;cases e
  ·omega
 refine⟨(h.at_.up hb).B7 d B D,λw3 ver' H hK=>?_⟩;refine⟨ext T w.heap.size (.nd k),ver',p',λb e=>br T _ e,⟨H,(br T _ a.1).trans h.tp,(br T _ a.2).trans h.tm,λz n=>?_⟩,?_⟩
 ·have m:∀b,T b=.st i->b<w.heap.size->∀g,ext T w.heap.size (.nd k) b=g->g=.st i:=λb e hb g L=>by rw[<-L,br T _ hb,e]
  rcases kt h.at_.D7 n with rfl|⟨n,q⟩
  ·refine(y.more (G:=λb=>ext T w.heap.size (.nd k) b=.nd k) λb _ e=>?_).B7 hK λb e=>?_
   ·by_cases a:b<w.heap.size
    ·rw[br T _ a]
     rcases j b e with e|e
     ·exact e
     ·omega
    ·exact cC T _ zO
   ·rintro(rfl|rfl)
    ·have:=m b h.tp a.1 _ e;cases this
    ·have:=m b h.tm a.2 _ e;cases this
  ·have l:=h.nodes z n;have o:∀b,T b=z.2.tag z.1->T b≠.nd k/\T b≠.st i:=λb e=>by
    rw[e];unfold Nd.tag;split
    ·exact⟨(by intro e;cases e),by intro e;cases e⟩
    ·exact⟨λe=>q (by injection e),by intro e;cases e⟩
   have r:=l.more (G:=λb=>T b=z.2.tag z.1/\b<w.heap.size) λb hb e=>⟨e,hb⟩;have s:=(r.up hb).B7 d λb e N=>by
    rcases j b N with t|t
    ·exact(o b e.1).1 t
    ·omega
   have u:=s.B7 hK λb e=>by
    rintro(rfl|rfl)
    ·exact(o _ e.1).2 h.tp
    ·exact(o _ e.1).2 h.tm
   exact u.more λb _ e=>(br T _ e.2).trans e.1
 ·have O:ag (λb=>T b=.st i\/T b=.nd k) w w1:=ag.B5 hb;refine⟨(hK.os.trans d.os).trans hb.os,(hK.tape.trans d.tape).trans hb.tape,(hK.output.trans d.output).trans hb.output,OJ hb.size (OJ d.size hK.size),λb f l=>?_⟩;refine((hK.block b (OV f (OJ hb.size d.size)) ?_).trans (d.block b (OV f hb.size) ?_)).trans (hb.block b f)
  ·rintro(rfl|rfl)
   ·exact l (.inl h.tp)
   ·exact l (.inl h.tm)
  ·intro e
   rcases j b e with e|e
   ·exact l (.inr e)
   ·omega
def iU(zs:List (K2×Nd))(k:K2):Ld:=((ap zs k).map (·.x)).getD .new
def kO(c:Cg)(zs:List (K2×Nd))(k:K2):Prop:=ap zs k=none/\c.lo<=zs.length
def IL:ea Ld.new.D2/\Ld.new.D2.length<=c.sa:=⟨List.Pairwise.nil,OK _⟩
def sD{w V:World}{c:Cg}{T:Nat->Tg}{zs:List (K2×Nd)}{k:K2}{e:Ending}(h:cL w c T i p mb C7 zs)(hb:M w V)(hr:xc V w2 c zs k e):
  (kO c zs k/\e=.returned (.tuple #[.pointer none,I 6])/\M w w2)\/
  ∃p0 fz F,e=.returned (.tuple #[Z p0 0,I 0])/\¬kO c zs k/\bC w2 c p0 (iU zs k) fz F/\(fz=false->∀b,F b->(T b=.nd k/\b<w.heap.size)\/V.heap.size<=b)/\M w w2:=by
 obtain⟨l,hr⟩:=hr;have d:=af hb l;have o:=hb.size
 rcases hr with⟨z,a,f⟩|⟨a,f,g⟩|⟨a,f,p0,g,n⟩
 ·refine .inr ⟨z.p,z.fz,λb=>T b=z.tag k/\b<w.heap.size,f,λe=>absurd (a.symm.trans e.1) zS,?_,λe b m=>?_,d⟩
  ·unfold iU;rw[a];exact((h.nodes (k,z) (bR a)).more λb hb e=>⟨e,hb⟩).up d
  ·left
   have j:=m.1;unfold Nd.tag at j;rw[Oz (by rw[e];exact Rm)]at j;exact⟨j,m.2⟩
 ·exact .inl ⟨⟨a,f⟩,g,d⟩
 ·refine .inr ⟨p0,false,λb=>V.heap.size<=b,g,λe=>by have:=e.2;omega,?_,λ_ b hb=>.inr hb,d⟩;unfold iU;rw[a];exact n
def uJ{c:Cg}{zs:List (K2×Nd)}(hf:∀z∈zs,z.2.x.C6 c)(k:K2):ea (iU zs k).D2/\(iU zs k).D2.length<=c.sa:=by
 unfold iU
 cases h:ap zs k with
 |none=>exact IL c
 |some z=>exact⟨(hf _ (bR h)).sorted,(hf _ (bR h)).E5⟩
def IM(hc:c.ok)(T:Nat->Tg)(i p mb:Nat)(C7:Int)(zs:List (K2×Nd))(h:cL w c T i p mb C7 zs)(hf:∀z∈zs,z.2.x.C6 c)(hn:zs.length<=99999)(k:K2)(hk:k.ok)(t v:Int)(ht:0<=t)(hv:0<=v):
  C 287 #[Z p 0,k.val,I t,I v] w λe w'=>
   (kO c zs k/\e=.returned (I 6)/\M w w')\/(¬kO c zs k/\e=.returned (I 0)/\nJ w w' c T i p mb zs k (mg c (iU zs k) t v)):=by
 have s:=zh w (.cells #[E k.hi,E k.lo] 58);have N:=Blk.A8 w 58 #[E k.hi,E k.lo] rfl;have d:=h.at_.up s;have O:=λW=>iC t v W;rw[show bG t v=0 by unfold bG;rw[Oz zO,Oz zO]]at O;have HR:=Z1 O;have HM:=Z1 (mP _ c p mb C7 zs d);have HO:=Z1 (uI _ c hc p mb C7 zs d k hk);have H:=Z5 h hf hn hk hc;have S:=Z2 ht hv;obtain⟨u,y⟩:=k;have A:=Z2 s N;obtain⟨U,X⟩:=ao N;unfold K2.val K2.arr at*;simp only at*;clear h d s N hf O hk hc ht hv
 go_in
 go_wp2_with fail;refine zY (HR.o _) ?_;generalize m:w.heap.size=f at*;generalize w.alloc (.cells #[E u,E y] 58)=V at*;have B:=Z1 m;clear m;go_wp2_with fail;refine zY HM.o ?_;go_wp2_with fail;refine HO.o.mono ?_;rintro e w2 r;have n:=A.o.1;try rw[<-B.o]at n
 rcases sD H.o.1 n r with⟨d,rfl,g⟩|⟨p0,fz,F,rfl,d,q,hF,g⟩
 ·have j:=Z2 d g;clear r d g n;go_wp2;go_ret;exact .inl ⟨j.o.1,rfl,j.o.2⟩
 ·have hf:=uJ H.o.2.1 ⟨u,y⟩;have HP:=Z1 (Ix w2 c H.o.2.2.2.2 p0 _ fz F q hf.1 hf.2 t v S.o.1 S.o.2);have e0:=(r.1.cell (p:=Y f 0) A.o.2.lt).trans U;have e1:=(r.1.cell (p:=Y f 1) A.o.2.lt).trans X;have j:=Z4 d hF g r.1.size;clear r d hF g n q hf U X;go_wp2_with fail;refine zX HP.o λp' P l=>?_;have ae:=A.o.1.size;have hv:=A.o.2.lt;have m:=B.o;have Q:=qi H.o.1 j.o.2.2.1 (λe b hb=>(j.o.2.1 e b hb).imp And.left λe=>zO) l;obtain⟨f0,f1⟩:P.cell? (Y f 0)=some (E u)/\P.cell? (Y f 1)=some (E y):=by
   obtain⟨G,g1,g2,g3,g4⟩:=l;have D:=OV hv j.o.2.2.2;have hg:¬G f:=λe=>by
    cases fz with
    |false=>
     rcases(g1 rfl).2 _ e with e|e
     ·rcases j.o.2.1 rfl _ e with e|e<;>omega
     ·omega
    |true=>have:=g2 rfl _ e;omega
   exact⟨(OI (a:=Y f 0) (g4.block f D hg)).trans e0,(OI (a:=Y f 1) (g4.block f D hg)).trans e1⟩
  have HK:=Z2 (mQ P c p mb C7 zs Q.1 ⟨u,y⟩ H.o.2.2.2.1 (by have:=H.o.2.2.1;omega) ⟨p',mg c (iU zs ⟨u,y⟩) t v,false⟩) Q.2;clear ae hv m Q e0 e1 l;go_wp2_with fail;refine HK.o.1.mono ?_;rintro e w4 ⟨rfl,R,h4,L⟩;have HZ:=Z1 (HK.o.2 w4 R h4 L);clear h4 L;go_wp2;go_ret;exact .inr ⟨j.o.1,rfl,HZ.o⟩
def EM{l:List Smp}(hs:ea l)(t:Int):l.drop (placeF l t)=l.filter λs=>decide (t<=s.tick):=by
 induction l with
 |nil=>rfl
 |cons a r ih=>
  have c:=(Rn.1 hs);unfold placeF;by_cases h:a.tick<t
  ·simp only[RZ,h,decide_true,if_true,OC,ON];rw[So,Oz zT];exact ih c.2
  ·simp only[RZ,h,decide_false,Bool.false_eq_true,if_false,OE,OQ]
   symm
   rw[QR];intro s b
   rcases Pj.1 b with rfl|b
   ·simp;omega
   ·have:=c.1 s b;simp;omega
def rF(hs:ea x.D2)(t:Int):rx x t=eP t x:=by
 unfold rx eP;rw[EM hs]
def LF(hs:ea x.D2)(h:nj x t=false):eP t x=x:=by
 have b:=rF hs t;rw[<-b];obtain⟨D2,c,d,e⟩:=x;unfold rx;simp only
 cases D2 with
 |nil=>rfl
 |cons a r=>
  unfold nj at h;simp only[decide_eq_false_iff_not]at h;unfold placeF;simp[h]
def LG(h:nj x t=true):0<placeF x.D2 t:=by
 obtain⟨D2,b,c,d⟩:=x
 cases D2 with
 |nil=>cases h
 |cons a r=>
  unfold nj at h;simp only[decide_eq_true_eq]at h;unfold placeF;simp[h]
def pA{c:Cg}(h:x.C6 c)(t:Int):(eP t x).C6 c:=by
 refine⟨List.Pairwise.filter _ h.sorted,OJ (PF _ _) h.E5,λs a=>h.right s (Pp.1 a).1,h.C0,h.advs,h.L0,h.D8⟩
def lds(zs:List (K2×Nd)):List (K2×Ld):=zs.map λz=>(z.1,z.2.x)
def tO(zs:List (K2×Nd))(k:K2)(z:Nd):lds (aR zs k z)=aR (lds zs) k z.x:=by
 induction zs with
 |nil=>rfl
 |cons e r ih=>
  obtain⟨j,y⟩:=e;simp only[lds,Pi,aR]at ih ⊢;by_cases h:j=k
  ·simp[h]
  ·simp[h,ih]
def tP(zs:List (K2×Nd))(k:K2):ap (lds zs) k=(ap zs k).map (·.x):=rv zs (λ_ z=>z.x) k
section
open Go.Maps Go.Sort Go.Shelf
section
variable {F:Fence} {n:Nat} {P:Program} {k:TypeId} {κ:Type} {enc:κ→Lit} {val:κ→Value} {E3:κ→Prop} {w:World} {b:Nat} {l:List (κ×Value)}
def rG{o:Oper}(hg:o.guard=none)(m:Operand)(t e:TypeId)(hop:o.op=Op.range t m)
  (K:gp P k enc val E3)(ht:P.underlying t=some (.map k e))(hm:a.eval m=.map (some b))(h:aw P k enc E3 w b l)
  (hK:∀w',dx P k enc E3 w' b w.heap.size l (l.map (·.1)) l.length->M w w'->w'.heap.size=w.heap.size+1->wpListIn F n P ops Q rest (a.put o.dst (Z w.heap.size 0)) w'):
  wpListIn F n P ops Q (o::rest) a w:=by
 refine wpListIn_plain hg λq f=>?_;obtain⟨w',d,i,j,p⟩:=h.range K ht;unfold Oper.wpIn;refine⟨?_,?_⟩
 ·simp[Oper.about,hop]
 ·rw[Oper.semAt_plain F _ _ (by rw[hop];intro c g;cases g)];simp[execOp,hop,hm,d,Result.andThen];exact f _ _ (hK w' i j p)
def sE[DecidableEq κ]{o:Oper}{r cnt:Nat}{todo:List κ}(hg:o.guard=none)(it:Operand)(hop:o.op=Op.next it false)
  (K:gp P k enc val E3)(hval:∀v x,E3 x->keyOf P k v=some (enc x)->v=val x)(hit:a.eval it=Z r 0)(h:dx P k enc E3 w b r l todo cnt)
  (hDone:todo=[]->wpListIn F n P ops Q rest (a.put o.dst (.tuple #[.bool false])) w)
  (hMore:∀x v w' cnt',x∈todo->ap l x=some v->dx P k enc E3 w' b r l (todo.erase x) cnt'->cnt'<cnt->ag (λj=>j=r) w w'->w'.heap.size=w.heap.size->(Instr.entry (Z r 0)).run P w'=.ok (.tuple #[val x,v]) w'->
   wpListIn F n P ops Q rest (a.put o.dst (.tuple #[.bool true,val x,v])) w'):
  wpListIn F n P ops Q (o::rest) a w:=by
 refine wpListIn_plain hg λy e=>?_;unfold Oper.wpIn;refine⟨by simp[Oper.about,hop],?_⟩;rw[Oper.semAt_plain F _ _ (by rw[hop];intro c f;cases f)]
 rcases h.next K hval o.type with⟨g,d⟩|⟨x,v,w',cnt',i,m,d,p,q,s,t,u⟩
 ·simp[execOp,hop,hit,d,Result.andThen];exact e _ _ (hDone g)
 ·simp[execOp,hop,hit,d,Result.andThen];exact e _ _ (hMore x v w' cnt' i m p q s t u)
end
end
def ET(mb:Option Nat)(w:World):C 316 #[.map mb] w λe w'=>
  e=.returned (.func (.func 324) #[] #[Z w.heap.size 0])/\w.alloc (.cells #[.map mb] 285)=w':=by
 go_in
 go_wp2;go_ret;exact⟨rfl,rfl⟩
section
open Go.Maps Go.Sort Go.Shelf
set_option maxRecDepth 100000
attribute [local go_sem] Oper.semAt_some
def Nj(v:Value)(x:K2)(hx:x.ok)(h:keyOf prog 58 v=some (lO x)):v=x.val:=qf.inj h (nI x hx)
def EU(hn:1<=n)(l Bm b tb:Nat)(zs:List (K2×Value))(J Jx:List K2->World->Prop)(W:World)(hJ:AbidesFrom W.heap.size J)
  (hY:∀pre x W1,J pre W1->pre.length<zs.length->YieldAt Fence.wide (n-1) prog l #[x.val] W1 λe W'=>
   (e=.returned (.bool true)/\J (pre++[x]) W'/\KeepsWalks W1 W')\/(e=.returned (.bool false)/\Jx (pre++[x]) W'))
  (hm:Blk W Bm tb #[.map (some b)])(hown:iq W b zs)(h0:J [] W):
  CallsIn Fence.wide n prog 324 #[.func (.yield l) #[] #[],Z Bm 0] W λe W'=>(∃v,e=.returned v)/\
   ((∃ys,ys.Perm (zs.map (·.1))/\J ys W')\/∃pre,Jx pre W'):=by
 have R:=hm.cell 0;refine callsIn_of_wp func324 rfl trivial ?_ rfl;simp only[ntmps324,OD,OC,OE,Nat.reduceAdd,Nat.reduceSub,Qu,Qv,QJ,QD,QA,PY];simp at R
 gi_wp2_with (first
  |(gi_at_range;refine rG rfl _ 285 173 rfl jO underlying285 rfl hown ?_;intro w0 L g an)
  |gi_in)
 go_frame
 gi_loopw [3] (λ_ wr=>∃(a:List K2) (B:Nat) (c:List K2),dx prog 58 lO K2.ok wr b W.heap.size zs a B/\(c++a).Perm (zs.map (·.1))/\J c wr)
  (λ_ wr=>wr.rangeLeft b W.heap.size)
 case atStart=>
  exact⟨_,_,[],L,.refl _,hJ [] W w0 none h0 ⟨g.os,g.tape,g.output,g.size,λj m _=>g.block j m⟩ (λr e=>by cases e)⟩
 case round=>
  obtain⟨a,B,c,p,A,D⟩:=hrel
  gi_wp2_with (first
   |(gi_at_next;refine sE rfl _ rfl jO (λv x q h=>Nj v x q h) rfl p ?_ ?_)
   |gi_in)
  ·intro h0;gi_wp2
   go_end0
   subst h0;exact⟨⟨_,rfl⟩,.inl ⟨c,by simpa using A,D⟩⟩
  ·intro x v k s q hv t S f T ao;have u:c.length<zs.length:=by
    have N:=A.length_eq;have U:=List.length_pos_of_mem q;simp at N;omega
   have F:((c++[x])++a.erase x).Perm (zs.map (·.1)):=by
    refine List.Perm.trans ?_ A;rw[Pv];exact List.Perm.append_left c (List.perm_cons_erase q).symm
   have G:∃o:Obj,wr.heap[W.heap.size]?=some o/\o.isWalk=true:=by
    obtain⟨_,_,h,_⟩:=p.own;exact h.iter_walk
   have H:=hJ c wr k (some W.heap.size) D ⟨f.os,f.tape,f.output,f.size,λj m X=>f.block j m λe=>X (by rw[e])⟩ (λr e=>by cases e;exact⟨OA _,G⟩);obtain⟨w,y⟩:=x;have d:M k (k.alloc (.cells #[E w,E y] 58)):=ae (Oy _ _) _;have i:=hJ c k (k.alloc (.cells #[E w,E y] 58)) none H ⟨d.os,d.tape,d.output,d.size,λj m _=>d.block j m⟩ (λr e=>by cases e);obtain⟨fn,af,aa,ag,hy,ab⟩:=hY c ⟨w,y⟩ _ i u;have O:=Z3 F (t.up d) S;unfold K2.val K2.arr at*;simp only at*;clear u F G H A T q t f i d;gi_wp2;refine ab.mono ?_;rintro e W3 (⟨rfl,i,ac⟩|⟨rfl,P⟩)
   ·gi_wp2;have z:dx prog 58 lO K2.ok W3 b W.heap.size zs (a.erase ⟨w,y⟩) s:=by
     obtain⟨⟨es,Q,N,U⟩,h3,h4,h5,h6⟩:=O.o.2.1;exact⟨⟨es,Q,N.of_walks ac,U⟩,h3,h4,h5,h6⟩
    go_roundw
    case rel=>exact⟨_,s,c++[⟨w,y⟩],z,O.o.1,i⟩
    case measure=>rw[z.left_eq,p.left_eq];exact O.o.2.2
   ·gi_wp2;refine OH (Pb rfl _ _ _) rfl ?_;exact⟨⟨_,rfl⟩,.inr ⟨_,P⟩⟩
end
section
open Go.Maps Go.Sort Go.Shelf
set_option maxRecDepth 100000
attribute [local go_sem] Oper.semAt_some
def Aj(hn:1<=n)(Bm b tb:Nat)(zs:List (K2×Value))(w:World)(hm:Blk w Bm tb #[.map (some b)])(hown:iq w b zs):
  SeqStopsK Fence.wide n prog 324 #[Z Bm 0] (λx:K2=>#[x.val]) KeepsWalks (λys=>ys.Perm (zs.map (·.1))) (λ_=>True) zs.length w:=λl J c W hW d _ f g=>
 (EU n hn l Bm b tb zs J c W d f (hm.later hW) (aw.up hown hW) g).mono
  λe k ⟨i,h⟩=>⟨i,h.imp id λ⟨a,j⟩=>⟨a,trivial,j⟩⟩
def IP(lb:Array Value)(gf:Nat)(B vb:Nat)(x:K2):Act:={tmps:=#[.slice none 0 0,.func (.func gf) #[] lb,Z B 0,undef,.slice none 0 0,Z vb 0,.func (.func gf) #[] lb,x.val,undef,undef,undef,undef,undef],defers:=[]}
def EV(S Sp:List K2->Prop)(N:Nat)(w:World)(hN:N<=100000)(eg:∀args w,(callFunc gf args).run prog w=.ok (.enter gf args) w)
  (hKt:∀{A B C:World},Kp A B->Kp B C->Kp A C)(hKb:∀(W:World) (l:Nat) (o o':Obj),w.heap.size+1<=l->W.heap[l]?=some o->o.isCells=false->o.isWalk=false->Kp W (W.putObj l o'))
  (hKo:∀W W',M w W->Below w.heap.size W W'->KeepsOthers W W'->Kp W W')
  (hst:SeqStopsK Fence.wide 2 prog gf lb (λx:K2=>#[x.val]) Kp S Sp N (w.alloc (.cells #[.slice none 0 0] 36))):
  Calls prog 176 #[.slice none 0 0,.func (.func gf) #[] lb] w λe w'=>∃v ys,e=.returned v/\S ys/\aL 2 w w' 58 v ys.length (cG ys):=by
 obtain⟨i0,hi,ac,ad,ae⟩:=info_parts tM.info;refine(callsIn_wide (n:=3)).1 ?_;refine callsIn_of_wp_marks func176 rfl trivial ?_ rfl;simp only[ntmps176,OD,OC,OE,Nat.reduceAdd,Nat.reduceSub,Qu,Qv,QJ,QD,QA,PY];gi_wp2;have bO:=Boxed.new w 36 (.slice none 0 0);have af:M w (w.alloc (.cells #[.slice none 0 0] 36)):=(Oy _ w).alloc (OA _) _;refine wpIn_rangeFunc_ownH rfl zP (gf:=gf) (lb:=lb) rfl trivial eg
  hst (λh k=>hKt h k) (λW l o o' hl T t U=>hKb W l o o' (by simpa using hl) T t U) (Oy _ _) (λ_=>rfl)
  (λa W=>(∃v,Boxed W w.heap.size 36 v/\W.ownsRow w.heap.size 58 2 v a.length (cG a)/\True)/\M w W)
  (λ_ _ _=>False)
  (OwnFrom.and (Own.from (holdsRow_own w.heap.size w.heap.size 36 58 2 (λ(a:List K2)=>a.length) (λa=>cG a) λ_ _=>True) _) (ownFrom_below (OA _) zS))
  (λ_ _ _ _ _ hs _ _=>hs)
  ⟨⟨_,bO,Pn _ _ _ _,trivial⟩,af⟩
  (λx X W=>∃p,w.heap.size<p/\Blk W p 58 x.arr/\X=IP lb gf w.heap.size p x) ?ax ?assign ?body ?done ?stop
 case ax=>
  rintro x X s W W' a3 ⟨p,T,t,U⟩ hg hr;refine⟨p,T,(hg.block p t.lt λe=>?_).trans t,U⟩;obtain⟨_,o,F,hc⟩:=hr p e.symm;rw[show W.heap[p]?=_ from t]at F;injection F with F;subst F
  cases hc
 case assign=>
  rintro l a ⟨f,g⟩ W K ⟨⟨v,q,d,_⟩,b⟩ hK;unfold K2.val K2.arr;simp only;have ag:=b.size;have L:Below w.heap.size W (W.alloc (.cells #[E f,E g] 58)):=(Oy _ W).alloc ag _;have ah:=q.lt;have HZ:=hK (IP lb gf w.heap.size W.heap.size ⟨f,g⟩) (W.alloc (.cells #[E f,E g] 58)) ((KeepsOthers.alloc W _).from _) (hKo _ _ b L (KeepsOthers.alloc W _)) ⟨⟨v,q.alloc _,d.alloc _,trivial⟩,b.trans L⟩ ⟨W.heap.size,ah,Blk.A8 W 58 _ rfl,rfl⟩;have HZ:=Z1 HZ;clear hK;gi_wp2;exact HZ.o
 case body=>
  rintro l a ⟨f,g⟩ X W _ _ ⟨⟨v,q,d,_⟩,b⟩ ⟨p,a4,O,rfl⟩ a5;unfold IP K2.val K2.arr;simp only;have hc:=q.cell;obtain⟨d0,d1⟩:=ao O;have a6:a.length<100000:=zO;obtain⟨Av,cv,rfl,_,_⟩:=ak d;have y:∀(j:Nat) (u:Value),[E f,E g][j]?=some u->(W.alloc (.cells #[E f,E g] 58)).cell? (((Y W.heap.size 0):Addr).add j)=some u:=by
   intro j u i;have hb:=Blk.A8 W 58 #[E f,E g] rfl
   match j,i with
   |0,i=>injection i with i;subst i;exact hb.cell 0
   |1,i=>injection i with i;subst i;exact hb.cell 1
   |j+2,i=>simp at i
  have a7:=O.lt
  gi_wp2_with (gi_at_builtin;refine wpListIn_append_own _ rfl _ _ 36 rfl w.heap.size 58 i0 (.agg #[E 0,E 0]) 2 16 tM.under hi ac ad ae rfl zP _ _ _ rfl (d.alloc _) (Y W.heap.size 0) 1 1 [E f,E g] rfl rfl y zV zU zO (by have:=b.size;simp;omega) ?_;intro v' G r H _;obtain⟨z,m,rfl⟩:=ownsRow_succ r;obtain⟨P,aj,al,Q,R⟩:=q.appended zP d b.size (OA _) r H;have a8:=P.cell;have a9:=P.frozen)
  have am:cG (a++[⟨f,g⟩])=cG a++[E f,E g]:=by simp[cG,K2.cells]
  have an:(G.setCell (Y w.heap.size 0) (V z 0 (a.length+1) m)).ownsRow w.heap.size 58 2 (V z 0 (a.length+1) m) (a++[(⟨f,g⟩:K2)]).length (cG (a++[⟨f,g⟩])):=by
   rw[am,OS];exact al
  have hI:(∃v,Boxed (G.setCell (Y w.heap.size 0) (V z 0 (a.length+1) m)) w.heap.size 36 v/\(G.setCell (Y w.heap.size 0) (V z 0 (a.length+1) m)).ownsRow w.heap.size 58 2 v (a++[(⟨f,g⟩:K2)]).length (cG (a++[⟨f,g⟩])))/\M w (G.setCell (Y w.heap.size 0) (V z 0 (a.length+1) m)):=⟨⟨_,aj,an⟩,b.trans R⟩;exact⟨Q.from _,hKo _ _ b R Q,hI⟩
 case done=>
  rintro D ys W hD hS ⟨⟨v,q,d,_⟩,b⟩ hK;have hc:=q.cell;have HS:=Z1 hS;gi_wp2;refine⟨zS,.inl ⟨_,_,rfl,run_takeDeferred hK,?_⟩⟩;exact⟨_,results_tmp rfl _ _ _,v,ys,rfl,HS.o,ownsRow_putObj d _ hK rfl,b.trans (belowK_b (w:=w) (OA _) W D _ _ (by simp at hD;omega) hK rfl rfl)⟩
 case stop=>
  rintro D c a W _ _ h _;exact h.elim
def xe(S Sp:List K2->Prop)(N:Nat)(w:World)(hN:N<=100000)(eg:∀args w,(callFunc gf args).run prog w=.ok (.enter gf args) w)
  (hKt:∀{A B C:World},Kp A B->Kp B C->Kp A C)(hKb:∀(W:World) (l:Nat) (o o':Obj),w.heap.size+1<=l->W.heap[l]?=some o->o.isCells=false->o.isWalk=false->Kp W (W.putObj l o'))
  (hKo:∀W W',M w W->Below w.heap.size W W'->KeepsOthers W W'->Kp W W')
  (hst:SeqStopsK Fence.wide 2 prog gf lb (λx:K2=>#[x.val]) Kp S Sp N (w.alloc (.cells #[.slice none 0 0] 36))):
  Calls prog 142 #[.func (.func gf) #[] lb] w λe w'=>∃v ys,e=.returned v/\S ys/\aL 2 w w' 58 v ys.length (cG ys):=by
 have d:=Z1 (EV gf lb Kp S Sp N w hN eg hKt hKb hKo hst);clear hst hKo hKb hKt eg
 go_in
 go_wp2_with fail;refine d.o.mono ?_;rintro e w' ⟨v,ys,rfl,a,b⟩;have c:=Z2 a b;clear b a;go_wp2;go_ret;exact⟨v,ys,rfl,c.o.1,c.o.2⟩
def xf(Bm b tb:Nat)(zs:List (K2×Value))(w:World)(hn:zs.length<=100000)(hm:Blk w Bm tb #[.map (some b)])(hown:iq w b zs):
  C 142 #[.func (.func 324) #[] #[Z Bm 0]] w λe w'=>∃v ys,e=.returned v/\ys.Perm (zs.map (·.1))/\aL 2 w w' 58 v ys.length (cG ys):=
 xe _ _ KeepsWalks _ _ zs.length w hn (enters_of func324 zR rfl) (λh k=>h.trans k) (λW l o a _ c _ d=>KeepsWalks.putObj a c d)
  (λ_ _ _ _ h=>h.walks) (Aj 2 zP Bm b tb zs _ (hm.alloc _) (aw.up hown ((Oy _ w).alloc (OA _) _)))
end
end Go.Fw
namespace Go.Proofs
open Go.Shelf Go.Fw
def O4:Go.Shelf.Ren:=⟨λ|6=>158|15=>146|14=>194|28=>187|29=>188|20=>212|21=>213|22=>214|23=>215|24=>216|25=>217|26=>218|27=>219|46=>232|47=>204|48=>205|49=>233|50=>234|57=>238|n=>n,λ|22=>36|24=>58|25=>228|3=>3|39=>139|0=>0|53=>153|55=>56|4=>4|46=>292|45=>291|50=>226|5=>5|9=>9|66=>319|70=>323|76=>339|77=>340|n=>n,λ|n=>n⟩
def lsk:Go.Proofs.SlLaysF0.n6 prog O4:={
 mixed:=by kernel_rfl
 f6:=⟨f158.name,by decide,func158.trans (congrArg some (by kernel_rfl))⟩
 f14:=⟨f194.name,by decide,func194.trans (congrArg some (by kernel_rfl))⟩
 f15:=func146.trans (congrArg some (by kernel_rfl))
 f20:=⟨f212.name,by decide,func212.trans (congrArg some (by kernel_rfl))⟩
 f21:=⟨f213.name,by decide,func213.trans (congrArg some (by kernel_rfl))⟩
 f22:=⟨f214.name,by decide,func214.trans (congrArg some (by kernel_rfl))⟩
 f23:=⟨f215.name,by decide,func215.trans (congrArg some (by kernel_rfl))⟩
 f24:=⟨f216.name,by decide,func216.trans (congrArg some (by kernel_rfl))⟩
 f25:=⟨f217.name,by decide,func217.trans (congrArg some (by kernel_rfl))⟩
 f26:=⟨f218.name,by decide,func218.trans (congrArg some (by kernel_rfl))⟩
 f27:=⟨f219.name,by decide,func219.trans (congrArg some (by kernel_rfl))⟩
 f28:=func187.trans (congrArg some (by kernel_rfl))
 f29:=func188.trans (congrArg some (by kernel_rfl))
 f46:=⟨f232.name,by decide,func232.trans (congrArg some (by kernel_rfl))⟩
 f47:=func204.trans (congrArg some (by kernel_rfl))
 f48:=func205.trans (congrArg some (by kernel_rfl))
 f49:=⟨f233.name,by decide,func233.trans (congrArg some (by kernel_rfl))⟩
 f50:=⟨f234.name,by decide,func234.trans (congrArg some (by kernel_rfl))⟩
 f57:=⟨f238.name,by decide,func238.trans (congrArg some (by kernel_rfl))⟩
 t0:=underlying0
 a0:=isAgg0
 z0:=sizeOf0
 v0:=zeroValue0
 t3:=underlying3
 a3:=isAgg3
 z3:=sizeOf3
 v3:=zeroValue3
 t4:=underlying4
 a4:=isAgg4
 z4:=sizeOf4
 v4:=zeroValue4
 t5:=underlying5
 a5:=isAgg5
 z5:=sizeOf5
 v5:=zeroValue5
 t9:=underlying9
 a9:=isAgg9
 z9:=sizeOf9
 v9:=zeroValue9
 t22:=underlying36
 a22:=isAgg36
 z22:=sizeOf36
 v22:=zeroValue36
 t25:=underlying228
 a25:=isAgg228
 z25:=sizeOf228
 v25:=zeroValue228
 t39:=underlying139
 a39:=isAgg139
 z39:=sizeOf139
 v39:=zeroValue139
 t45:=underlying291
 a45:=isAgg291
 z45:=sizeOf291
 v45:=zeroValue291
 t46:=underlying292
 a46:=isAgg292
 z46:=sizeOf292
 v46:=zeroValue292
 t50:=underlying226
 a50:=isAgg226
 z50:=sizeOf226
 v50:=zeroValue226
 t53:=underlying153
 a53:=isAgg153
 z53:=sizeOf153
 v53:=zeroValue153
 t55:=underlying56
 a55:=isAgg56
 z55:=sizeOf56
 v55:=zeroValue56
 t66:=underlying319
 a66:=isAgg319
 z66:=sizeOf319
 v66:=zeroValue319
 t70:=underlying323
 a70:=isAgg323
 z70:=sizeOf323
 v70:=zeroValue323
 t76:=underlying339
 a76:=isAgg339
 z76:=sizeOf339
 v76:=zeroValue339
 t77:=underlying340
 a77:=isAgg340
 z77:=sizeOf340
 v77:=zeroValue340}
end Go.Proofs
namespace Go.Fw
open Go.RowKit open Go.Proofs hiding intOf
variable {g B p mb i p' b h d:Nat}{cs:Array Value}{v:Value}{xs:List Value}{L l ks:List K2}{C7 t:Int}{w1 w2:World}{fz:Bool}{F S:Nat->Prop}{x' x:Ld}{ops:Array Oper}{rest:List Oper}{a:Act}{Q:Exit->Act->World->Prop}(w w':World)(gf:Nat)(lb:Array Value)(u q n k:Nat)(c:Cg)(W:World)(Sp:List K2->Prop)(N:Nat)(Kp:World->World->Prop)
section
open Go.Maps Go.Sort Go.Shelf
set_option maxRecDepth 100000
def CC(p:Option Addr)(cap:Nat)(fv:Value)(w:World):C 158 #[.slice p 0 cap,fv] w λe w'=>e=.returned (.tuple #[])/\w'=w:=
 AnyF.slices_SortFunc_none lsk p cap fv w
end
section
open Go.Sort
def qk(l:List K2):List K2:=l.mergeSort λx y=>!(ltOf bM) y x
def nK(x y:K2):ltOf bM x y=decide (x.hi<y.hi\/(x.hi=y.hi/\x.lo<y.lo)):=by
 unfold ltOf bM;by_cases h:x=y
 ·subst h;simp
 ·by_cases a:x.hi<y.hi\/(x.hi=y.hi/\x.lo<y.lo)<;>simp[h,a]
def ot:SWO (ltOf bM):=by
 refine⟨λx=>?_,λx y z=>?_,λx y z=>?_⟩<;>simp only[nK,decide_eq_true_eq,decide_eq_false_iff_not]<;>omega
def IT(x y:K2)(h1:ltOf bM x y=false)(h2:ltOf bM y x=false):x=y:=by
 simp only[nK,decide_eq_false_iff_not]at h1 h2;obtain⟨a,b⟩:=x;obtain⟨c,d⟩:=y;simp only at h1 h2;have e:a=c:=zO;have f:b=d:=zO;rw[e,f]
end
section
open Go.Maps Go.Sort Go.Shelf
set_option maxRecDepth 100000
def EX(B g c:Nat)(l:List K2)(w:World)(h:w.ownsRow B 58 2 (V g 0 l.length c) l.length (cG l))(hpos:0<l.length)(hn:l.length<=100000):
  C 158 #[V g 0 l.length c,.func (.func 124) #[] #[]] w λe w'=>e=.returned (.tuple #[])/\
   w'.ownsRow B 58 2 (V g 0 l.length c) l.length (cG (qk l))/\ag (λj=>j=g) w w':=by
 obtain⟨b,d⟩:=pz (enc:=K2.cells) (k:=2) (λ_=>rfl) h rfl hpos;refine(AnyQ.slices_SortFunc_total lsk 2 (λw=>zR) (λw=>zR) K2.cells (λ_=>rfl) (λx v a=>by simp[K2.cells]at a;rcases a with rfl|rfl<;>rfl) bM ot 124 #[] g 0 c l.toArray w (enters_of func124 zR rfl) (λm f i _ x y=>uL x y _) b d zT IT).mono ?_;rintro e w' ⟨rfl,n,f,rfl⟩;exact⟨rfl,oq (enc:=K2.cells) (k:=2) (λ_=>rfl) h rfl (Rr _) hpos⟩
end
section
open Go.Sort
structure Et where
 k:K2
 p:Nat
instance:Inhabited Et:=⟨⟨⟨0,0⟩,0⟩⟩
def Et.cells(x:Et):List Value:=[E x.k.hi,E x.k.lo,Z x.p 0]
def bY(x y:Et):Int:=bM x.k y.k
def Bs(x y:Et):ltOf bY x y=ltOf bM x.k y.k:=rfl
def gJ:SWO (ltOf bY):=⟨λx=>ot.irrefl x.k,λx y z=>ot.trans x.k y.k z.k,λx y z=>ot.ntrans x.k y.k z.k⟩
end
section
open Go.Shelf Go.Sort Go.Lib
set_option maxRecDepth 1000000
abbrev no(k:Nat)(w0:World)(B0 off:Nat)(d0:Array Et):Prop:=RowK Et.cells k w0 B0 off d0
abbrev SE(k:Nat)(w0:World)(B0 off:Nat)(d:Array Et)(w:World):Prop:=SWK Et.cells k w0 B0 off d w
def LJ(zE:∀w,(Go.sizeOf 224).run prog w=.ok k w)(w0:World)(B0 off cap g:Nat)(cb:Array Value)(N0:Nat)(d0 d:Array Et)(R:no k w0 B0 off d0)(hs:d0.size=N0)(hsd:d.size=N0)(hsz:N0<4611686018427387904)(a b n:Nat)(w:World)(S:SE k w0 B0 off d w)(hab:a+n<=b)(hb:b+n<=N0):
  C 336 #[V B0 off N0 cap,I a,I b,I n,.func (.func g) #[] cb] w λe w'=>e=.returned (.tuple #[])/\∃d',SE k w0 B0 off d' w'/\(∀t,d'[t]! =iJ (λt=>d[t]!) a b n t)/\∀lo hi,lo<=a->b+n<=hi->hi<=N0->PermIn lo hi d d':=by
 have v:=S;clear S
 go_in
 go_wp2;go_loopg [10] n (λz s wr=>∃(i:Nat) (c:Array Et),s=I i/\i<=n/\n-i<=z/\c.size=N0/\Aside (SWK Et.cells k w0 B0 off c wr)/\Hid ((∀t,c[t]! =iJ (λt=>d[t]!) a b i t)/\∀lo hi,lo<=a->b+n<=hi->hi<=N0->PermIn lo hi d c))
 case atStart=>exact⟨0,d,rfl,OK _,OA _,hsd,v,⟨λt=>(EN _ _ _ _).symm,λlo hi _ _ _=>permIn_refl _ _ _⟩⟩
 case round=>
  clear v;obtain⟨i,c,rfl,U,X,x,f,p⟩:=hrel;by_cases aa:i<n
  ·have A:(i:Int)<(n:Int):=zO;go_wp2_with fail;have B:((a:Int)+(i:Int)).toNat=a+i:=zO;have D:(0:Int)<=(a:Int)+(i:Int):=zO;have F:(a:Int)+(i:Int)<(N0:Int):=zO;have G:IntKind.i64.wrap ((a:Int)+(i:Int))=(a:Int)+(i:Int):=by rw[OX];omega
   have H:((b:Int)+(i:Int)).toNat=b+i:=zO;have L:(0:Int)<=(b:Int)+(i:Int):=zO;have N:(b:Int)+(i:Int)<(N0:Int):=zO;have O:IntKind.i64.wrap ((b:Int)+(i:Int))=(b:Int)+(i:Int):=by rw[OX];omega
   have q:=f.o.swapped R (a+i) (b+i) zO zO;have j:=f.o.ld1 R zO prog (a+i) zO;have l:=f.o.ld1 R zO prog (b+i) zO;have m:=f.o.st1 R zO prog (a+i) zO c[b+i]!;have h:=f.o.st2 R zO prog (a+i) (b+i) zO zO c[b+i]! c[a+i]!;have r:(Et.cells c[a+i]!).length=k:=R.hk _;have u:(Et.cells c[b+i]!).length=k:=R.hk _;generalize Et.cells c[a+i]! =cI44 at q j h r;generalize Et.cells c[b+i]! =cJ44 at q l m h u;clear f;have y:prog.follows Departure.mixedOrders=true:=zR;have aE:∀w,(isAgg 224).run prog w=.ok true w:=λw=>zR;go_wp2_with fail
   go_big_region_o
   clear j l m h;generalize (wr.drew.setCells B0 (off+(a+i)*k) cJ44).setCells B0 (off+(b+i)*k) cI44=w2 at q ⊢;go_wp2
   go_roundg (n-(i+1))
   case measure=>omega
   case rel=>
    refine⟨i+1,swp c (a+i) (b+i),by go_num,zO,OA _,by rw[size_swp];exact x,q,⟨EQ zO zO p.o.1,λlo hi P Q T=>permIn_trans _ _ _ _ _ (p.o.2 lo hi P Q T) (swp_permIn _ _ _ _ _ zO zO zO zO zO)⟩⟩
  ·obtain rfl:i=n:=zO;go_wp2
   go_end0
   exact⟨rfl,c,f.o,p.o.1,p.o.2⟩
def LK(zE:∀w,(Go.sizeOf 224).run prog w=.ok k w)(w0:World)(B0 off cap g:Nat)(cb:Array Value)(N0:Nat)(d0 d:Array Et)(R:no k w0 B0 off d0)(hs:d0.size=N0)(hsd:d.size=N0)(hsz:N0<4611686018427387904)(a m b:Nat)(w:World)(S:SE k w0 B0 off d w)(ham:a<m)(hmb:m<b)(hb:b<=N0):
  C 335 #[V B0 off N0 cap,I a,I m,I b,.func (.func g) #[] cb] w λe w'=>e=.returned (.tuple #[])/\∃d',SE k w0 B0 off d' w'/\(∀t,d'[t]! =fw (λt=>d[t]!) a m b t)/\∀lo hi,lo<=a->b<=hi->hi<=N0->PermIn lo hi d d':=by
 have D:=S;have Q:=Z1 (λ(p:Array Et) (h:p.size=N0)=>LJ k zE w0 B0 off cap g cb N0 d0 p R hs h hsz);clear S
 go_in
 go_wp2;go_loopg [10,11] (b-a) (λT U X wr=>∃(i j:Nat) (p:Array Et),U=I i/\X=I j/\0<i/\0<j/\a+i<=m/\m+j<=b/\i+j<=T/\p.size=N0/\Aside (SWK Et.cells k w0 B0 off p wr)/\Hid ((∀t,fw (λt=>p[t]!) (m-i) m (m+j) t=fw (λt=>d[t]!) a m b t)/\∀lo hi,lo<=a->b<=hi->hi<=N0->PermIn lo hi d p))
 case atStart=>
  refine⟨m-a,b-m,d,by go_num,by go_num,zO,zO,zO,zO,zO,hsd,D,⟨λt=>?_,λlo hi _ _ _=>permIn_refl _ _ _⟩⟩;rw[show m-(m-a)=a by omega,show m+(b-m)=b by omega]
 case round=>
  clear D;obtain⟨i,j,p,rfl,rfl,F,G,H,L,aa,u,z,s⟩:=hrel;have l:=λ(a b n:Nat) (wx:World)=>Q.o p u a b n wx;have e1:IntKind.i64.wrap ((m:Int)-(i:Int))=((m-i:Nat):Int):=by rw[OX];omega
  have ab:wrap64 ((m:Int)-(i:Int))=((m-i:Nat):Int):=by unfold wrap64;omega
  by_cases N:j<i
  ·have A:(j:Int)<(i:Int):=zO;have B:((i:Int)==(j:Int))=false:=zT;have v:=Z1 (l (m-i) m j wr z.o zO zO);clear l;go_wp2_with fail;refine v.o.mono ?_;rintro e O ⟨rfl,d',q,c,r⟩;have f:=Z3 q c r;clear q c r;go_wp2
   go_roundg (i-j+j)
   case measure=>omega
   case rel=>
    refine⟨i-j,j,d',by go_num,rfl,zO,G,zO,L,zO,(f.o.2.2 a b zO zO zO).1.trans u,f.o.1,⟨λt=>?_,λlo hi x c y=>permIn_trans _ _ _ _ _ (s.o.2 lo hi x c y) (f.o.2.2 lo hi zO zO zO)⟩⟩;rw[<-s.o.1,uK f.o.2.1,show m-(i-j)=m-i+j by omega];exact IN _ N zO t
  ·by_cases P:i<j
   ·have A:¬(j:Int)<(i:Int):=zO;have B:((i:Int)==(j:Int))=false:=zT;have v:=Z1 (l (m-i) (m+j-i) i wr z.o zO zO);have e2:(m:Int)+(j:Int)-(i:Int)=((m+j-i:Nat):Int):=zO;clear l;go_wp2_with fail;refine v.o.mono ?_;rintro e O ⟨rfl,d',q,c,r⟩;have f:=Z3 q c r;clear q c r;go_wp2
    go_roundg (i+(j-i))
    case measure=>omega
    case rel=>
     refine⟨i,j-i,d',rfl,by go_num,F,zO,H,zO,zO,(f.o.2.2 a b zO zO zO).1.trans u,f.o.1,⟨λt=>?_,λlo hi x c y=>permIn_trans _ _ _ _ _ (s.o.2 lo hi x c y) (f.o.2.2 lo hi zO zO zO)⟩⟩;rw[<-s.o.1,uK f.o.2.1,show m+(j-i)=m+j-i by omega];exact EO _ P zO t
   ·obtain rfl:i=j:=zO;have v:=Z1 (l (m-i) m i wr z.o zO zO);clear l;go_wp2_with fail;refine v.o.mono ?_;rintro e O ⟨rfl,d',q,c,r⟩;have f:=Z3 q c r;clear q c r;go_wp2
    go_end0
    refine⟨rfl,d',f.o.1,λt=>?_,λlo hi x c y=>permIn_trans _ _ _ _ _ (s.o.2 lo hi x c y) (f.o.2.2 lo hi zO zO zO)⟩;rw[<-s.o.1,f.o.2.1];exact Ni _ zO t
end
section
open Go.Sort
section
variable {α:Type} [Inhabited α] {lt:α→α→Bool}
def Nk(hS:SWO lt){d:Array α}{m:Nat}(hs:SortedIn lt m b d){x:α}(hx:lt d[h]! x=true)(hh:h<b)(t:Nat)(h1:m<=t)(h2:t<=h):lt d[t]! x=true:=by
 cases e:lt d[t]! x with
 |true=>rfl
 |false=>have:=hS.ntrans _ _ _ (ez hS hs h1 h2 hh) e;rw[hx]at this;cases this
def LL(hS:SWO lt){d:Array α}{m:Nat}(hs:SortedIn lt m b d){x:α}(hx:lt d[h]! x=false)(hm:m<=h)(t:Nat)(h1:h<=t)(h2:t<b):lt d[t]! x=false:=hS.ntrans _ _ _ (ez hS hs hm h1 h2) hx
def LM(hS:SWO lt){d:Array α}{a m:Nat}(hs:SortedIn lt a m d){x:α}(hx:lt x d[h]! =false)(hh:h<m)(t:Nat)(h1:a<=t)(h2:t<=h):lt x d[t]! =false:=hS.ntrans _ _ _ hx (ez hS hs h1 h2 hh)
def IU(hS:SWO lt){d:Array α}{a m:Nat}(hs:SortedIn lt a m d){x:α}(hx:lt x d[h]! =true)(hm:a<=h)(t:Nat)(h1:h<=t)(h2:t<m):lt x d[t]! =true:=by
 cases e:lt x d[t]! with
 |true=>rfl
 |false=>have:=hS.ntrans _ _ _ e (ez hS hs hm h1 h2);rw[hx]at this;cases this
def nL{j:Nat}(h:i<j):∃k:Nat,((i:Int)+(j:Int))/2=(k:Int)/\k=(i+j)/2/\i<=k/\k<j:=⟨(i+j)/2,zO,rfl,zO,zO⟩
end
end
section
open Go.Shelf Go.Sort Go.Lib
set_option maxRecDepth 1000000
set_option maxHeartbeats 8000000
abbrev pB(k g:Nat)(cb:Array Value)(B0 off N0:Nat)(w0:World):Prop:=CmpLays prog g cb Et.cells k bY B0 off N0 w0
def ku(k:Nat)(w0:World)(B0 off a b:Nat)(d:Array Et)(e:Ending)(w':World):Prop:=e=.returned (.tuple #[])/\∃d',SE k w0 B0 off d' w'/\PermIn a b d d'/\SortedIn (ltOf bY) a b d'
def EY(zE:∀w,(Go.sizeOf 224).run prog w=.ok k w)(w0:World)(B0 off cap g:Nat)(cb:Array Value)(N0:Nat)(d0 d:Array Et)(R:no k w0 B0 off d0)(hs:d0.size=N0)(hsd:d.size=N0)(hsz:N0<1000000)(eg:∀args w,(callFunc g args).run prog w=.ok (.enter g args) w)(hcmp:pB k g cb B0 off N0 w0)(a m b:Nat)(w:World)(S:SE k w0 B0 off d w)(hm:m=a+1)(hmb:m<=b)(hb:b<=N0)(hr:SortedIn (ltOf bY) m b d):
  C 334 #[V B0 off N0 cap,I a,I m,I b,.func (.func g) #[] cb] w λe w'=>ku k w0 B0 off a b d e w':=by
 have S0:=S;have HC:Aside _:=hcmp;have X:Aside _:=hr;have HM:=Z1 hm;have a9:(m:Int)-(a:Int)=1:=zO;have ba:a<m:=zO;have al:prog.follows Departure.mixedOrders=true:=zR;have aE:∀w,(isAgg 224).run prog w=.ok true w:=λw=>zR;clear S hcmp hr hm
 go_in
 go_wp2;go_loopg [10,11] (b-m) (λkx s1 s2 wr=>∃(i j:Nat),s1=I i/\s2=I j/\m<=i/\i<=j/\j<=b/\j-i<=kx/\Aside (SWK Et.cells k w0 B0 off d wr)/\Hid ((∀t,m<=t->t<i->ltOf bY d[t]! d[a]! =true)/\∀t,j<=t->t<b->ltOf bY d[t]! d[a]! =false))
 case atStart=>exact⟨m,b,rfl,rfl,OA _,hmb,OA _,OA _,S0,⟨λt q r=>zO,λt q r=>zO⟩⟩
 case round=>
  clear S0;obtain⟨i,j,rfl,rfl,af,bb,ag,bc,c,P⟩:=hrel;by_cases ah:i<j
  ·have H:(i:Int)<(j:Int):=zO;obtain⟨h,bd,T,be,bf⟩:=nL ah;have HH:=Z1 T;clear T;have ap:((h:Int):Int).toNat=h:=zO;have aq:(0:Int)<=(h:Int):=zO;have ar:(h:Int)<(N0:Int):=zO;have au:IntKind.i64.wrap ((h:Int))=(h:Int):=by rw[OX];omega
   have av:((a:Int):Int).toNat=a:=zO;have aw:(0:Int)<=(a:Int):=zO;have ax:(a:Int)<(N0:Int):=zO;have ay:IntKind.i64.wrap ((a:Int))=(a:Int):=by rw[OX];omega
   obtain⟨D,u⟩:∃x,x=d[h]!:=⟨_,rfl⟩;obtain⟨F,v⟩:∃x,x=d[a]!:=⟨_,rfl⟩;have y:=c.o.ld R zO prog (h) zO;have z:=c.o.ld R zO prog (a) zO;rw[<-u]at y;rw[<-v]at z;have l:=c.o.cmp HC.o zO D F;have G:ltOf bY D F=decide (bY D F<0):=rfl;have p:=Z3 u v G;clear u v G;generalize bY D F=cv at l p;by_cases hv:cv<0
   ·have A:=decide_eq_true hv;go_wp2_with fail
    go_quiet_grown (first|(go_at_fn g;refine Calls.grown_of (l _ _)))
    have n:=c.o.grown nq osq;clear y z l c;generalize grow (wr.drewN nq) osq=w2 at n ⊢;clear nq osq;go_wp2
    go_roundg (j-(h+1))
    case measure=>omega
    case rel=>exact⟨h+1,j,by go_num,rfl,zO,zO,ag,OA _,n,⟨λt q r=>Nk (h:=h) gJ X.o (by rw[<-p.o.1,<-p.o.2.1,p.o.2.2];exact A) zO t q zO,P.o.2⟩⟩
   ·have A:=decide_eq_false hv;go_wp2_with fail
    go_quiet_grown (first|(go_at_fn g;refine Calls.grown_of (l _ _)))
    have n:=c.o.grown nq osq;clear y z l c;generalize grow (wr.drewN nq) osq=w2 at n ⊢;clear nq osq;go_wp2
    go_roundg (h-i)
    case measure=>omega
    case rel=>exact⟨i,h,rfl,rfl,af,zO,zO,OA _,n,⟨P.o.1,λt q r=>LL gJ X.o (by rw[<-p.o.1,<-p.o.2.1,p.o.2.2];exact A) zO t q r⟩⟩
  ·obtain rfl:i=j:=zO;go_wp2;go_loopg [13] (i-1-a) (λkx s wr=>∃(x:Nat) (f:Array Et),s=I x/\a<=x/\x<=i-1/\i-1-x<=kx/\f.size=N0/\Aside (SWK Et.cells k w0 B0 off f wr)/\Hid ((∀t,f[t]! =upF (λt=>d[t]!) a x t)/\PermIn a b d f))
   case atStart=>exact⟨a,d,rfl,OA _,zO,OA _,hsd,c,⟨λt=>(LH _ _ _).symm,permIn_refl _ _ _⟩⟩
   case round=>
    clear c;obtain⟨x,f,rfl,aj,bg,az,ak,c,Q⟩:=hrel;by_cases a0:x<i-1
    ·have H:(x:Int)<(i:Int)-1:=zO;go_wp2_with fail;have a1:((x:Int):Int).toNat=x:=zO;have a2:(0:Int)<=(x:Int):=zO;have a3:(x:Int)<(N0:Int):=zO;have a4:IntKind.i64.wrap ((x:Int))=(x:Int):=by rw[OX];omega
     have a5:((x:Int)+1:Int).toNat=x+1:=zO;have a6:(0:Int)<=(x:Int)+1:=zO;have a7:(x:Int)+1<(N0:Int):=zO;have a8:IntKind.i64.wrap ((x:Int)+1)=(x:Int)+1:=by rw[OX];omega
     have n:=c.o.swapped R (x) (x+1) zO zO;have L:=c.o.ld1 R zO prog (x) zO;have N:=c.o.ld1 R zO prog (x+1) zO;have O:=c.o.st1 R zO prog (x) zO f[x+1]!;have B:=c.o.st2 R zO prog (x) (x+1) zO zO f[x+1]! f[x]!;have ab:(Et.cells f[x]!).length=k:=R.hk _;have ac:(Et.cells f[x+1]!).length=k:=R.hk _;generalize Et.cells f[x]! =cI44 at n L B ab;generalize Et.cells f[x+1]! =cJ44 at n N O B ac;clear c;go_wp2_with fail
     go_big_region_o
     clear L N O B;generalize (wr.drew.setCells B0 (off+(x)*k) cJ44).setCells B0 (off+(x+1)*k) cI44=w2 at n ⊢;go_wp2
     go_roundg (i-1-(x+1))
     case measure=>omega
     case rel=>exact⟨x+1,swp f x (x+1),by go_num,zO,zO,OA _,by rw[size_swp];exact ak,n,⟨LI aj zO Q.o.1,permIn_trans _ _ _ _ _ Q.o.2 (swp_permIn _ _ _ _ _ zO zO zO zO zO)⟩⟩
    ·have H:¬(x:Int)<(i:Int)-1:=zO;have U:x=i-1:=zO;have p:=Z1 U;clear U;go_wp2;refine OH (Pb rfl _ _ _) rfl ?_;refine⟨rfl,f,c.o,Q.o.2,ES gJ (d:=d) (i:=i-1) zO zO (by rw[<-HM.o];exact X.o) (by rw[<-p.o];exact Q.o.1) (λt q r=>P.o.1 t (by have:=HM.o;omega) zO) λt q r=>P.o.2 t zO r⟩
def IV(zE:∀w,(Go.sizeOf 224).run prog w=.ok k w)(w0:World)(B0 off cap g:Nat)(cb:Array Value)(N0:Nat)(d0 d:Array Et)(R:no k w0 B0 off d0)(hs:d0.size=N0)(hsd:d.size=N0)(hsz:N0<1000000)(eg:∀args w,(callFunc g args).run prog w=.ok (.enter g args) w)(hcmp:pB k g cb B0 off N0 w0)(a m b:Nat)(w:World)(S:SE k w0 B0 off d w)(hm:b=m+1)(ham:a<m)(hne:m≠a+1)(hb:b<=N0)(hl:SortedIn (ltOf bY) a m d):
  C 334 #[V B0 off N0 cap,I a,I m,I b,.func (.func g) #[] cb] w λe w'=>ku k w0 B0 off a b d e w':=by
 have S0:=S;have HC:Aside _:=hcmp;have HL:Aside _:=hl;have HM:=Z1 hm;have bc:(b:Int)-(m:Int)=1:=zO;obtain⟨am,bd⟩:∃x:Int,(m:Int)-(a:Int)=x:=⟨_,rfl⟩;have be:(am==1)=false:=zT;have bf:0<=am/\am<=1000000:=zO;have bg:m<b:=zO;have an:prog.follows Departure.mixedOrders=true:=zR;have aE:∀w,(isAgg 224).run prog w=.ok true w:=λw=>zR;clear S hcmp hl hm hne
 go_in
 go_wp2;go_loopg [14,15] (m-a) (λkx s1 s2 wr=>∃(i j:Nat),s1=I i/\s2=I j/\a<=i/\i<=j/\j<=m/\j-i<=kx/\Aside (SWK Et.cells k w0 B0 off d wr)/\Hid ((∀t,a<=t->t<i->ltOf bY d[m]! d[t]! =false)/\∀t,j<=t->t<m->ltOf bY d[m]! d[t]! =true))
 case atStart=>exact⟨a,m,rfl,rfl,OA _,zO,OA _,OA _,S0,⟨λt p q=>zO,λt p q=>zO⟩⟩
 case round=>
  clear S0;obtain⟨i,j,rfl,rfl,U,bh,L,bi,c,Q⟩:=hrel;by_cases ah:i<j
  ·have ad:(i:Int)<(j:Int):=zO;obtain⟨h,bj,X,bk,bl⟩:=nL ah;have HH:=Z1 X;clear X;have au:((m:Int):Int).toNat=m:=zO;have av:(0:Int)<=(m:Int):=zO;have aw:(m:Int)<(N0:Int):=zO;have ax:IntKind.i64.wrap ((m:Int))=(m:Int):=by rw[OX];omega
   have ay:((h:Int):Int).toNat=h:=zO;have az:(0:Int)<=(h:Int):=zO;have a0:(h:Int)<(N0:Int):=zO;have a1:IntKind.i64.wrap ((h:Int))=(h:Int):=by rw[OX];omega
   obtain⟨F,r⟩:∃x,x=d[m]!:=⟨_,rfl⟩;obtain⟨G,u⟩:∃x,x=d[h]!:=⟨_,rfl⟩;have v:=c.o.ld R zO prog (m) zO;have z:=c.o.ld R zO prog (h) zO;rw[<-r]at v;rw[<-u]at z;have l:=c.o.cmp HC.o zO F G;have H:ltOf bY F G=decide (bY F G<0):=rfl;have A:=Z3 r u H;clear r u H;generalize bY F G=cv at l A;by_cases hv:cv<0
   ·have B:=decide_eq_true hv;go_wp2_with fail
    go_quiet_grown (first|(go_at_fn g;refine Calls.grown_of (l _ _)))
    have n:=c.o.grown nq osq;clear v z l c;generalize grow (wr.drewN nq) osq=w2 at n ⊢;clear nq osq;go_wp2
    go_roundg (h-i)
    case measure=>omega
    case rel=>exact⟨i,h,rfl,rfl,U,zO,zO,OA _,n,⟨Q.o.1,λt p q=>IU gJ HL.o (by rw[<-A.o.1,<-A.o.2.1,A.o.2.2];exact B) zO t p q⟩⟩
   ·have B:=decide_eq_false hv;go_wp2_with fail
    go_quiet_grown (first|(go_at_fn g;refine Calls.grown_of (l _ _)))
    have n:=c.o.grown nq osq;clear v z l c;generalize grow (wr.drewN nq) osq=w2 at n ⊢;clear nq osq;go_wp2
    go_roundg (j-(h+1))
    case measure=>omega
    case rel=>exact⟨h+1,j,by go_num,rfl,zO,zO,L,OA _,n,⟨λt p q=>LM (h:=h) gJ HL.o (by rw[<-A.o.1,<-A.o.2.1,A.o.2.2];exact B) zO t p zO,Q.o.2⟩⟩
  ·obtain rfl:i=j:=zO;go_wp2;go_loopg [17] (m-i) (λkx s wr=>∃(x:Nat) (f:Array Et),s=I x/\i<=x/\x<=m/\x-i<=kx/\f.size=N0/\Aside (SWK Et.cells k w0 B0 off f wr)/\Hid ((∀t,f[t]! =mR (λt=>d[t]!) x m t)/\PermIn a b d f))
   case atStart=>exact⟨m,d,rfl,L,OA _,OA _,hsd,c,⟨λt=>(EP _ _ _).symm,permIn_refl _ _ _⟩⟩
   case round=>
    clear c;obtain⟨x,f,rfl,bm,aj,a2,ak,c,T⟩:=hrel;by_cases a3:i<x
    ·have ad:(i:Int)<(x:Int):=zO;obtain⟨y,rfl⟩:∃y,x=y+1:=⟨x-1,zO⟩;go_wp2_with fail;have a4:((y:Int)+1:Int).toNat=y+1:=zO;have a5:(0:Int)<=(y:Int)+1:=zO;have a6:(y:Int)+1<(N0:Int):=zO;have a7:IntKind.i64.wrap ((y:Int)+1)=(y:Int)+1:=by rw[OX];omega
     have a8:((y:Int):Int).toNat=y:=zO;have a9:(0:Int)<=(y:Int):=zO;have ba:(y:Int)<(N0:Int):=zO;have bb:IntKind.i64.wrap ((y:Int))=(y:Int):=by rw[OX];omega
     have n:=c.o.swapped R (y+1) (y) zO zO;have N:=c.o.ld1 R zO prog (y+1) zO;have O:=c.o.ld1 R zO prog (y) zO;have P:=c.o.st1 R zO prog (y+1) zO f[y]!;have D:=c.o.st2 R zO prog (y+1) (y) zO zO f[y]! f[y+1]!;have ae:(Et.cells f[y+1]!).length=k:=R.hk _;have af:(Et.cells f[y]!).length=k:=R.hk _;generalize Et.cells f[y+1]! =cI44 at n N D ae;generalize Et.cells f[y]! =cJ44 at n O P D af;clear c;go_wp2_with fail
     go_big_region_o
     clear N O P D;generalize (wr.drew.setCells B0 (off+(y+1)*k) cJ44).setCells B0 (off+(y)*k) cI44=w2 at n ⊢;go_wp2
     go_roundg (y-i)
     case measure=>omega
     case rel=>exact⟨y,swp f (y+1) y,by go_num,zO,zO,OA _,by rw[size_swp];exact ak,n,⟨ER aj zO T.o.1,permIn_trans _ _ _ _ _ T.o.2 (swp_permIn _ _ _ _ _ zO zO zO zO zO)⟩⟩
    ·obtain rfl:x=i:=zO;go_wp2;refine OH (Pb rfl _ _ _) rfl ?_;refine⟨rfl,f,c.o,T.o.2,?_⟩;have al:=HM.o;rw[al];exact Ai gJ (d:=d) (i:=x) U L HL.o T.o.1 (λt p q=>Q.o.1 t p q) λt p q=>Q.o.2 t p q
end
end Go.Fw
namespace Go.Proofs
open Go.Shelf Go.Fw
def O5:Go.Shelf.Ren:=⟨λ|20=>333|n=>n,λ|24=>224|22=>170|3=>3|25=>423|4=>4|0=>0|n=>n,λ|n=>n⟩
def lsi:Go.Proofs.SlLaysF0.n20 prog O5:={
 mixed:=by kernel_rfl
 f20:=⟨f333.name,by decide,func333.trans (congrArg some (by kernel_rfl))⟩
 t0:=underlying0
 a0:=isAgg0
 z0:=sizeOf0
 v0:=zeroValue0
 t3:=underlying3
 a3:=isAgg3
 z3:=sizeOf3
 v3:=zeroValue3
 t4:=underlying4
 a4:=isAgg4
 z4:=sizeOf4
 v4:=zeroValue4
 t22:=underlying170
 a22:=isAgg170
 z22:=sizeOf170
 v22:=zeroValue170
 t25:=underlying423
 a25:=isAgg423
 z25:=sizeOf423
 v25:=zeroValue423}
end Go.Proofs
namespace Go.Fw
open Go.RowKit open Go.Proofs hiding intOf
variable {g B p mb i p' b h d:Nat}{cs:Array Value}{v:Value}{xs:List Value}{L l ks:List K2}{C7 t:Int}{w1 w2:World}{fz:Bool}{F S:Nat->Prop}{x' x:Ld}{ops:Array Oper}{rest:List Oper}{a:Act}{Q:Exit->Act->World->Prop}(w w':World)(gf:Nat)(lb:Array Value)(u q n k:Nat)(c:Cg)(W:World)(Sp:List K2->Prop)(N:Nat)(Kp:World->World->Prop)
section
open Go.Shelf Go.Sort Go.Lib
set_option maxRecDepth 1000000
set_option maxHeartbeats 8000000
def IW(zE:∀w,(Go.sizeOf 224).run prog w=.ok k w)(w0:World)(B0 off cap g:Nat)(cb:Array Value)(N0:Nat)(d0 d:Array Et)(R:no k w0 B0 off d0)(hs:d0.size=N0)(hsd:d.size=N0)(hsz:N0<1000000)(eg:∀args w,(callFunc g args).run prog w=.ok (.enter g args) w)(hcmp:pB k g cb B0 off N0 w0)(a b:Nat)(w:World)(S:SE k w0 B0 off d w)(hab:a<=b)(hb:b<=N0):
  C 333 #[V B0 off N0 cap,I a,I b,.func (.func g) #[] cb] w λe w'=>e=.returned (.tuple #[])/\∃d',SE k w0 B0 off d' w'/\PermIn a b d d'/\SortedIn (ltOf bY) a b d':=by
 subst hs;have c:=insertionSort_holds (lt:=ltOf bY) gJ d a b hab zO;have h:=AnyQ.insertionSortCmpFunc_w lsi k (λw=>zR) zE Et.cells bY g cb B0 off cap a b d0 d w0 w eg hcmp R hsd.symm S gJ hab zO zO;rw[hsd]at h;refine zm h λw' f=>?_;exact⟨rfl,_,f,c.1,c.2⟩
end
section
open Go.Maps Go.Sort Go.Shelf
set_option maxRecDepth 100000
def Ak(Bm b tb:Nat)(zs:List (K2×Value))(w:World)(hn:zs.length<=100000)(hm:Blk w Bm tb #[.map (some b)])(hown:iq w b zs):
  C 315 #[.func (.func 324) #[] #[Z Bm 0],.func (.func 124) #[] #[]] w λe w'=>∃v ys,e=.returned v/\ys.Perm (zs.map (·.1))/\aL 2 w w' 58 v ys.length (cG (qk ys)):=by
 have p:=Z1 (xf Bm b tb zs w hn hm hown);clear hm hown
 go_in
 go_wp2_with fail;refine p.o.mono ?_;rintro e q ⟨v,ys,rfl,f,a⟩;have j:=f.length_eq;rw[Pe]at j
 cases ys with
 |nil=>
  obtain⟨A,c,rfl,_,_,_⟩:=a.form;have d:=Z2 f a;clear f a j;simp only[OE]at*;go_wp2_with fail;refine zl (CC A c _ _) ?_;go_wp2;go_ret;exact⟨_,[],rfl,d.o.1,by simpa[qk]using d.o.2⟩
 |cons y r=>
  obtain⟨g,c,rfl,_,_⟩:=a.own.form (RC _);have s:=Z1 (EX w.heap.size g c (y::r) q a.own (RC _) zO);have d:=Z2 f a;clear f a j;generalize h:(y::r).length=n at*;have t:=Z1 h;clear h;go_wp2_with fail;refine s.o.mono ?_;rintro e x ⟨rfl,l,hK⟩;have m:=Z2 l hK;clear l hK;go_wp2;go_ret;refine⟨_,y::r,rfl,d.o.1,?_⟩;rw[t.o];have i:=d.o.2.below;have u:=(d.o.2.own.lt g rfl).1;exact⟨m.o.1,i.trans (m.o.2.below (B:=w.heap.size) i.size λk e=>zO)⟩
end
def Two(v u:Nat)(k0 k1 x1 x2 x3 x4 x5:Int)(W:World):Prop:=Blk W v 58 #[E k0,E k1]/\Blk W u 62 #[I x1,I x2,I x3,I x4,I x5]
def CE(hc:c.ok)(T:Nat->Tg)(i p mb:Nat)(C7:Int)(zs:List (K2×Nd))(h:cL w c T i p mb C7 zs)(hf:∀z∈zs,z.2.x.C6 c)(hn:zs.length<=99999)(k:K2)(hk:k.ok)(a:Adv)(z:Nd)(hg:ap zs k=some z):
  C 353 #[Z p 0,k.val,a.val] w λe w'=>e=.returned (I 0)/\nJ w w' c T i p mb zs k (jI c z.x a):=by
 have ai:c.sa<=500:=by
  unfold Cg.ok cA at hc;simp only[OY,decide_eq_true_eq]at hc;omega
 have aj:z.x.D2.length<=c.sa:=(hf _ (bR hg)).E5;have L:=zh w (.cells #[E k.hi,E k.lo] 58);have N:=Blk.A8 w 58 #[E k.hi,E k.lo] rfl;have O:bC w c z.p z.x z.fz (λb=>T b=z.tag k/\b<w.heap.size):=(h.nodes _ (bR hg)).more (G:=λb=>T b=z.tag k/\b<w.heap.size) λb B e=>⟨e,B⟩;obtain⟨f,j,l,m,n⟩:=a;have d:=ae L (.cells #[I f,I j,I l,I m,I n] 62);have hx:=N.alloc (.cells #[I f,I j,I l,I m,I n] 62);have hy:=Blk.A8 (w.alloc (.cells #[E k.hi,E k.lo] 58)) 62 #[I f,I j,I l,I m,I n] (g:=w.heap.size+1) zS;have hS:=Z1 (rE _ c p mb C7 zs (h.at_.up d) k hk);rw[ji,hg]at hS;obtain⟨d0,d1⟩:=ao hx;have HP:=Z1 (λW (hW:bC W c z.p z.x z.fz λb=>T b=z.tag k/\b<w.heap.size)=>EA W c z.p z.x z.fz _ hW zO ⟨f,j,l,m,n⟩);obtain⟨r,s⟩:=k;have HB:=Z2 d (show Two w.heap.size (w.heap.size+1) r s f j l m n _ from⟨hx,hy⟩);have H:=Z4 h O hn hk;unfold K2.val K2.arr at*;unfold Adv.val at*;simp only[PT,Qd]at*;clear h L d N hx hy hg hk aj ai O hn hc hf
 go_in
 go_wp2_with fail;refine zm hS.o λD u=>?_;have A:Two w.heap.size (w.heap.size+1) r s f j l m n D.drew:=⟨(HB.o.2.1.later u).drew,(HB.o.2.2.later u).drew⟩;have P:=af HB.o.1 u;have Q:=A.1.lt;have R:=A.2.lt;have HE:=Z3 P Q R;clear u P d0 d1 Q R;generalize U:w.heap.size=q at*;have X:=Z1 U;clear U;go_wp2;refine zH (S:=λV=>Two q (q+1) r s f j l m n V) A ?_;refine zQ 1 _ ?_ (hy:=λW hW=>by obtain⟨q0,q1⟩:=ao hW.1;exact zf);refine zq 3 _ ?_ (hy:=λW hW=>by obtain⟨q0,q1,q2,q3,q4⟩:=eO hW.2;exact zf);refine zo 4 λK hK=>?_;go_simp;have d:=HE.o.1;try rw[<-X.o]at d
 refine zX (HP.o D.drew (H.o.2.1.up d.drew)) λp' w2 t=>?_;have hm:=qi H.o.1 d.drew (F:=λb=>T b=z.tag ⟨r,s⟩/\b<q) (λe b B=>.inl (by
  have h0:=B.1;unfold Nd.tag at h0
  rwa [Oz (by rw[e];exact Rm)]at h0)) t
 have v:Two q (q+1) r s f j l m n w2:=by
  obtain⟨G,g1,g2,g3,g4⟩:=t;have l1:=HE.o.2.1;have l2:=HE.o.2.2;have hs:D.drew.heap.size=D.heap.size:=rfl;have hg:∀b,b=q\/b=q+1->¬G b:=λb B e=>by
   cases hz:z.fz with
   |false=>
    rcases(g1 hz).2 _ e with e|e
    ·have:=e.2;omega
    ·omega
   |true=>have:=g2 hz _ e;omega
  exact⟨g4.B0 A.1 (hg _ (.inl rfl)),g4.B0 A.2 (hg _ (.inr rfl))⟩
 refine zJ hK v ?_;refine zo 5 λK hK=>?_;go_simp;refine(mQ w2 c p mb C7 zs hm.1 ⟨r,s⟩ H.o.2.2.2 (by have:=H.o.2.2.1;omega) ⟨p',jI c z.x ⟨f,j,l,m,n⟩,false⟩).mono ?_;rintro e w3 ⟨rfl,ah,h4,y⟩;have aa:Two q (q+1) r s f j l m n w3:=by
  have hl:=H.o.1.at_.lt;have hv:=X.o;exact⟨y.B0 v.1 zO,y.B0 v.2 zO⟩
 refine zJ hK aa ?_;have hq:=hm.2 w3 ah h4 y;have HQ:=Z1 hq;clear hq hm h4 y v aa t;go_wp2;go_ret;exact⟨rfl,HQ.o⟩
def tQ(v u:Nat)(k0 k1 q0 q1 q2 q3 q4 q5:Int)(W:World):Prop:=Blk W v 58 #[E k0,E k1]/\Blk W u 51 #[I q0,I q1,I q2,I q3,I q4,I q5]
def dh.fresh{w:World}{c:Cg}(h:dh w1 w2 c p false (λb=>B<=b) p' x)(hB:B<=w1.heap.size):Below B w1 w2:=by
 obtain⟨G,a,f,g,d⟩:=h;exact d.below hB λb e=>by rcases(a rfl).2 b e with e|e<;>omega
def IY(hc:c.ok)(T:Nat->Tg)(i p mb:Nat)(C7:Int)(zs:List (K2×Nd))(h:cL w c T i p mb C7 zs)(hf:∀z∈zs,z.2.x.C6 c)(hn:zs.length<=99999)(k:K2)(hk:k.ok)(q:Pl)(hq:q.right=true):
  C 292 #[Z p 0,k.val,q.val] w λe w'=>
   (kO c zs k/\e=.returned (I 6)/\M w w')\/(¬kO c zs k/\e=.returned (I 0)/\nJ w w' c T i p mb zs k (mh (iU zs k) q)):=by
 have ah:c.sa<=500:=by
  unfold Cg.ok cA at hc;simp only[OY,decide_eq_true_eq]at hc;omega
 have ai:=zh w (.cells #[E k.hi,E k.lo] 58);have aj:=Blk.A8 w 58 #[E k.hi,E k.lo] rfl;have HS:=Z1 (λW c p x fz F hN hx=>Iy W c p x fz F hN hx q hq);have HN:=Z1 (λW=>wS ⟨1,1,1,1⟩ (by unfold Cg.ok;decide) W);obtain⟨d,f⟩:=k;obtain⟨m,n,r,s,t,u⟩:=q;have v:=ae ai (.cells #[I m,I n,I r,I s,I t,I u] 51);have hx:=aj.alloc (.cells #[I m,I n,I r,I s,I t,I u] 51);have hy:=Blk.A8 (w.alloc (.cells #[E d,E f] 58)) 51 #[I m,I n,I r,I s,I t,I u] (g:=w.heap.size+1) zS;have HB:=Z2 v (show tQ w.heap.size (w.heap.size+1) d f m n r s t u _ from⟨hx,hy⟩);have H:=Z6 h hf hn hk hc ah;unfold K2.val K2.arr Pl.val Pl.arr at*;unfold Cg.val at HN;simp only at*;clear ai v aj hx hy hq h hf hn hk hc ah
 go_in
 go_wp2;generalize B:w.heap.size=j at*;generalize (w.alloc (.cells #[E d,E f] 58)).alloc (.cells #[I m,I n,I r,I s,I t,I u] 51)=V at*;have ak:=Z1 B;clear B;have Q:tQ j (j+1) d f m n r s t u V.drew:=⟨HB.o.2.1.drew,HB.o.2.2.drew⟩;refine zH (S:=λV=>tQ j (j+1) d f m n r s t u V) Q ?_;refine zq 2 _ ?_ (hy:=λW hW=>by obtain⟨e0,e1,e2,e3,e4,e5⟩:=bi hW.2;exact zf);refine zo 1 λK hK=>?_;go_simp;refine(HN.o _).mono ?_;rintro e w1 ⟨pn,rfl,hn,a⟩;have D:tQ j (j+1) d f m n r s t u w1:=⟨Q.1.later a,Q.2.later a⟩;refine zJ hK D ?_;refine zo 3 λK hK=>?_;go_simp;refine zX (HS.o _ _ _ _ _ _ hn (OK _)) λbl w2 L=>?_;have l:=L.fresh (w:=w1) a.size;have N:tQ j (j+1) d f m n r s t u w2:=⟨(l.block _ Q.1.lt).trans D.1,(l.block _ Q.2.lt).trans D.2⟩;refine zJ hK N ?_;have v:=HB.o.1;try rw[<-ak.o]at v
 have U:=af v.drew ⟨l.os.trans a.os,l.tape.trans a.tape,l.output.trans a.output,OJ a.size l.size,λb hb=>(l.block b hb).trans (a.block b hb)⟩;have h2:=H.o.1.at_.up U;have HM:=Z1 (mP _ c p mb C7 zs h2);have HO:=Z1 (uI _ c H.o.2.2.2.2.1 p mb C7 zs h2 ⟨d,f⟩ H.o.2.2.2.1);unfold K2.val K2.arr at HO;simp only at HO;obtain⟨d0,d1⟩:=ao N.1;have X:=Z2 N U;clear v a l U Q D N hn h2 L;go_wp2_with fail;refine zY HM.o ?_;go_wp2_with fail;refine HO.o.mono ?_;rintro e w3 R
 rcases sD H.o.1 X.o.2 R with⟨h1,rfl,a⟩|⟨p0,fz,F,rfl,h1,O,hF,a⟩
 ·have y:=Z2 h1 a;clear R h1 a;go_wp2;go_ret;exact .inl ⟨y.o.1,rfl,y.o.2⟩
 ·have hf:=uJ H.o.2.1 ⟨d,f⟩;have HP:=Z1 (HS.o w3 c p0 _ fz F O (by have:=H.o.2.2.2.2.2;omega));have P:tQ j (j+1) d f m n r s t u w3:=⟨X.o.1.1.later R.1,X.o.1.2.later R.1⟩;have y:=Z5 h1 hF a R.1.size P;obtain⟨e0,e1⟩:=ao P.1;obtain⟨f0,f1,f2,f3,f4,f5⟩:=bi P.2;clear R h1 hF a O hf d0 d1 P;go_wp2_with fail;refine zX HP.o λp' w4 A=>?_;have hv:=X.o.1.1.lt;have a3:=OV hv y.o.2.2.2.1;have B:=ak.o;have a4:=X.o.2.size;have hm:=qi H.o.1 y.o.2.2.1 (λe b hb=>(y.o.2.1 e b hb).imp And.left λe=>zO) A;obtain⟨g0,g1⟩:w4.cell? (Y j 0)=some (E d)/\w4.cell? (Y j 1)=some (E f):=by
   obtain⟨G,g1,g2,g3,g4⟩:=A;have hg:¬G j:=λe=>by
    cases fz with
    |false=>
     rcases(g1 rfl).2 _ e with e|e
     ·rcases y.o.2.1 rfl _ e with e|e<;>omega
     ·omega
    |true=>have:=g2 rfl _ e;omega
   exact ao (g4.B0 y.o.2.2.2.2.1 hg)
  have HK:=Z2 (mQ w4 c p mb C7 zs hm.1 ⟨d,f⟩ H.o.2.2.2.1 (by have:=H.o.2.2.1;omega) ⟨p',mh (iU zs ⟨d,f⟩) ⟨m,n,r,s,t,u⟩,false⟩) hm.2;unfold K2.val K2.arr at HK;simp only at HK;clear hv a3 B a4 hm e0 e1 A;go_wp2_with fail;refine HK.o.1.mono ?_;rintro e w5 ⟨rfl,au,h4,al⟩;have HZ:=Z1 (HK.o.2 w5 au h4 al);clear h4 al;go_wp2;go_ret;exact .inr ⟨y.o.1,rfl,HZ.o⟩
def qM(p mb:Nat)(C7:Int)(zs:List (K2×Nd))(h:dm w c p mb C7 zs)(hn:zs.length<=100000):
  C 304 #[Z p 0] w λe w'=>∃v ys,e=.returned v/\ys.Perm (zs.map (·.1))/\aL 2 w w' 58 v ys.length (cG (qk ys)):=by
 have m:w.cell? (Y p 0)=some (.map (some mb)):=h.B0.cell 0;have j:=Z1 (mP w c p mb C7 zs h);have k:=Z1 (ET (some mb));have b:=Blk.A8 w 285 #[.map (some mb)] rfl;have a:=zh w (.cells #[.map (some mb)] 285);have d:=Z2 (Ak w.heap.size mb _ (iT zs) _ (by rw[nm];exact hn) b (aw.up h.map a)) a;clear h b a
 go_in
 go_wp2_with fail;refine zY j.o ?_;go_wp2_with fail;refine(k.o _).mono ?_;rintro e l ⟨rfl,rfl⟩;go_wp2_with fail;refine d.o.1.mono ?_;rintro e l ⟨v,ys,rfl,f,g⟩;have i:=Z2 f g;clear f g;go_wp2;go_ret;refine⟨v,ys,rfl,?_,i.o.2.lower d.o.2⟩;have:=i.o.1;unfold iT at this
 rwa [Px]at this
def Fb(hc:c.ok)(w:World):C 141 #[c.val] w λe w'=>∃p mb,e=.returned (Z p 0)/\dm w' c p mb 0 []/\w.heap.size<=p/\w.heap.size<=mb/\M w w':=by
 have g:=zh w (.cells c.cells.toArray 23);have h:=Blk.A8 w 23 c.cells.toArray rfl;have j:=λW=>gH c.st c.sa c.lo c.hi W;have k:pu c.st c.sa c.lo c.hi=0:=by exact OB hc
 rw[k]at j;have f:=Z3 j g h;obtain⟨v,x,y,z⟩:=c;clear j g h k hc;unfold Cg.val;simp only[Cg.cells]at f
 go_in
 go_wp2_with fail;refine zm (f.o.1 _) λl b=>?_;have d:=f.o.2.2.later b;have i:=af f.o.2.1 b;have m:=Z1 i;have a:=d.alloc (.map #[] 0);have n:=a.cell 0;have q:=a.cell 1;have r:=a.cell 2;have s:=a.cell 3;simp at n q r s;have u:=@run_makeMap prog;clear d a b i;go_wp2;go_ret;have t:=m.o.size;refine⟨_,l.heap.size,rfl,⟨Blk.A8 _ 287 _ zS,aw.up (aw.made l) (ae (Oy _ _) _)⟩,?_,t,ae (ae m.o _) _⟩;omega
def bL{L M:Nat->Prop}{w w1 w2:World}(h:ag L w w1)(k:ag M w1 w2)(hM:∀b,b<w.heap.size->M b->L b):ag L w w2:=
 ⟨k.os.trans h.os,k.tape.trans h.tape,k.output.trans h.output,OJ h.size k.size,λj c a=>(k.block j (OV c h.size) λe=>a (hM j c e)).trans (h.block j c a)⟩
def xj{α:Type}{l:List (K2×α)}(hd:cw l){k:K2}{v:α}(hk:k∈l.map (·.1)):aR l k v=l.map λe=>(e.1,if e.1=k then v else e.2):=by
 induction l with
 |nil=>cases hk
 |cons e r ih=>
  obtain⟨j,y⟩:=e;have a:=QB.1 (show((j,y)::r).map (·.1) |>.Nodup from hd);simp only[aR,Pi];by_cases h:j=k
  ·subst h;simp only[if_true];congr 1;rw[show r=r.map id by simp];simp only[Px];refine PD λe b=>?_;have:¬e.1=j:=λc=>a.1 (c▸Pq (f:=(·.1)) b);simp[this]
  ·simp only[h,if_false];congr 1;refine ih a.2 ?_
   rcases Pj.1 hk with e|e
   ·exact absurd e.symm h
   ·exact e
def jR(t:Int)(S:List K2)(e:K2×Ld):K2×Ld:=(e.1,if e.1∈S then eP t e.2 else e.2)
structure ec(w wr:World)(c:Cg)(T T':Nat->Tg)(i p mb:Nat)(C7:Int)(zs zs':List (K2×Nd))(t:Int)(ks:List K2)(j:Nat)(v:Value):Prop where
 agree:∀b,b<w.heap.size->T' b=T b
 K7:cL wr c T' i p mb C7 zs'
 N7:lds zs'=(lds zs).map (jR t (ks.take j))
 C6:∀z∈zs',z.2.x.C6 c
 B7:ag (λb=>T b=.st i\/∃k∈zs.map (·.1),T b=.nd k) w wr
 row:wr.ownsRow w.heap.size 58 2 v ks.length (cG ks)
 free:∀g,v.ownBlock=some g->T' g=.free
section
variable {w wr W':World} {c:Cg} {T T':Nat→Tg} {i p mb:Nat} {C7:Int} {zs zs':List (K2×Nd)} {t:Int} {ks:List K2} {j:Nat} {v:Value} {k:K2} {z:Nd}
def mq(zs:List (K2×Nd)):(lds zs).map (·.1)=zs.map (·.1):=by unfold lds;rw[Px];rfl
def ec.keys_eq(h:ec w wr c T T' i p mb C7 zs zs' t ks j v):zs'.map (·.1)=zs.map (·.1):=by
 rw[<-mq zs',h.N7,Px,<-mq zs];rfl
def ec.node(h:ec w wr c T T' i p mb C7 zs zs' t ks j v)(hk:k∈zs.map (·.1)):∃z,ap zs' k=some z:=by
 rw[<-h.keys_eq]at hk;exact Rd.1 (gY.2 hk)
def uM(t:Int){ks:List K2}(hnd:ks.Nodup){j:Nat}(hj:j<ks.length)(e:K2×Ld):jR t (ks.take (j+1)) e=(e.1,if e.1=ks[j]then eP t (jR t (ks.take j) e).2 else(jR t (ks.take j) e).2):=by
 have c:=OG hj;have b:ks[j]∉ks.take j:=λh=>by
  have a:=c▸(List.take_sublist (j+1) ks).nodup hnd;have d:=Qa.1 a;exact d.2.2 _ h _ (Py.2 rfl) rfl
 unfold jR;rw[c];simp only[Po,Py];by_cases a:e.1=ks[j]
 ·simp[a,b]
 ·simp[a]
def ec.same(h:ec w wr c T T' i p mb C7 zs zs' t ks j v)(hnd:ks.Nodup)(hj:j<ks.length)(hz:ap zs' ks[j]=some z)(ho:nj z.x t=false)(hb:M wr W'):ec w W' c T T' i p mb C7 zs zs' t ks (j+1) v:=by
 have d:=h.K7.at_.D7;refine⟨h.agree,h.K7.up hb,?_,h.C6,h.B7.trans (ag.B5 hb),(ag.B5 (L:=λ_=>False) hb).C8 h.row λ_ _ e=>e,h.free⟩;have b:=h.C6 _ (bR hz);have f:lds zs'=(lds zs').map λe=>(e.1,if e.1=ks[j]then eP t e.2 else e.2):=by
  refine((List.map_id (lds zs')).symm).trans (PD λe g=>?_);by_cases a:e.1=ks[j]
  ·obtain⟨y,k,rfl⟩:=Pa.1 g;simp only at a;have:=im d (x:=ks[j]) (v:=y.2) (by rw[<-a];exact k);rw[hz]at this;injection this with this;rw[this]at ho b;simp only[id,a,if_true];rw[LF b.sorted ho]
  ·simp[a]
 rw[f,h.N7,Px];refine PD λe _=>?_;rw[uM t hnd hj];rfl
def ec.cut(h:ec w wr c T T' i p mb C7 zs zs' t ks j v)(hnd:ks.Nodup)(hj:j<ks.length)(hin:ks[j]∈zs.map (·.1))(hz:ap zs' ks[j]=some z)(hN:nJ wr W' c T' i p mb zs' ks[j] (rx z.x t)):∃T2 ver2 zs2,ec w W' c T T2 i p mb ver2 zs zs2 t ks (j+1) v:=by
 obtain⟨T2,ver2,D,o,u,q⟩:=hN;have F:=h.B7.size;have m:=h.K7.at_.D7;have n:=h.C6 _ (bR hz);refine⟨T2,ver2,_,λb f=>(o b zO).trans (h.agree b f),u,?_,λy a=>?_,bL h.B7 q λb f e=>?_,?_,λg k=>(o g (h.row.lt g k).2).trans (h.free g k)⟩
 ·rw[tO,xj (by unfold cw;rw[mq];exact m) (by rw[mq,h.keys_eq];exact hin),h.N7,Px];refine PD λe A=>?_;rw[uM t hnd hj];simp only[Function.comp];by_cases d:e.1=ks[j]
  ·have r:jR t (ks.take j) e∈lds zs':=by rw[h.N7];exact Pq A
   obtain⟨y,a,l⟩:=Pa.1 r;have s:y.1=ks[j]:=by rw[<-d];exact congrArg (·.1) l
   have:=im m (x:=ks[j]) (v:=y.2) (by rw[<-s];exact a);rw[hz]at this;injection this with this;have B:(jR t (ks.take j) e).2=z.x:=by rw[<-l,this]
   rw[OB d,OB (show(jR t (ks.take j) e).1=ks[j]from d),B,rF n.sorted];rfl
  ·rw[Oz d,Oz (show ¬(jR t (ks.take j) e).1=ks[j]from d)];rfl
 ·rcases kt m a with rfl|⟨a,_⟩
  ·simp only;rw[rF n.sorted];exact pA n t
  ·exact h.C6 _ a
 ·rcases e with e|e
  ·exact .inl ((h.agree b f)▸e)
  ·exact .inr ⟨_,hin,(h.agree b f)▸e⟩
 ·refine q.C8 h.row λg k e=>?_;rw[h.free g k]at e
  rcases e with e|e<;>cases e
end
section
variable {T:Nat->Tg}{z:Nd}
def Fc{w:World}{n k:Nat}{A:Option Addr}(h:an w B 2 A n (cG l))(hn:n=l.length)(hk:k<l.length):
  ∃b o,A=some (Y b o)/\b<B/\w.cell? (Y b (o+k*2))=some (E l[k].hi)/\w.cell? (Y b (o+k*2+1))=some (E l[k].lo):=by
 obtain⟨b,o,rfl,c,a⟩:=h.elem (f:=K2.cells) (λ_=>rfl) zP hn hk;exact⟨b,o,rfl,c,a 0 _ rfl,a 1 _ rfl⟩
def ou(w w':World)(c:Cg)(T:Nat->Tg)(i p mb:Nat)(zs:List (K2×Nd))(t:Int):Prop:=
 ∃T' ver' zs',(∀b,b<w.heap.size->T' b=T b)/\cL w' c T' i p mb ver' zs'/\lds zs'=(lds zs).map (λe=>(e.1,eP t e.2))/\(∀z∈zs',z.2.x.C6 c)/\ag (λb=>T b=.st i\/∃k∈zs.map (·.1),T b=.nd k) w w'
def cL.L3{w:World}{c:Cg}{zs:List (K2×Nd)}(h:cL w c T i p mb C7 zs){k:K2}(hz:ap zs k=some z):bC w c z.p z.x z.fz (λb=>T b=z.tag k/\b<w.heap.size):=(h.nodes _ (bR hz)).more λb a e=>⟨e,a⟩
def IZ{k:K2}{n:Nat}(e:z.fz=false)(hb:T b=z.tag k/\b<n):T b=.nd k:=(by
 have a:=hb.1;unfold Nd.tag at a
 rwa [Oz (by rw[e];exact Rm)]at a)
def dh.box{w w':World}{c:Cg}(h:dh w w' c p fz F p' x'){v:Nat}{t:TypeId}(hb:Blk w v t cs)(hv:¬F v):Blk w' v t cs:=by
 obtain⟨G,a,b,f,d⟩:=h;have g:=hb.lt;refine d.B0 hb λe=>?_
 cases fz with
 |false=>
       rcases(a rfl).2 _ e with e|e
       ·exact hv e
       ·omega
 |true=>have:=b rfl _ e;omega
def ec.start{w:World}{c:Cg}{zs:List (K2×Nd)}(h:cL w c T i p mb C7 zs)(hf:∀z∈zs,z.2.x.C6 c)(hm:aL 2 w w1 58 v ks.length (cG ks)):ec w w1 c T (ext T w.heap.size .free) i p mb C7 zs zs t ks 0 v:=by
 refine⟨λb a=>br T _ a,(h.tags λb a=>br T _ a).up hm.below,?_,hf,ag.B5 hm.below,hm.own,λg d=>cC T _ (hm.own.lt g d).1⟩;refine((List.map_id (lds zs)).symm).trans (PD λe f=>?_);simp[jR]
def ec.done{w wr:World}{c:Cg}{T':Nat->Tg}{zs zs':List (K2×Nd)}(h:ec w wr c T T' i p mb C7 zs zs' t ks ks.length v)(hk:∀k∈zs.map (·.1),k∈ks):ou w wr c T i p mb zs t:=by
 refine⟨T',C7,zs',h.agree,h.K7,?_,h.C6,h.B7⟩;rw[h.N7];refine PD λe a=>?_;have:e.1∈ks:=hk _ (by rw[<-mq];exact Pq a);simp[jR,this]
def Ja(l:List Smp)(t:Int):placeF l t<=l.length:=by
 unfold placeF;exact(List.takeWhile_sublist _).length_le
def Fd(hsa:c.sa<=500)(T:Nat->Tg)(i p mb:Nat)(C7:Int)(zs:List (K2×Nd))(h:cL w c T i p mb C7 zs)(hf:∀z∈zs,z.2.x.C6 c)(hn:zs.length<=10000)(t:Int):
  C 288 #[Z p 0,I t] w λe w'=>(∃tot,e=.returned (I tot))/\ou w w' c T i p mb zs t:=by
 have HK:=Z1 (qM w c p mb C7 zs h.at_ zO);have H:=Z4 h hf hn hsa;clear h hf hn hsa
 go_in
 go_wp2_with fail;refine HK.o.mono ?_;rintro e w1 ⟨vr,ys,rfl,hp,G⟩;obtain⟨j,Q⟩:∃j,j=qk ys:=⟨_,rfl⟩;have R:j.Perm (zs.map (·.1)):=by rw[Q];exact(Sc _ _).trans hp
 have l:ys.length=j.length:=by rw[Q];exact(Rr _).symm
 have av:=R.nodup_iff.2 H.o.1.at_.D7;rw[<-Q,l]at G;have aw:j.length<=10000:=by rw[R.length_eq,Pe];exact H.o.2.2.1
 have h0:ec w w1 c T _ i p mb C7 zs zs t j 0 vr:=ec.start H.o.1 H.o.2.1 G;obtain⟨A,cc,rfl,b8,_⟩:=ak G.own;obtain⟨n,U⟩:∃n,n=j.length:=⟨_,rfl⟩;rw[<-U]at h0;have bh:=Z1 h0;have s:=Z4 U R av aw;have b9:n<=10000:=zO;rw[<-U];clear h0 G l Q U R av hp aw HK;go_wp2;go_loopw [5,13] (λtv iv wr=>∃(k:Nat) (tot:Int) (L:Nat->Tg) (a:Int) (g:List (K2×Nd)),k<=n/\iv=I k/\tv=I tot/\Hid (ec w wr c T L i p mb a zs g t j k (.slice A n cc))) (λ_ iv _=>n-(intOf iv).toNat)
 case atStart=>exact⟨0,0,_,C7,zs,OK _,rfl,rfl,bh⟩
 case round=>
  obtain⟨k,tot,L,a,g,hk,rfl,rfl,f⟩:=hrel;by_cases ca:k<n
  ·have l:k<j.length:=by have:=s.o.1;omega
   have ae:=f.o.row;rw[<-s.o.1]at ae;have ag:=an.C4 ae;clear ae;obtain⟨b,o,rfl,cb,g0,g1⟩:=Fc ag s.o.1 l;have X:=s.o.2.1.mem_iff.1 (OR l);obtain⟨z,u⟩:=f.o.node X;obtain⟨d,ah⟩:∃d,d=j[k]:=⟨_,rfl⟩;rw[<-ah]at u X g0 g1;have ai:d.ok:=f.o.K7.at_.O2 (d,z) (bR u);have v:=f.o.C6 _ (bR u);have c0:=f.o.K7.at_.B0.cell 0;simp[qg]at c0;have ax:=f.o.K7.at_.lt;have az:∀W,dm W c p mb a g->(Instr.lookup 285 (.map (some mb)) (.agg #[E d.hi,E d.lo]) false).run prog W=.ok (Z z.p 0) W:=λW hW=>by
    have:=hW.map.look (k0:=d.hi) (k1:=d.lo) ai;rw[this,ji,u];rfl
   have y:=zh wr (.cells #[E d.hi,E d.lo] 58);have hx:=Blk.A8 wr 58 #[E d.hi,E d.lo] rfl;have a0:=λW hW=>Iz W c z.p z.x z.fz (λb=>L b=z.tag d/\b<wr.heap.size) hW (by have h1:z.x.D2.length<=c.sa:=v.E5;have:=H.o.2.2.2;omega) t;have aj:=λW hW=>EB W c H.o.2.2.2 z.p z.x z.fz (λb=>L b=z.tag d/\b<wr.heap.size) hW v.sorted v.E5 t;have HT:=Z3 (a0 _ ((f.o.K7.L3 u).up y.drew)) (aj _ ((f.o.K7.L3 u).up y.drew)) az;have hS:=And.intro hx.drew (f.o.K7.at_.up y.drew);have B:=Z6 u X ah ai y.drew hx.lt;have bk:=Z1 v.E5;have bl:Hid (g.length=zs.length):=Z1 (by have:=congrArg List.length f.o.keys_eq;simpa using this);obtain⟨k0,k1⟩:=d;simp only at*;clear ag u ah ai v X a0 aj y hx az;go_wp2;generalize a1:wr.heap.size=v9 at*;generalize bn:wr.alloc (.cells #[E k0,E k1] 58)=V9 at*;have a2:=Z1 a1;clear a1 bn;refine ay (S:=λV=>Blk V v9 58 #[E k0,E k1]/\dm V c p mb a g) zR hS ?_
   cases ho:nj z.x t with
   |false=>
    have HO:=Z1 ho;clear ho;simp only[zD,zE,Nat.reduceAdd,zG];refine zL ?_;refine zq 3 _ ?_ (hy:=λW hW=>by have q0:_=some (Value.map (some mb)):=(hW.2.B0.cell 0);exact zf);refine zq 4 _ ?_ (hy:=λW hW=>by obtain⟨q0,q1⟩:=ao hW.1;exact zf);refine zQ 5 _ ?_ (hy:=λW hW=>by have bo:=HT.o.2.2 _ hW.2;exact zf);refine zo 7 λK hK=>?_;go_simp;refine zm (HT.o.1 HO.o) λw2 aa=>?_;have m:=And.intro (hS.1.later aa) (hS.2.up aa);have bp:=Z1 aa;clear aa;refine zJ hK m ?_;have q:=B.o.2.2.2.2.1;try rw[<-a2.o]at q
    have G:ec w w2 c T L i p mb a zs g t j (k+1) (.slice (some (Y b o)) n cc):=by
     have am:=B.o.2.2.1;have D:=B.o.1;rw[am]at D;exact f.o.same s.o.2.2.1 l D HO.o (af q bp.o)
    have HM:=Z1 G;clear G q hS m;go_wp2;go_roundw
    case rel=>exact⟨k+1,tot,L,a,g,zO,by go_num,rfl,HM⟩
    case measure=>simp[intOf];omega
   |true=>
    have HO:=Z1 ho;clear ho;have bb:=LG HO.o;have ax:=OJ (Ja z.x.D2 t) (by have h1:=bk.o;have h2:=H.o.2.2.2;omega);obtain⟨gn,ap⟩:∃gn,gn=placeF z.x.D2 t:=⟨_,rfl⟩;have a3:=Z1 (HT.o.2.1 HO.o);rw[<-ap]at a3 bb ax;have HG:=Z1 ap;clear ap;simp only[zD,zE,Nat.reduceAdd,zG];refine zL ?_;refine zq 3 _ ?_ (hy:=λW hW=>by have q0:_=some (Value.map (some mb)):=(hW.2.B0.cell 0);exact zf);refine zq 4 _ ?_ (hy:=λW hW=>by obtain⟨q0,q1⟩:=ao hW.1;exact zf);refine zQ 5 _ ?_ (hy:=λW hW=>by have bo:=HT.o.2.2 _ hW.2;exact zf);refine zo 7 λK hK=>?_;go_simp;refine zX a3.o λp' w2 N=>?_;have q:=B.o.2.2.2.2.1;try rw[<-a2.o]at q
    have O:=qi f.o.K7 q (F:=λb=>L b=z.tag ⟨k0,k1⟩/\b<v9) (λe b hb=>.inl (IZ e hb)) N;have m:=And.intro (N.box hS.1 λe=>by have:=e.2;omega) O.1;have bq:=Z1 O;clear O N q;refine zJ hK m ?_;have HK:=Z1 (mQ w2 c p mb a g m.2 ⟨k0,k1⟩ B.o.2.2.2.1 (by have h1:=bl.o;have h2:=H.o.2.2.1;omega) ⟨p',rx z.x t,false⟩);obtain⟨d0,d1⟩:=ao m.1;clear hS m;unfold K2.val K2.arr at HK;simp only at HK;have bu:0<(gn:Int):=zO;go_wp2_with fail;refine HK.o.mono ?_;rintro e w3 ⟨rfl,P,h4,a4⟩;have r:=bq.o.2 w3 P h4 a4;have hcut:∃T2 P aq,ec w w3 c T T2 i p mb P zs aq t j (k+1) (.slice (some (Y b o)) n cc):=by
     have am:=B.o.2.2.1;have D:=B.o.1;have ar:=B.o.2.1;rw[am]at D r ar;exact f.o.cut s.o.2.2.1 l ar D r
    obtain⟨T2,be,aq,hcut⟩:=hcut;have HM:=Z1 hcut;clear hcut h4 a4 r;go_wp2;go_roundw
    case rel=>exact⟨k+1,_,T2,be,aq,zO,by go_num,rfl,HM⟩
    case measure=>simp[intOf];omega
  ·obtain rfl:k=n:=zO;have hd:ou w wr c T i p mb zs t:=by
    have h0:=f.o;have e1:=s.o.1;exact ec.done (e1▸h0) λk hk=>s.o.2.1.mem_iff.2 hk
   have HD:=Z1 hd;clear hd;go_wp2;go_ret;exact⟨⟨_,rfl⟩,HD.o⟩
end
def ents(l:List Et):List Value:=l.flatMap Et.cells
def uN(l:List Et)(a:Et):ents l++a.cells=ents (l++[a]):=by simp[ents]
def Jb(l:List Et):∀u∈ents l,u.oneCell'=true:=by
 intro u b;obtain⟨x,_,a⟩:=QU.1 b;simp[Et.cells]at a
 rcases a with rfl|rfl|rfl<;>rfl
def eZ(S:List K2)(z:K2×Nd):K2×Nd:=(z.1,if z.1∈S then{z.2 with fz:=true} else z.2)
def gr(T:Nat->Tg)(n:Nat)(S:List K2):Nat->Tg:=λb=>if n<=b then .free else match T b with
 | .nd k=>if k∈S then .fz else .nd k
 |t=>t
def mr(T:Nat->Tg){n b:Nat}(S:List K2)(h:n<=b):gr T n S b=.free:=OB h
def eq(T:Nat->Tg){n b:Nat}(S:List K2)(h:b<n)(hk:∀k,T b≠.nd k):gr T n S b=T b:=by
 unfold gr;rw[Oz zO];split
 ·rename_i k e;exact absurd e (hk k)
 ·rfl
def gZ(T:Nat->Tg){n b:Nat}{k:K2}(S:List K2)(h:b<n)(hk:T b=.nd k):gr T n S b=if k∈S then .fz else .nd k:=by
 unfold gr;rw[Oz zO,hk]
def kw{T:Nat->Tg}{n b:Nat}{S:List K2}{g:Tg}(h:gr T n S b=g)(hg:g≠.free):b<n/\((∃k,T b=.nd k/\k∈S/\g=.fz)\/(T b=g/\∀k,g=.nd k->k∉S)):=by
 by_cases c:b<n
 ·refine⟨c,?_⟩
  cases hT:T b with
  |nd k=>
   rw[gZ T S c hT]at h;by_cases a:k∈S
   ·rw[OB a]at h;exact .inl ⟨k,rfl,a,h.symm⟩
   ·rw[Oz a]at h;refine .inr ⟨h,λd e=>?_⟩;rw[<-h]at e;injection e with e;exact e▸a
  |_=>
   rw[eq T S c (by rw[hT];intro k e;cases e),hT]at h;exact .inr ⟨h,λd e=>by rw[e]at h;cases h⟩
 ·rw[mr T S zO]at h;exact absurd h.symm hg
def Nd.O6(z:Nd):Nd:={z with fz:=true}
def nr(zs:List (K2×Nd))(k:K2):Et:=⟨k,((ap zs k).map (·.p)).getD 0⟩
def xm(w:World)(c:Cg)(p:Nat)(x:Ld)(fz:Bool)(F:Nat->Prop)(h:bC w c p x fz F):
  C 318 #[Z p 0] w λe w'=>e=.returned (Z p 0)/\bC w' c p x true F/\ag (λj=>fz=false/\j=p) w w':=by
 have d:=Z1 (fX w F c p x fz h);obtain⟨a,f,g,i,k,l,r,h⟩:=h;have n:=h.F9;have q:=h.B0.frozen 10;have H:=Z1 h;clear h
 go_in
 go_wp2_with fail;refine zY d.o ?_;go_wp2;go_ret;have hK:ag (λj=>j=p) w (w.setCell (Y p 10) (.bool true)):=(ag.refl (λj=>j=p) w).setCell (p:=Y p 10) (.inl rfl) _;have b:=H.o.B0.B4 10 (.bool true);refine⟨rfl,⟨a,f,g,i,k,l,r,H.o.D3 hK b rfl rfl⟩,?_⟩
 cases fz with
 |false=>exact hK.C3 λj e=>⟨rfl,e⟩
 |true=>
  refine⟨hK.os,hK.tape,hK.output,hK.size,λj m _=>?_⟩;by_cases e:j=p
  ·subst e;exact b.trans H.o.B0.symm
  ·exact hK.block j m e
structure jS(w wr:World)(c:Cg)(T:Nat->Tg)(i p mb:Nat)(C7:Int)(zs:List (K2×Nd))(ks:List K2)(j:Nat):Prop where
 K7:cL wr c (gr T w.heap.size (ks.take j)) i p mb C7 (zs.map (eZ (ks.take j)))
 B7:ag (λb=>∃k∈zs.map (·.1),T b=.nd k) w wr
section
variable {w wr W W':World} {c:Cg} {T:Nat→Tg} {i p mb:Nat} {C7:Int} {zs:List (K2×Nd)} {ks:List K2} {j:Nat} {z:Nd}
def jS.start(h:cL w c T i p mb C7 zs)(hb:M w wr):jS w wr c T i p mb C7 zs ks 0:=by
 refine⟨?_,ag.B5 hb⟩;have d:zs.map (eZ (ks.take 0))=zs:=by
  refine Eq.trans (PD λe f=>?_) (List.map_id zs);simp[eZ]
 rw[d];refine(h.tags λb hb=>?_).up hb;by_cases a:∃k,T b=.nd k
 ·obtain⟨k,a⟩:=a;rw[gZ T _ hb a,a];simp
 ·exact eq T _ hb λk e=>a ⟨k,e⟩
def uO(hnd:ks.Nodup)(hj:j<ks.length):ks[j]∉ks.take j:=λh=>by
 have a:=OG hj;have b:=a▸(List.take_sublist (j+1) ks).nodup hnd;have c:=Qa.1 b;exact c.2.2 _ h _ (Py.2 rfl) rfl
def jj(hj:j<ks.length){k:K2}:k∈ks.take (j+1)↔k∈ks.take j\/k=ks[j]:=by
 have a:=OG hj;rw[a,Po,Py]
def jS.node(h:jS w wr c T i p mb C7 zs ks j)(hnd:ks.Nodup)(hj:j<ks.length)(hz:ap zs ks[j]=some z):bC wr c z.p z.x z.fz (λb=>gr T w.heap.size (ks.take j) b=z.tag ks[j]):=by
 have a:=h.K7.nodes _ (Pq (f:=eZ (ks.take j)) (bR hz));unfold eZ at a;rw[Oz (uO hnd hj)]at a;exact a
def jS.next(h:jS w wr c T i p mb C7 zs ks j)(hd:cw zs)(hnd:ks.Nodup)(hj:j<ks.length)(hz:ap zs ks[j]=some z)(hN:bC W' c z.p z.x true λb=>gr T w.heap.size (ks.take j) b=z.tag ks[j])(hK:ag (λb=>z.fz=false/\b=z.p) wr W'):
  jS w W' c T i p mb C7 zs ks (j+1):=by
 have N:=uO hnd hj;have O:=h.node hnd hj hz;have t:z.fz=false->z.p<w.heap.size/\T z.p=.nd ks[j]:=λe=>by
  have P:=O.own;have q:z.tag ks[j]=.nd ks[j]:=by unfold Nd.tag;rw[Oz (by rw[e];exact Rm)]
  rw[q]at P;obtain⟨g,m⟩:=kw P (by intro e;cases e)
  rcases m with⟨k,_,_,a⟩|⟨m,_⟩
  ·cases a
  ·exact⟨g,m⟩
 have F:∀b,b<w.heap.size->(∀k,T b≠.nd k)->¬(z.fz=false/\b=z.p):=λb d l e=>by
  obtain⟨u,rfl⟩:=e;exact l _ (t u).2
 obtain⟨Q,q2⟩:=kw h.K7.tp (by intro e;cases e);obtain⟨R,q4⟩:=kw h.K7.tm (by intro e;cases e);have G:T p=.st i:=by
  rcases q2 with⟨_,_,_,e⟩|⟨e,_⟩
  ·cases e
  ·exact e
 have H:T mb=.st i:=by
  rcases q4 with⟨_,_,_,e⟩|⟨e,_⟩
  ·cases e
  ·exact e
 have S:=F p Q (λk e=>by rw[G]at e;cases e);have U:=F mb R (λk e=>by rw[H]at e;cases e);refine⟨⟨?_,?_,?_,λy hy=>?_⟩,bL h.B7 hK λb d e=>?_⟩
 ·have X:=h.K7.at_.B7 hK S U;have u:iT (zs.map (eZ (ks.take (j+1))))=iT (zs.map (eZ (ks.take j))):=by
   unfold iT;rw[Px,Px];refine PD λe _=>?_;simp only[Function.comp,eZ];congr 2;split<;>split<;>rfl
  exact⟨X.B0,by rw[u];exact X.map⟩
 ·rw[eq T _ Q (λk e=>by rw[G]at e;cases e),G]
 ·rw[eq T _ R (λk e=>by rw[H]at e;cases e),H]
 ·obtain⟨e,he,rfl⟩:=Pa.1 hy;by_cases l:e.1=ks[j]
  ·have ab:e.2=z:=by
    have q:=im hd (x:=ks[j]) (v:=e.2) (by rw[<-l];exact he);rw[hz]at q;injection q with q;exact q.symm
   have L:eZ (ks.take (j+1)) e=(ks[j],z.O6):=by
    unfold eZ;rw[OB ((jj hj).2 (.inr l)),ab,l];rfl
   rw[L];refine hN.more λb d A=>?_;have B:Nd.tag z.O6 ks[j]=.fz:=rfl;show gr T w.heap.size (ks.take (j+1)) b=_;rw[B];have ac:b<w.heap.size/\((∃k,T b=.nd k/\k∈ks.take (j+1))\/T b=.fz):=by
    obtain⟨g,m⟩:=kw A (by unfold Nd.tag;split<;>(intro e;cases e));refine⟨g,?_⟩
    rcases m with⟨k,a,n,_⟩|⟨a,_⟩
    ·exact .inl ⟨k,a,(jj hj).2 (.inl n)⟩
    ·unfold Nd.tag at a;split at a
     ·exact .inr a
     ·exact .inl ⟨_,a,(jj hj).2 (.inr rfl)⟩
   obtain⟨g,⟨k,a,n⟩|a⟩:=ac
   ·rw[gZ T _ g a,OB n]
   ·rw[eq T _ g (by rw[a];intro k e;cases e),a]
  ·have L:eZ (ks.take (j+1)) e=eZ (ks.take j) e:=by
    unfold eZ;congr 1;by_cases r:e.1∈ks.take j
    ·rw[OB ((jj hj).2 (.inl r)),OB r]
    ·rw[Oz (λh=>((jj hj).1 h).elim r l),Oz r]
   rw[L];have hm:=h.K7.nodes _ (Pq (f:=eZ (ks.take j)) he);have ad:∀b,gr T w.heap.size (ks.take j) b=(eZ (ks.take j) e).2.tag (eZ (ks.take j) e).1->¬(z.fz=false/\b=z.p):=λb d A=>by
    obtain⟨B,rfl⟩:=A;have D:=t B;rw[gZ T _ D.1 D.2,Oz N]at d;unfold Nd.tag at d;split at d
    ·cases d
    ·injection d with d;exact l d.symm
   refine(hm.B7 hK ad).more λb d A=>?_;obtain⟨g,m⟩:=kw A (by unfold Nd.tag;split<;>(intro e;cases e))
   rcases m with⟨k,a,n,D⟩|⟨a,n⟩
   ·rw[gZ T _ g a,OB ((jj hj).2 (.inl n)),D]
   ·by_cases s:∃k,T b=.nd k
    ·obtain⟨k,s⟩:=s;have o:=a.symm.trans s;have r:=n k o;have ae:k≠ks[j]:=λB=>by
      unfold Nd.tag at o;split at o
      ·cases o
      ·injection o with o;exact l (o.trans B)
     rw[gZ T _ g s,Oz (λh=>((jj hj).1 h).elim r ae),<-s,a]
    ·rw[eq T _ g (λk e=>s ⟨k,e⟩),a]
 ·obtain⟨u,rfl⟩:=e;exact⟨ks[j],Pq (f:=(·.1)) (bR hz),(t u).2⟩
end
def Bt:cE prog 170 224 (.agg #[E 0,E 0,.pointer none]) 3 24:=⟨underlying170,zR,rfl⟩
def uP{w:World}{B' s s' n n':Nat}{e e':TypeId}{v':Value}{xs':List Value}(h:w.ownsRow B e s v n xs)(h':w.ownsRow B' e' s' v' n' xs')(hne:e≠e'):∀g,v.ownBlock=some g->some g≠v'.ownBlock:=by
 intro g b a
 rcases h'.2 with⟨rfl,_⟩|⟨c,f,i,rfl,_,d,_⟩
 ·cases a
 ·have:g=c:=by simpa[Value.ownBlock]using a
  subst this;exact aB h d hne b
def tR(w wr:World)(c:Cg)(T:Nat->Tg)(i p mb:Nat)(C7:Int)(zs:List (K2×Nd))(ks:List K2)(v vo:Value)(k:Nat):Prop:=
 jS w wr c T i p mb C7 zs ks k/\wr.ownsRow w.heap.size 58 2 v ks.length (cG ks)/\wr.ownsRow w.heap.size 224 3 vo k (ents ((ks.take k).map (nr zs)))
def Am(T:Nat->Tg)(i p mb:Nat)(C7:Int)(zs:List (K2×Nd))(h:cL w c T i p mb C7 zs)(hn:zs.length<=10000):
  C 306 #[Z p 0] w λe w'=>∃ks v,ks.Perm (zs.map (·.1))/\e=.returned v/\jS w w' c T i p mb C7 zs ks ks.length/\w'.ownsRow w.heap.size 224 3 v ks.length (ents (ks.map (nr zs))):=by
 have HK:=Z1 (qM w c p mb C7 zs h.at_ zO);have H:=Z2 h hn;clear h hn
 go_in
 go_wp2_with fail;refine HK.o.mono ?_;rintro e w1 ⟨vr,ys,rfl,hp,hm⟩;obtain⟨ks,U⟩:∃ks,ks=qk ys:=⟨_,rfl⟩;have X:ks.Perm (zs.map (·.1)):=by rw[U];exact(Sc _ _).trans hp
 have q:ys.length=ks.length:=by rw[U];exact(Rr _).symm
 have a6:=X.nodup_iff.2 H.o.1.at_.D7;rw[<-U,q]at hm;have a7:ks.length<=10000:=by rw[X.length_eq,Pe];exact H.o.2
 have F:tR w w1 c T i p mb C7 zs ks vr (.slice none 0 0) 0:=⟨jS.start H.o.1 hm.below,hm.own,Pn _ _ _ _⟩;obtain⟨A,cc,rfl,cl,_⟩:=ak hm.own;obtain⟨n,aa⟩:∃n,n=ks.length:=⟨_,rfl⟩;have cm:n<=10000:=zO;rw[<-aa]at F;have bv:=Z1 F;have G:=Z4 aa X a6 a7;rw[<-aa];clear F hm q U aa X a6 hp a7 HK;go_wp2;go_loopw [3,9] (λov iv wr=>∃(k:Nat),k<=n/\iv=I k/\Hid (tR w wr c T i p mb C7 zs ks (.slice A n cc) ov k)) (λ_ iv _=>n-(intOf iv).toNat)
 case atStart=>exact⟨0,OK _,rfl,bv⟩
 case round=>
  obtain⟨k,hk,rfl,f⟩:=hrel;by_cases cn:k<n
  ·have q:k<ks.length:=by have:=G.o.1;omega
   have aj:=f.o.2.1;rw[<-G.o.1]at aj;have al:=an.C4 aj;clear aj;obtain⟨b,o,rfl,cp,g0,g1⟩:=Fc al G.o.1 q;have ab:=G.o.2.1.mem_iff.1 (OR q);obtain⟨z,t⟩:=Rd.1 (gY.2 ab);obtain⟨a,r⟩:∃a,a=ks[k]:=⟨_,rfl⟩;rw[<-r]at t ab g0 g1;have am:a.ok:=H.o.1.at_.O2 (a,z) (bR t);have l:=f.o.1.node G.o.2.2.1 q (by rw[<-r];exact t);rw[<-r]at l;have a8:∀W,dm W c p mb C7 (zs.map (eZ (ks.take k)))->(Instr.lookup 285 (.map (some mb)) (.agg #[E a.hi,E a.lo]) false).run prog W=.ok (Z z.p 0) W:=λW hW=>by
    have:=hW.map.look (k0:=a.hi) (k1:=a.lo) am;have e:ap (zs.map (eZ (ks.take k))) a=some (eZ (ks.take k) (a,z)).2:=by
     have:=rv zs (λk' z'=>(eZ (ks.take k) (k',z')).2) a;rw[t]at this;exact this
    rw[this,ji,e];have e2:(eZ (ks.take k) (a,z)).2.p=z.p:=by unfold eZ;simp only;split<;>rfl
    simp only[PT,Qd,e2]
   have ac:=zh wr (.cells #[E a.hi,E a.lo] 58);have hx:=Blk.A8 wr 58 #[E a.hi,E a.lo] rfl;have a9:=xm _ c z.p z.x z.fz _ (l.up ac.drew);have HF:=Z2 a9 a8;have N:=Z2 (show Blk (wr.alloc (.cells #[E a.hi,E a.lo] 58)) wr.heap.size 58 #[E a.hi,E a.lo]from hx) (f.o.1.K7.at_.up ac);have s:Et.cells (nr zs a)=[E a.hi,E a.lo,Z z.p 0]:=by
    unfold nr Et.cells;rw[t];rfl
   have HZ:=Z7 t ab r am ac.drew hx.lt s;have ba:z.fz=false->z.p<w.heap.size:=λe=>by
    have m:=l.own;have D:z.tag a=.nd a:=by unfold Nd.tag;rw[Oz (by rw[e];exact Rm)]
    rw[D]at m;exact(kw m (by intro e;cases e)).1
   have aq:=Z1 ba;have ar:z.p≠p/\z.p≠mb:=by
    have m:=l.own;have ht:z.tag a≠.st i:=by unfold Nd.tag;split<;>(intro e;cases e)
    exact⟨λe=>ht (by rw[<-m,e];exact f.o.1.K7.tp),λe=>ht (by rw[<-m,e];exact f.o.1.K7.tm)⟩
   have au:=Z1 ar;have bb:=f.o.1.B7.size;have bc:=Z1 bb;obtain⟨k0,k1⟩:=a;simp only at*;obtain⟨Ao,co,rfl,_,_⟩:=ak f.o.2.2;clear al t r am ab ac hx a8 a9 l s ba ar bb;go_wp2;generalize bd:wr.heap.size=v9 at*;generalize bz:wr.alloc (.cells #[E k0,E k1] 58)=V9 at*;have O:=Z1 bd;clear bd bz;have HS:=N;have hS:ag (λj=>(z.fz=false/\j=z.p)\/(Value.slice Ao k co).ownBlock=some j) V9 V9.drew:=(ag.refl _ V9).drew;refine ay (S:=λV=>ag (λj=>(z.fz=false/\j=z.p)\/(Value.slice Ao k co).ownBlock=some j) V9 V) zR hS ?_;have be:∀j,(j=v9\/j=p\/j=mb)->¬((z.fz=false/\j=z.p)\/(Value.slice Ao k co).ownBlock=some j):=by
    rintro j hj (⟨e1,e2⟩|e)
    ·have m:=aq.o e1;have D:=O.o;have h3:=bc.o
     rcases hj with rfl|rfl|rfl
     ·omega
     ·exact au.o.1 e2.symm
     ·exact au.o.2 e2.symm
    ·have m:=f.o.2.2.lt j e;have D:=O.o;have h3:=H.o.1.at_.lt
     rcases hj with rfl|rfl|rfl<;>omega
   have u:=Z1 be;clear be;simp only[zD,zE,Nat.reduceAdd,zG];refine zL ?_;refine zQ 1 _ ?_ (hy:=λW hW=>by obtain⟨q0,q1⟩:=ao (hW.B0 N.o.1 (u.o _ (.inl rfl)));exact zf);refine zq 5 _ ?_ (hy:=λW hW=>by have q0:_=some (Value.map (some mb)):=((N.o.2.B7 hW (u.o _ (.inr (.inl rfl))) (u.o _ (.inr (.inr rfl)))).B0.cell 0);exact zf);refine zq 6 _ ?_ (hy:=λW hW=>by obtain⟨q0,q1⟩:=ao (hW.B0 N.o.1 (u.o _ (.inl rfl)));exact zf);refine zq 7 _ ?_ (hy:=λW hW=>by have cq:=HF.o.2 _ (N.o.2.B7 hW (u.o _ (.inr (.inl rfl))) (u.o _ (.inr (.inr rfl))));exact zf);refine zo 8 λK hK=>?_;go_simp;refine Calls.mono HF.o.1 ?_;rintro e w2 ⟨rfl,P,av⟩;have ad:=hS.trans (av.C3 λj e=>.inl e);have H2:=Z2 P av;clear P av;refine zJ hK ad ?_;refine zo 10 λK hK=>?_;go_simp;refine zJ hK (ad.alloc _) ?_;refine zo 11 λK hK=>?_;try simp only[iZ]
   have a5:w2.ownsRow w.heap.size 224 3 (.slice Ao k co) k (ents ((ks.take k).map (nr zs))):=by
    have F:=f.o.2.2;have Q:=HZ.o.2.2.2.2.1;try rw[<-O.o]at Q
    refine H2.o.2.C8 ((ag.B5 (L:=λ_=>False) Q).C8 F λ_ _ e=>e) λg d e=>?_;have:=(F.lt g d).1;have m:=aq.o e.1;have D:=e.2;omega
   refine iI (w:=w2) (n:=k) (xs:=ents ((ks.take k).map (nr zs))) (B:=w.heap.size) (v:=.slice Ao k co) Bt zP (.tmp 13) (.tmp 23) rfl zF a5 (OJ bc.o (by have m:=HZ.o.2.2.2.2.1.size;have D:=H2.o.2.size;have h3:=O.o;omega)) rfl zF rfl zV zO zU ?_;intro v' w' bf aw bg;have bh:=dl ad aw (λ_ h=>h) λj hj=>.inr hj;have H4:=Z3 bf aw bg;clear bf aw bg;refine zJ hK bh ?_;have ax:tR w w' c T i p mb C7 zs ks (.slice (some (Y b o)) n cc) v' (k+1):=by
    have r:=HZ.o.2.2.1;have t:=HZ.o.1;have bi:=H2.o.1;have s:=HZ.o.2.2.2.2.2.2;rw[r]at t bi s;have R:=f.o.2.1;have Q:=HZ.o.2.2.2.2.1;try rw[<-O.o]at Q
    have bj:=(ag.B5 Q).trans H2.o.2;have bk:=f.o.1.next H.o.1.at_.D7 G.o.2.2.1 q t bi bj;have b2:=uP R f.o.2.2 zP;have az:∀g,(Value.slice Ao k co).ownBlock=some g->w.heap.size<=g:=λg d=>(f.o.2.2.lt g d).1;have b3:=H4.o.2.1;have a0:=dl (ag.refl _ w2) b3 (λ_ h=>h) λ_ h=>h;refine⟨⟨?_,?_⟩,?_,?_⟩
    ·refine bk.K7.B7 a0 (λg d e=>?_) λy _ g d e=>?_
     ·rw[mr T _ (az g e)]at d
      cases d
     ·rw[mr T _ (az g e)]at d;unfold Nd.tag at d;split at d<;>cases d
    ·exact bL bk.B7 a0 λg d e=>by have:=az g e;omega
    ·refine(bj.C8 R λg d e=>?_) |> λF=>a0.C8 F λg d e=>b2 g d e.symm;have m:=(R.lt g d).1;have D:=aq.o e.1;have h3:=e.2;omega
    ·have h5:=H4.o.1;have hs:=OG q;rw[hs,QC,Pi,Qs,<-uN,s];exact h5
   have b4:=Z1 ax;clear ax bh ad hS HS;go_wp2;go_roundw
   case rel=>exact⟨k+1,zO,by go_num,b4⟩
   case measure=>simp[intOf];omega
  ·obtain rfl:k=n:=zO;have hd:=f.o;have HD:=Z1 hd;clear hd;go_wp2;go_ret;have e1:=G.o.1;have m:=HD.o;rw[e1]at m;have D:=m.2.2;rw[PO]at D;exact⟨ks,_,G.o.2.1,rfl,m.1,D⟩
def Gl(p q:Nat)(t:TypeId)(cs:Array Value)(S:Nat->Prop)(x:Qm)(k:K2)(w:World)(h:gq w p q t cs S x)(ho:x.over=true):
  C 278 #[Z p q,k.val] w λe w'=>e=.returned (.bool false)/\lP w w' p q t cs S x:=by
 have a:=zh w (.cells #[E k.hi,E k.lo] 58);have b:=h.up a;have c:=(b.line.B0.cell (q+4)).trans b.over;rw[ho]at c;have H:=Z2 h a;obtain⟨d,f⟩:=k;simp only at c H;unfold K2.val K2.arr;simp only
 go_in
 go_wp2;go_quiet (fail);go_wp2;go_ret;exact⟨rfl,H.o.1.same (fd H.o.2 _)⟩
def Du(p q:Nat)(t:TypeId)(cs:Array Value)(S:Nat->Prop)(x:Qm)(k:K2)(w:World)(h:gq w p q t cs S x)(hk:k.ok)(ho:x.over=false)(hd:k∈x.C5):
  C 278 #[Z p q,k.val] w λe w'=>e=.returned (.bool false)/\lP w w' p q t cs S x:=by
 have c:=zh w (.cells #[E k.hi,E k.lo] 58);have a:=h.up c;have f:=(a.line.B0.cell (q+4)).trans a.over;rw[ho]at f
 rcases a.maps with⟨_,_,e,_⟩|⟨d,b,i,s,m,n,r,j,u⟩
 ·rw[e]at hd;cases hd
 have l:=(a.line.B0.cell (q+2)).trans i;have H:=Z2 h c;obtain⟨v,y⟩:=k;have g:=bD.look (bD.drew j) hk;rw[OB hd]at g;simp only at f l H g;unfold K2.val K2.arr;simp only
 go_in
 go_wp2;refine cM zR zR ?_;repeat still_step
 refine wpStill_nil ?_;go_wp2;go_ret;exact⟨rfl,H.o.1.same H.o.2.drew⟩
def dE.K8{w:World}{q:Nat}{t:TypeId}(h:dE w p q B t cs S L){m:List (K2×Value)}(hd:aw prog 58 lO K2.ok w d m):dE w p q B t cs (λk=>S k/\k≠d) L:=by
 obtain⟨g,i,f,b,c,j,l,n⟩:=h.ex;exact⟨g,i,f,b,c,j,λk a=>⟨l k a,λe=>hd.E7 c.front (by rw[a,e])⟩,λk a=>⟨n k a,λe=>hd.E7 c.back (by rw[a,e])⟩⟩
def gc{w:World}(h:ag (λk=>k=p\/S k) w w1)(k:ag (λj=>j=d) w1 w2)(hd:S d\/w.heap.size<=d):ag (λk=>k=p\/S k) w w2:=
 ⟨k.os.trans h.os,k.tape.trans h.tape,k.output.trans h.output,OJ h.size k.size,λj b a=>(k.block j (OV b h.size) λe=>by
  subst e
  rcases hd with hd|hd
  ·exact a (.inr hd)
  ·omega).trans (h.block j b a)⟩
structure xX(w W:World)(p q:Nat)(t:TypeId)(cs cs1:Array Value)(S:Nat->Prop)(x:Qm)(d b vb:Nat)(k0 k1:Int):Prop where
 line:dE W p q 0 t cs1 (λk=>S k\/w.heap.size<=k) x.line
 over:cs1[q+4]?=some (.bool x.over)
 m2:cs1[q+2]?=some (.map (some d))
 m3:cs1[q+3]?=some (.map (some b))
 ne:d≠b
 Sd:S d\/w.heap.size<=d
 Sb:S b\/w.heap.size<=b
 C5:bD W d x.C5
 busy:bD W b x.busy
 ok:∀k∈x.line,k.ok
 box:Blk W vb 58 #[E k0,E k1]
 out:bF q 5 cs cs1
 B7:ag (λk=>k=p\/S k) w W
def xX.o:=@xX.out
def MD(d:Nat)(w:World):(binOp .eql 161 (.map (some d)) (.map none)).run prog w=.ok (.bool false) w:=zR
def xY:(binOp .eql 161 (.map none) (.map none)).run prog w=.ok (.bool true) w:=zR
def Kc(p q:Nat)(t:TypeId)(cs:Array Value)(S:Nat->Prop)(x:Qm)(k:K2)(w:World)(h:gq w p q t cs S x)(hf:x.E5)(hk:k.ok)(ho:x.over=false)(hd:k∉x.C5):
  C 278 #[Z p q,k.val] w λe w'=>e=.returned (.bool (x.add k).2)/\lP w w' p q t cs S (x.add k).1:=by
 have X:=zh w (.cells #[E k.hi,E k.lo] 58);have v:=h.up X;have c4:=(v.line.B0.cell (q+4)).trans v.over;rw[ho]at c4;have aq:=Blk.A8 w 58 #[E k.hi,E k.lo] rfl;have bh:=hf.C5;have bi:=hf.line;have HA:Hid (x.add k=if k∈x.busy then({x with C5:=fu x.C5 k},false)else({x with C5:=fu x.C5 k,line:=x.line++[k]},true)):=Z1 (by unfold Qm.add;rw[Oz (λe=>e.elim (λe=>by rw[ho]at e;cases e) hd)]);have b0:=Z1 ho;obtain⟨l,m⟩:=k;have H:=Z4 v aq X hk;have z:=Z1 hk;have H0:=Z1 h;simp only at c4 H HA;unfold K2.val K2.arr;simp only
 rcases v.maps with⟨m2,m3,az,a0⟩|⟨d,b,m2,m3,a1,a4,a5,hD,hB⟩
 ·have c2:=(v.line.B0.cell (q+2)).trans m2;have c3:=(v.line.B0.cell (q+3)).trans m3;have f2:=v.line.B0.frozen (q+2);have f3:=v.line.B0.frozen (q+3);have hl:=EK l m hk;have he:=xY;have b1:=@run_makeMap prog;have A:=Z4 az a0 m2 m3
  go_in
  go_wp2;refine cM zR zR ?_;repeat still_step
  refine wpStill_nil ?_;have U:=H.o.1.up ((Oy _ _).drew);have a8:=H.o.2.2.1.drew;have ar:=H.o.2.1.drew;have HK:=Z1 H.o.2.2.2;generalize (w.alloc (.cells #[E l,E m] 58)).drew=W at*;have c2:=(U.line.B0.cell (q+2)).trans A.o.2.2.1;have c3:=(U.line.B0.cell (q+3)).trans A.o.2.2.2;have hA:=(U.line.B0.alloc (.map #[] 0)).alloc (.map #[] 0);have f2:=hA.frozen (q+2);have f3:=hA.frozen (q+3);have a2:=(hA.cell (q+2)).trans A.o.2.2.1;have a3:=(hA.cell (q+3)).trans A.o.2.2.2;have B:=Z3 U a8 ar;go_upto_region 5 with fail
  have b2:=B.o.1.line.B0.lt;have a9:bD (W.alloc (.map #[] 0)) W.heap.size []:=aw.made_at W rfl;have ba:bD ((W.alloc (.map #[] 0)).alloc (.map #[] 0)) W.heap.size []:=aw.up a9 (ae (Oy _ _) _);have bb:bD ((W.alloc (.map #[] 0)).alloc (.map #[] 0)) (W.heap.size+1) []:=aw.made_at _ zS;have a:Hid (xX w ((((W.alloc (.map #[] 0)).alloc (.map #[] 0)).setCell (Y p (q+2)) (.map (some W.heap.size))).setCell (Y p (q+3)) (.map (some (W.heap.size+1)))) p q t cs
    ((cs.setIfInBounds (q+2) (.map (some W.heap.size))).setIfInBounds (q+3) (.map (some (W.heap.size+1)))) S x W.heap.size (W.heap.size+1) w.heap.size l m):=Z1 {
   line:=(((B.o.1.line.up (ae (ae (Oy _ W) _) _)).cell (.inr zO) _).cell (.inr zO) _).more λ_ h=>.inl h
   over:=(bf zO _).trans ((bf zO _).trans B.o.1.over)
   m2:=(bf zO _).trans (cP A.o.2.2.1 _)
   m3:=cP ((bf zO _).trans A.o.2.2.2) _
   ne:=zO
   Sd:=.inr B.o.2.1.size
   Sb:=.inr (RI B.o.2.1.size)
   C5:=by
    rw[A.o.1];refine aw.D3 ba ((Pd _ _ _ _ ?_).trans (Pd _ _ _ _ ?_))<;>(show W.heap.size≠p;omega)
   busy:=by
    rw[A.o.2.1];refine aw.D3 bb ((Pd _ _ _ _ ?_).trans (Pd _ _ _ _ ?_))<;>(show W.heap.size+1≠p;omega)
   ok:=B.o.1.ok
   box:=by
    have n:w.heap.size≠p:=by
     have:=H0.o.line.B0.lt;omega
    exact(((B.o.2.2.alloc _).alloc _).D1 (p:=Y p (q+2)) n _).D1 (p:=Y p (q+3)) n _
   out:=((bF.refl q 5 cs).B4 zO zO _).B4 zO zO _
   B7:=((((ag.B5 B.o.2.1).alloc _).alloc _).setCell (p:=Y p (q+2)) (.inl (.inl rfl)) _).setCell (p:=Y p (q+3)) (.inl (.inl rfl)) _}
  generalize (cs.setIfInBounds (q+2) (.map (some W.heap.size))).setIfInBounds (q+3) (.map (some (W.heap.size+1)))=D at a;generalize ((((W.alloc (.map #[] 0)).alloc (.map #[] 0)).setCell (Y p (q+2)) (.map (some W.heap.size))).setCell (Y p (q+3)) (.map (some (W.heap.size+1))))=V at*;generalize W.heap.size+1=b at*;generalize W.heap.size=d at*;obtain⟨l1,l2,l3,l4,l5,l6,l7,l8,l9,bc,F,bd,be⟩:=a.o;have c2:=(l1.B0.cell (q+2)).trans l3;obtain⟨d0,d1⟩:=ao F;have G:=bD.drew l8;have ac:=aw.C9 l8 F;refine zb 5 ?_;repeat still_step
  refine wpStill_nil ?_;refine cZ rfl _ _ _ 161 3 rfl jO underlying161 ⟨l,m⟩ z.o (I 1) rfl rfl rfl G (by rw[nk];omega) ?_;intro w2 L r bg;rw[rD]at L;have N:=r.B0 a.o.box.drew (Pc ac);have O:=a.o.line.drew.D3 G r;have P:=aw.B7 (bD.drew a.o.busy) r (Pc a.o.ne);have f:=Z5 L P O r N;have c3:=(O.B0.cell (q+3)).trans a.o.m3;obtain⟨e0,e1⟩:=ao N;have Q:=bD.look (bD.drew P) z.o;go_wp2;by_cases s:(⟨l,m⟩:K2)∈x.busy
  ·rw[OB s]at Q;have y:Hid (x.add ⟨l,m⟩=({x with C5:=fu x.C5 ⟨l,m⟩},false)):=Z1 (by rw[HA.o,OB s]);refine cM zR zR ?_;repeat still_step
   refine wpStill_nil ?_;go_wp2;go_ret;rw[y.o];exact⟨rfl,D,⟨f.o.2.2.1.drew,a.o.over,.inr ⟨d,b,a.o.m2,a.o.m3,a.o.ne,a.o.Sd,a.o.Sb,bD.drew f.o.1,bD.drew f.o.2.1⟩,a.o.ok⟩,a.o.o,(gc a.o.B7.drew f.o.2.2.2.1 a.o.Sd).drew⟩
  ·rw[Oz s]at Q;have y:Hid (x.add ⟨l,m⟩=({x with C5:=fu x.C5 ⟨l,m⟩,line:=x.line++[⟨l,m⟩]},true)):=Z1 (by rw[HA.o,Oz s]);refine cM zR zR ?_;repeat still_step
   refine wpStill_nil ?_;have ad:=(f.o.2.2.1.K8 f.o.1).K8 f.o.2.1;have R:=rB p q 0 t D _ x.line ⟨l,m⟩ w2.drew.drew ad.drew.drew (OK _) zO;have T:=Z1 R;go_wp2;refine zb 4 ?_;repeat still_step
   refine wpStill_nil ?_;go_wp2_with fail;refine T.o.mono ?_;rintro e w3 ⟨rfl,af,ah,u,g⟩;go_wp2;go_ret;rw[y.o];have i:=(gc a.o.B7.drew f.o.2.2.2.1 a.o.Sd).drew.drew;have ai:=i.size;have aj:d≠p:=aw.C9 f.o.1 f.o.2.2.1.B0;have ak:b≠p:=aw.C9 f.o.2.1 f.o.2.2.1.B0;refine⟨rfl,af,⟨ah.more λk hk=>hk.elim (λhk=>hk.1.1) λhk=>.inr (OJ ai hk),(u.2 _ zO).trans a.o.over,.inr ⟨d,b,(u.2 _ zO).trans a.o.m2,(u.2 _ zO).trans a.o.m3,a.o.ne,a.o.Sd,a.o.Sb,aw.B7 (bD.drew (bD.drew f.o.1)) g (λe=>e.elim aj λe=>e.1.2 rfl),aw.B7 (bD.drew (bD.drew f.o.2.1)) g λe=>e.elim ak λe=>e.2 rfl⟩,?_⟩,a.o.o.trans (u.more (OA _) zO),?_⟩
   ·intro k hk
    rcases Po.1 hk with hk|hk
    ·exact a.o.ok k hk
    ·rw[Py.1 hk];exact z.o
   ·refine⟨g.os.trans i.os,g.tape.trans i.tape,g.output.trans i.output,OJ i.size g.size,λj hj n=>(g.block j (OV hj i.size) λe=>?_).trans (i.block j hj n)⟩
    rcases e with e|e
    ·exact n (.inl e)
    ·rcases e.1.1 with e|e
     ·exact n (.inr e)
     ·omega
 ·have c2:=(v.line.B0.cell (q+2)).trans m2;have c3:=(v.line.B0.cell (q+3)).trans m3;have hl:=bD.look (bD.drew hD) hk;rw[Oz hd]at hl;have he:=MD d;have a:Hid (xX w (w.alloc (.cells #[E l,E m] 58)).drew p q t cs cs S x d b w.heap.size l m):=Z1 ⟨(v.line.drew).more λ_ h=>.inl h,v.over,m2,m3,a1,.inl a4,.inl a5,bD.drew hD,bD.drew hB,v.ok,aq.drew,bF.refl _ _ _,(ag.B5 X).drew⟩
  go_in
  go_wp2;refine cM zR zR ?_;repeat still_step
  refine wpStill_nil ?_;go_upto_region 5 with fail
  generalize (w.alloc (.cells #[E l,E m] 58)).drew=V at*;obtain⟨D,rfl⟩:∃c,c=cs:=⟨cs,rfl⟩;obtain⟨l1,l2,l3,l4,l5,l6,l7,l8,l9,bc,F,bd,be⟩:=a.o;have c2:=(l1.B0.cell (q+2)).trans l3;obtain⟨d0,d1⟩:=ao F;have G:=bD.drew l8;have ac:=aw.C9 l8 F;refine zb 5 ?_;repeat still_step
  refine wpStill_nil ?_;refine cZ rfl _ _ _ 161 3 rfl jO underlying161 ⟨l,m⟩ z.o (I 1) rfl rfl rfl G (by rw[nk];omega) ?_;intro w2 L r bg;rw[rD]at L;have N:=r.B0 a.o.box.drew (Pc ac);have O:=a.o.line.drew.D3 G r;have P:=aw.B7 (bD.drew a.o.busy) r (Pc a.o.ne);have f:=Z5 L P O r N;have c3:=(O.B0.cell (q+3)).trans a.o.m3;obtain⟨e0,e1⟩:=ao N;have Q:=bD.look (bD.drew P) z.o;go_wp2;by_cases s:(⟨l,m⟩:K2)∈x.busy
  ·rw[OB s]at Q;have y:Hid (x.add ⟨l,m⟩=({x with C5:=fu x.C5 ⟨l,m⟩},false)):=Z1 (by rw[HA.o,OB s]);refine cM zR zR ?_;repeat still_step
   refine wpStill_nil ?_;go_wp2;go_ret;rw[y.o];exact⟨rfl,D,⟨f.o.2.2.1.drew,a.o.over,.inr ⟨d,b,a.o.m2,a.o.m3,a.o.ne,a.o.Sd,a.o.Sb,bD.drew f.o.1,bD.drew f.o.2.1⟩,a.o.ok⟩,a.o.o,(gc a.o.B7.drew f.o.2.2.2.1 a.o.Sd).drew⟩
  ·rw[Oz s]at Q;have y:Hid (x.add ⟨l,m⟩=({x with C5:=fu x.C5 ⟨l,m⟩,line:=x.line++[⟨l,m⟩]},true)):=Z1 (by rw[HA.o,Oz s]);refine cM zR zR ?_;repeat still_step
   refine wpStill_nil ?_;have ad:=(f.o.2.2.1.K8 f.o.1).K8 f.o.2.1;have R:=rB p q 0 t D _ x.line ⟨l,m⟩ w2.drew.drew ad.drew.drew (OK _) zO;have T:=Z1 R;go_wp2;refine zb 4 ?_;repeat still_step
   refine wpStill_nil ?_;go_wp2_with fail;refine T.o.mono ?_;rintro e w3 ⟨rfl,af,ah,u,g⟩;go_wp2;go_ret;rw[y.o];have i:=(gc a.o.B7.drew f.o.2.2.2.1 a.o.Sd).drew.drew;have ai:=i.size;have aj:d≠p:=aw.C9 f.o.1 f.o.2.2.1.B0;have ak:b≠p:=aw.C9 f.o.2.1 f.o.2.2.1.B0;refine⟨rfl,af,⟨ah.more λk hk=>hk.elim (λhk=>hk.1.1) λhk=>.inr (OJ ai hk),(u.2 _ zO).trans a.o.over,.inr ⟨d,b,(u.2 _ zO).trans a.o.m2,(u.2 _ zO).trans a.o.m3,a.o.ne,a.o.Sd,a.o.Sb,aw.B7 (bD.drew (bD.drew f.o.1)) g (λe=>e.elim aj λe=>e.1.2 rfl),aw.B7 (bD.drew (bD.drew f.o.2.1)) g λe=>e.elim ak λe=>e.2 rfl⟩,?_⟩,a.o.o.trans (u.more (OA _) zO),?_⟩
   ·intro k hk
    rcases Po.1 hk with hk|hk
    ·exact a.o.ok k hk
    ·rw[Py.1 hk];exact z.o
   ·refine⟨g.os.trans i.os,g.tape.trans i.tape,g.output.trans i.output,OJ i.size g.size,λj hj n=>(g.block j (OV hj i.size) λe=>?_).trans (i.block j hj n)⟩
    rcases e with e|e
    ·exact n (.inl e)
    ·rcases e.1.1 with e|e
     ·exact n (.inr e)
     ·omega
def Kd(p q:Nat)(t:TypeId)(cs:Array Value)(S:Nat->Prop)(x:Qm)(k:K2)(w:World)(h:gq w p q t cs S x)(hf:x.E5)(hk:k.ok):
  C 278 #[Z p q,k.val] w λe w'=>e=.returned (.bool (x.add k).2)/\lP w w' p q t cs S (x.add k).1:=by
 by_cases a:x.over=true
 ·have:x.add k=(x,false):=by unfold Qm.add;rw[OB (.inl a)]
  rw[this];exact Gl p q t cs S x k w h a
 ·have a:x.over=false:=by simpa using a
  by_cases b:k∈x.C5
  ·have:x.add k=(x,false):=by unfold Qm.add;rw[OB (.inr b)]
   rw[this];exact Du p q t cs S x k w h hk a b
  ·exact Kc p q t cs S x k w h hf hk a b
def dE.tight{w:World}{q:Nat}{t:TypeId}(h:dE w p q B t cs S L):dE w p q B t cs (λk=>S k/\k<w.heap.size) L:=by
 obtain⟨d,e,f,b,c,g,i,j⟩:=h.ex;exact⟨d,e,f,b,c,g,λk a=>⟨i k a,c.lt k (.inr (.inl a))⟩,λk a=>⟨j k a,c.lt k (.inr (.inr a))⟩⟩
def dE.D1{w:World}{q:Nat}{t:TypeId}(h:dE w p q B t cs S L)(hg:¬S g)(hp:p≠g)(i:Nat)(u:Value):dE (w.setCell (Y g i) u) p q B t cs S L:=by
 obtain⟨j,k,f,b,a,l,c,d⟩:=h.ex;exact⟨j,k,f,b,⟨a.B0.D1 (p:=Y g i) hp u,bA (p:=Y g i) a.front (λe=>hg (c g e)) u,bA (p:=Y g i) a.back (λe=>hg (d g e)) u,a.apart,a.v0,a.v1,a.ne⟩,l,c,d⟩
def bD.D1{w:World}{t:TypeId}(h:bD w b l)(hb:Blk w g t cs)(i:Nat)(u:Value):bD (w.setCell (Y g i) u) b l:=aw.D3 h (Pd w _ _ b (aw.C9 h hb))
def sZ(p q:Nat)(t:TypeId)(cs:Array Value)(S:Nat->Prop)(x:Qm)(w:World)(h:gq w p q t cs S x)(hl:x.line=[]):
  C 349 #[Z p q] w (J (.tuple #[K2.val ⟨0,0⟩,.bool false]) w):=by
 have c:=zh w (.cells #[E 0,E 0] 58);have g:=Cu w _ rfl;have a:=h.line.up c;rw[hl]at a;have f:=Z3 (Cv p q 0 t cs S _ a) c g;clear h hl c g a
 go_in
 go_wp2_with fail;refine zm f.o.1 λm d=>?_;have b:=(f.o.2.2.later d).alloc (.cells #[E 0,E 0] 58);have i:=Z2 b (ae (af f.o.2.1 d) (.cells #[E 0,E 0] 58));obtain⟨n,r⟩:=ao b;have k:=b.frozen 0;have l:=b.frozen 1;clear b;unfold K2.val K2.arr;simp only;go_wp2;have j:=((i.o.1.B4 0 (E 0)).B4 1 (E 0));exact OH (cx lj rfl (cs:=K2.arr ⟨0,0⟩) j rfl _ rfl) rfl ⟨rfl,(i.o.2.setCell (p:=Y w.heap.size 0) (OA _) _).setCell (p:=Y w.heap.size 1) (OA _) _⟩
def Dv(p q:Nat)(t:TypeId)(cs:Array Value)(S:Nat->Prop)(x:Qm)(k:K2)(r:List K2)(w:World)(h:gq w p q t cs S x)(hf:x.E5)(hl:x.line=k::r)(hd:k∈x.C5):
  C 349 #[Z p q] w λe w'=>e=.returned (.tuple #[k.val,.bool true])/\lP w w' p q t cs S x.get.1:=by
 have A:=zh w (.cells #[E 0,E 0] 58);have hz:=Cu w _ rfl;have h1:=h.up A;have G:k.ok:=h.ok k (by rw[hl];simp);have hX:Hid (x.get.1={x with line:=r,C5:=ib x.C5 k,busy:=fu x.busy k}):=Z1 (by unfold Qm.get;rw[hl]);have bj:=hf.busy;have a8:=Z1 hl
 rcases h1.maps with⟨m2,m3,a9,bn⟩|⟨d,b,m2,m3,R,T,U,hD,hB⟩
 ·rw[a9]at hd;cases hd
 have v:=((h.line.tight.up A).K8 hD).K8 hB;rw[hl]at v;have X:(k::r).length<=100000:=by have:=hf.line;rw[hl]at this;omega
 have m:=Z7 (II p q 0 t cs _ k r _ v X) A hz h1 hD hB h;have f:=Z6 m2 m3 R T U G;have L:p≠w.heap.size:=by have:=h.line.B0.lt;omega
 clear h hl A hz v h1 hD hB m2 m3 R T U G hd hf X
 go_in
 go_wp2_with fail;refine m.o.1.mono ?_;rintro e H ⟨rfl,ba,aa,n,y⟩;have bb:d≠p:=aw.C9 m.o.2.2.2.2.1 m.o.2.2.2.1.line.B0;have bc:b≠p:=aw.C9 m.o.2.2.2.2.2.1 m.o.2.2.2.1.line.B0;have ab:=aw.B7 m.o.2.2.2.2.1 y (λe=>e.elim bb λe=>e.1.2 rfl);have ac:=aw.B7 m.o.2.2.2.2.2.1 y (λe=>e.elim bc λe=>e.2 rfl);have N:=y.B0 m.o.2.2.1 (λe=>e.elim (λe=>L e.symm) λe=>absurd e.1.1.2 (Qn _));have ad:=(ag.B5 m.o.2.1).trans (y.C3 λj hj=>hj.imp id λe=>e.1.1.1);obtain⟨g,l⟩:=k;have af:=Blk.A8 H 58 #[E g,E l] rfl;have ah:=aw.up ab (ae (Oy _ H) (.cells #[E g,E l] 58));have ai:=aw.up ac (ae (Oy _ H) (.cells #[E g,E l] 58));have aj:=aa.up (ae (Oy _ H) (.cells #[E g,E l] 58));have ak:=N.alloc (.cells #[E g,E l] 58);have al:=ad.alloc (.cells #[E g,E l] 58);have bo:=N.lt;have a:=Z7 af ah ai aj ak al n;unfold K2.val K2.arr;simp only;clear ab ac N ad aa y af ah ai aj ak al n;go_upto_region 5 with fail
 generalize am:H.heap.size=vx at*;have bp:=Z1 am;clear am;generalize H.alloc (.cells #[E g,E l] 58)=V at*;have c2:=(a.o.2.2.2.1.B0.cell (q+2)).trans ((a.o.2.2.2.2.2.2.2 _ zO).trans f.o.1);obtain⟨d0,d1⟩:=ao a.o.1;have O:=bD.drew a.o.2.1;refine zb 5 ?_;repeat still_step
 refine wpStill_nil ?_;refine mf rfl _ _ _ 3 rfl jO underlying161 ⟨g,l⟩ f.o.2.2.2.2.2 rfl rfl O ?_;intro w2 P s bd;rw[wY]at P;have an:=aw.C9 a.o.2.1 a.o.1;have ap:=s.B0 a.o.1.drew (Pc an);have aq:=aw.B7 (bD.drew a.o.2.2.1) s (Pc f.o.2.2.1);have ar:=a.o.2.2.2.1.drew.D3 O s;have au:=s.B0 a.o.2.2.2.2.1.drew (Pc (aw.C9 a.o.2.1 a.o.2.2.2.2.1));have av:=gc a.o.2.2.2.2.2.1.drew s (.inl f.o.2.2.2.1);have i:=Z6 P aq ar au av ap;clear c2 d0 d1 O P s bd an ap aq ar au av;go_upto_region 6 with fail
 have c3:=(i.o.2.2.1.B0.cell (q+3)).trans ((a.o.2.2.2.2.2.2.2 _ zO).trans f.o.2.1);obtain⟨d0,d1⟩:=ao i.o.2.2.2.2.2;have Q:=bD.drew i.o.2.1;refine zb 5 ?_;repeat still_step
 refine wpStill_nil ?_;refine cZ rfl _ _ _ 161 3 rfl jO underlying161 ⟨g,l⟩ f.o.2.2.2.2.2 (I 1) rfl rfl rfl Q (by rw[nk];omega) ?_;intro w4 z u be;rw[rD]at z;have ax:=u.B0 i.o.2.2.2.2.2.drew (Pc (aw.C9 i.o.2.1 i.o.2.2.2.2.2));have B:=aw.B7 (bD.drew i.o.1) u f.o.2.2.1;have D:=i.o.2.2.1.drew.D3 Q u;have c:=u.B0 i.o.2.2.2.1.drew (Pc (aw.C9 i.o.2.1 i.o.2.2.2.1));have F:=gc i.o.2.2.2.2.1.drew u (.inl f.o.2.2.2.2.1);have H4:=Z5 B z D c F;obtain⟨e0,e1⟩:=ao ax;obtain⟨z0,z1⟩:=ao c;have bq:=c.frozen 0;have br:=c.frozen 1;clear c3 d0 d1 Q z u be ax B D c F;go_wp2;have bg:=((H4.o.2.2.2.1.B4 0 (E g)).B4 1 (E l));obtain⟨B,z,D,c,F⟩:=H4.o;have ay:¬(((S w.heap.size/\w.heap.size<w.heap.size)/\w.heap.size≠d)/\w.heap.size≠b\/(w.alloc (.cells #[E 0,E 0] 58)).heap.size<=w.heap.size):=by
  rintro(e|e)
  ·exact Qn _ e.1.1.2
  ·simp at e;omega
 have az:=c.B4 0 (E g);refine OH (cx lj rfl (cs:=K2.arr ⟨g,l⟩) bg rfl _ rfl) rfl ⟨rfl,ba,?_,(a.o.2.2.2.2.2.2).more (OA _) zO,(F.setCell (p:=Y w.heap.size 0) (.inr (OA _)) _).setCell (p:=Y w.heap.size 1) (.inr (OA _)) _⟩;rw[hX.o];have n:=a.o.2.2.2.2.2.2;have h0:=m.o.2.2.2.2.2.2;refine⟨((D.D1 ay L 0 _).D1 ay L 1 _).more λk G=>G.elim (λe=>.inl e.1.1.1) λe=>.inr (by simp at e;omega),(n.2 _ zO).trans h0.over,.inr ⟨d,b,(n.2 _ zO).trans f.o.1,(n.2 _ zO).trans f.o.2.1,f.o.2.2.1,.inl f.o.2.2.2.1,.inl f.o.2.2.2.2.1,bD.D1 (bD.D1 B c 0 _) az 1 _,bD.D1 (bD.D1 z c 0 _) az 1 _⟩,λk G=>h0.ok k (by rw[a8.o];exact Pm _ G)⟩
def Dw(p q:Nat)(t:TypeId)(cs:Array Value)(S:Nat->Prop)(x:Qm)(k:K2)(w:World)(h:gq w p q t cs S x)(hf:x.E5)(hk:k.ok)(hbz:k∈x.busy):
  C 359 #[Z p q,k.val] w λe w'=>e=.returned (.tuple #[.bool (x.done k).2,I 0])/\lP w w' p q t cs S (x.done k).1:=by
 have A:=zh w (.cells #[E k.hi,E k.lo] 58);have y:=h.up A;have Q:=Blk.A8 w 58 #[E k.hi,E k.lo] rfl;have av:=hf.C5;have ax:=hf.line;have HA:Hid (x.done k=if k∈x.C5 then({x with busy:=ib x.busy k,line:=x.line++[k]},true)else({x with busy:=ib x.busy k},false)):=Z1 (by unfold Qm.done;rw[OB hbz])
 rcases y.maps with⟨m2,P,a0,aj⟩|⟨d,b,m2,P,R,T,U,hD,hB⟩
 ·rw[aj]at hbz;cases hbz
 obtain⟨f,g⟩:=k;have hl:=bD.look (bD.drew hB) hk;rw[OB hbz]at hl;have c3:=(y.line.B0.cell (q+3)).trans P;have a:Hid (xX w (w.alloc (.cells #[E f,E g] 58)).drew p q t cs cs S x d b w.heap.size f g):=Z1 ⟨(y.line.drew).more λ_ h=>.inl h,y.over,m2,P,R,.inl T,.inl U,bD.drew hD,bD.drew hB,y.ok,Q.drew,bF.refl _ _ _,(ag.B5 A).drew⟩;have s:=Z1 hk;have HT:=Z1 h.line.tight;have a1:=h.line.B0.lt;simp only at HA hl;unfold K2.val K2.arr;simp only;clear h y A hD hB hbz m2 P T U R Q hf hk
 go_in
 go_wp2;refine cM zR zR ?_;repeat still_step
 refine wpStill_nil ?_;clear hl;go_upto_region 3 with fail
 clear c3;generalize (w.alloc (.cells #[E f,E g] 58)).drew=V at*;have c3:=(a.o.line.B0.cell (q+3)).trans a.o.m3;obtain⟨d0,d1⟩:=ao a.o.box;have B:=bD.drew a.o.busy;refine zb 5 ?_;repeat still_step
 refine wpStill_nil ?_;refine mf rfl _ _ _ 3 rfl jO underlying161 ⟨f,g⟩ s.o rfl rfl B ?_;intro z D r al;rw[wY]at D;have F:=r.B0 a.o.box.drew (Pc (aw.C9 a.o.busy a.o.box));have G:=a.o.line.drew.D3 B r;have H:=aw.B7 (bD.drew a.o.C5) r a.o.ne;have X:=gc a.o.B7.drew r a.o.Sb;have c:=Z5 H D G X F;have c2:=(G.B0.cell (q+2)).trans a.o.m2;obtain⟨e0,e1⟩:=ao F;have u:=bD.look (bD.drew H) s.o;clear D r F G H B c3 d0 d1 al X;go_upto_region 4 with fail
 by_cases i:(⟨f,g⟩:K2)∈x.C5
 ·rw[OB i]at u;have L:Hid (x.done ⟨f,g⟩=({x with busy:=ib x.busy ⟨f,g⟩,line:=x.line++[⟨f,g⟩]},true)):=Z1 (by rw[HA.o,OB i]);clear i;have aa:=(c.o.2.2.1.K8 c.o.1).K8 c.o.2.1;have N:=rB p q 0 t cs _ x.line ⟨f,g⟩ z.drew aa.drew (OK _) zO;have ah:=Z1 N;clear N aa;refine zb 12 ?_;repeat still_step
  refine wpStill_nil ?_;clear u;go_wp2_with fail;refine ah.o.mono ?_;rintro e w3 ⟨rfl,am,an,v,l⟩;go_wp2
  go_ret2
  rw[L.o];have n:=c.o.2.2.2.1.drew;have ap:=n.size;have aq:d≠p:=aw.C9 c.o.1 c.o.2.2.1.B0;have ar:b≠p:=aw.C9 c.o.2.1 c.o.2.2.1.B0;refine⟨rfl,am,⟨an.more λk hk=>hk.elim (λhk=>hk.1.1) λhk=>.inr (OJ ap hk),(v.2 _ zO).trans a.o.over,.inr ⟨d,b,(v.2 _ zO).trans a.o.m2,(v.2 _ zO).trans a.o.m3,a.o.ne,a.o.Sd,a.o.Sb,aw.B7 (bD.drew c.o.1) l (λe=>e.elim aq λe=>e.1.2 rfl),aw.B7 (bD.drew c.o.2.1) l λe=>e.elim ar λe=>e.2 rfl⟩,?_⟩,v.more (OA _) zO,?_⟩
  ·intro k hk
   rcases Po.1 hk with hk|hk
   ·exact a.o.ok k hk
   ·rw[Py.1 hk];exact s.o
  ·refine⟨l.os.trans n.os,l.tape.trans n.tape,l.output.trans n.output,OJ n.size l.size,λj hj O=>(l.block j (OV hj n.size) λe=>?_).trans (n.block j hj O)⟩
   rcases e with e|e
   ·exact O (.inl e)
   ·rcases e.1.1 with e|e
    ·exact O (.inr e)
    ·omega
 ·rw[Oz i]at u;have L:Hid (x.done ⟨f,g⟩=({x with busy:=ib x.busy ⟨f,g⟩},false)):=Z1 (by rw[HA.o,Oz i]);have a2:∀m,(Instr.lookup 161 (.map (some d)) (.agg #[E f,E g]) false).run prog (z.drewN m)=.ok (I 0) (z.drewN m):=λm=>by
   have:=bD.look (w:=z.drewN m) (aw.D3 c.o.1 rfl) s.o
   rwa [Oz i]at this
  clear i u;go_quiet (fail);go_wp2
  go_ret2
  rw[L.o];have hb:=fd (Oy z.heap.size z);exact⟨rfl,cs,⟨c.o.2.2.1.up (hb _),a.o.over,.inr ⟨d,b,a.o.m2,a.o.m3,a.o.ne,a.o.Sd,a.o.Sb,aw.up c.o.1 (hb _),aw.up c.o.2.1 (hb _)⟩,a.o.ok⟩,bF.refl _ _ _,c.o.2.2.2.1.drewN _⟩
def KpQ(S:Nat->Prop)(W W':World):Prop:=el S W W'/\W.heap.size<=W'.heap.size
def KpQ.refl(S:Nat->Prop)(W:World):KpQ S W W:=⟨el.refl _ _,OA _⟩
def KpQ.trans{A B C:World}(h:KpQ S A B)(k:KpQ S B C):KpQ S A C:=⟨h.1.trans k.1,OJ h.2 k.2⟩
section
open Go.Maps Go.Sort Go.Shelf
set_option maxRecDepth 100000
attribute [local go_sem] Oper.semAt_some
def InQ(p Bb:Nat)(vf vb:Value)(k:Nat):Prop:=QBl p vf vb k\/k=Bb
def QAt.same{w w':World}{q Bb:Nat}{t:TypeId}{vf vb:Value}{f b:List K2}(h:QAt w p q B t cs vf vb f b)(hS:el (InQ p Bb vf vb) w w'):QAt w' p q B t cs vf vb f b:=h.D3 λk a=>hS k (.inl a)
def yx{w:World}{n m:Nat}(h:w.ownsRow B 58 2 v n (cG l))(hn:n=l.length)(hm:m<l.length):∃g c,v=V g 0 n c/\n<=c/\w.cell? (Y g (m*2))=some (E l[m].hi)/\w.cell? (Y g (m*2+1))=some (E l[m].lo):=by
 obtain⟨A,c,rfl,j,_⟩:=ak h;obtain⟨b,o,e,_,a⟩:=(an.C4 h).elem K2.C2 zP hn hm;obtain⟨g,r,s,k,_⟩:=fj h zO;injection k with d _ _;rw[d]at e;injection e with e;injection e with p q;subst p q d;have f:=a 0 _ rfl;have i:=a 1 _ rfl;simp only[PS,Qt]at f i;exact⟨g,c,rfl,j,f,i⟩
def KI(hn:1<=n)(l Bb p q B tb:Nat)(t:TypeId)(cs:Array Value)(vf vb:Value)(f b L:List K2)(hL:L=f.reverse++b)(hfew:L.length<=100000)(J Jx:List K2->World->Prop)(W:World)(hJ:AbidesFrom W.heap.size J)
  (hY:∀pre x W1,J pre W1->pre.length<L.length->YieldAt Fence.wide (n-1) prog l #[x.val] W1 λe W'=>
   (e=.returned (.bool true)/\J (pre++[x]) W'/\KpQ (InQ p Bb vf vb) W1 W')\/(e=.returned (.bool false)/\Jx (pre++[x]) W'))
  (hBn:Blk W Bb tb #[Z p q])(hR:QAt W p q B t cs vf vb f b)(h0:J [] W):
  CallsIn Fence.wide n prog 177 #[.func (.yield l) #[] #[],Z Bb 0] W λe W'=>(∃v,e=.returned v)/\
   ((∃ys,ys=L/\J ys W')\/(∃pre,True/\Jx pre W')):=by
 have ag:L.length=f.length+b.length:=by rw[hL];simp
 have HL:=Z1 hL;clear hL;obtain⟨S,T,rfl,ba,_⟩:=ak hR.front;obtain⟨U,X,rfl,bb,_⟩:=ak hR.back;have bc:f.length<=100000:=zO;have bd:b.length<=100000:=zO;have A:=Z1 ag;clear ag;have ah:=hBn.lt;have ai:=hR.lt;have ax:Hid (∀(ss:List K2) (V:World) (k0 k1:Int),KpQ (InQ p Bb (.slice S f.length T) (.slice U b.length X)) W V->J ss V->J ss (V.alloc (.cells #[E k0,E k1] 58))/\KpQ (InQ p Bb (.slice S f.length T) (.slice U b.length X)) V (V.alloc (.cells #[E k0,E k1] 58))):=Z1 λss V k0 k1 d hj=>by
  have a:M V (V.alloc (.cells #[E k0,E k1] 58)):=ae (Oy _ _) _;refine⟨hJ ss V _ none hj ⟨a.os,a.tape,a.output,a.size,λj hj _=>a.block j hj⟩ (λr e=>by cases e),λk y=>a.block k ?_,a.size⟩
  rcases y with y|y
  ·exact OV (ai k y) d.2
  ·rw[y];exact OV ah d.2
 refine callsIn_of_wp func177 rfl trivial ?_ rfl;simp only[ntmps177,OD,OC,OE,Nat.reduceAdd,Nat.reduceSub,Qu,Qv,QJ,QD,QA,PY];have b0:=hBn.cell 0;simp at b0;have c0:=hR.c0;have be:IntKind.i64.wrap ((f.length:Int)-1)=(f.length:Int)-1:=IntWalk.i64_in _ ⟨zO,zO⟩;clear ah ai;gi_wp2
 gi_loopw [3] (λi wr=>∃k:Nat,k<=f.length/\i=I ((f.length:Int)-1-k)/\Hid (J (L.take k) wr/\KpQ (InQ p Bb (.slice S f.length T) (.slice U b.length X)) W wr)) (λi _=>(intOf i+1).toNat)
 case atStart=>exact⟨0,OK _,zS,Z1 ⟨by simpa using h0,KpQ.refl _ _⟩⟩
 case round=>
  obtain⟨k,y,rfl,z⟩:=hrel;have h:=hR.same z.o.2.1;have b1:wr.cell? (Y Bb 0)=some (Z p q):=by
   have ay:Blk wr Bb tb #[Z p q]:=(z.o.2.1 Bb (.inr rfl)).trans hBn;have:=ay.cell 0
   simpa using this
  by_cases aj:k<f.length
  ·obtain⟨m,hm⟩:∃m,f.length=m+1+k:=⟨f.length-1-k,zO⟩;have al:m<f.length:=zO;obtain⟨g,c,u,_,d0,d1⟩:=yx h.front rfl al;injection u with u _ e3;subst u e3;have s:k<L.length:=by have:=A.o;omega
   have d:=OG s;have D:L[k]=f[m]:=by
    have F:L[k]?=f[m]?:=by
     rw[HL.o,Pk (by simpa using aj),List.getElem?_reverse aj];congr 1;omega
    rw[OL s,OL al]at F;exact Option.some.inj F
   rw[<-D]at d0 d1;obtain⟨fn,au,G,av,hy,H⟩:=hY _ L[k] wr z.o.1 zT;have HS:=Z1 d;have c1:=h.c0;have N:(f.length:Int)-1-k=(m:Int):=zO;have a6:(m:Int)<(f.length:Int):=zO;have bf:IntKind.i64.wrap ((m:Int)-1)=(m:Int)-1:=IntWalk.i64_in _ ⟨zO,zO⟩;rw[N];have HM:=Z2 N hm;clear d D h N hm;generalize L[k]=x at*;obtain⟨x0,x1⟩:=x;unfold K2.val K2.arr at*;simp only at*;gi_wp2;refine H.mono ?_;rintro e W3 (⟨rfl,O,P⟩|⟨rfl,w⟩)
   ·gi_wp2;go_roundw
    case rel=>exact⟨k+1,zO,by have:=HM.o.1;congr 1;omega,Z1 ⟨by rw[HS.o];exact O,z.o.2.trans P⟩⟩
    case measure=>have:=HM.o.1;simp[intOf]
   ·gi_wp2;refine OH (Pb rfl _ _ _) rfl ?_;exact⟨⟨_,rfl⟩,.inr ⟨_,trivial,w⟩⟩
  ·obtain rfl:k=f.length:=zO;have a1:(f.length:Int)-1-(f.length:Int)= -1:=zO;rw[a1];have c1:=h.c1;clear h;gi_wp2
   gi_loopw [33] (λi wr=>∃j:Nat,j<=b.length/\i=I j/\Hid (J (L.take (f.length+j)) wr/\KpQ (InQ p Bb (.slice S f.length T) (.slice U b.length X)) W wr)) (λi _=>b.length-(intOf i).toNat)
   case atStart=>exact⟨0,OK _,rfl,Z1 ⟨z.o.1,z.o.2⟩⟩
   case round=>
    obtain⟨j,hj,rfl,Q⟩:=hrel;have am:=hR.same Q.o.2.1;by_cases an:j<b.length
    ·obtain⟨g,c,u,_,d0,d1⟩:=yx am.back rfl an;injection u with u _ e3;subst u e3;have s:f.length+j<L.length:=by have:=A.o;omega
     have d:L.take (f.length+(j+1))=L.take (f.length+j)++[L[f.length+j]]:=OG s;have D:L[f.length+j]=b[j]:=by
      have F:L[f.length+j]?=b[j]?:=by
       rw[HL.o,Ph zS];congr 1;simp
      rw[OL s,OL an]at F;exact Option.some.inj F
     rw[<-D]at d0 d1;have R:=ax.o (L.take (f.length+j)) _ L[f.length+j].hi L[f.length+j].lo Q.o.2 Q.o.1;obtain⟨fn,au,G,av,hy,H⟩:=hY _ L[f.length+j] _ R.1 zT;have HS:=Z2 d R.2;have bg:(j:Int)<(b.length:Int):=zO;clear d D am R;generalize L[f.length+j]=x at*;obtain⟨x0,x1⟩:=x;unfold K2.val K2.arr at*;simp only at*;gi_wp2;refine H.mono ?_;rintro e W3 (⟨rfl,O,P⟩|⟨rfl,w⟩)
     ·gi_wp2;go_roundw
      case rel=>exact⟨j+1,zO,zS,Z1 ⟨by rw[HS.o.1];exact O,(Q.o.2.trans HS.o.2).trans P⟩⟩
      case measure=>simp[intOf];omega
     ·gi_wp2;refine OH (Pb rfl _ _ _) rfl ?_;exact⟨⟨_,rfl⟩,.inr ⟨_,trivial,w⟩⟩
    ·obtain rfl:j=b.length:=zO;have ao:=Q.o.1;rw[OT (by have:=A.o;omega)]at ao;gi_wp2
     go_end0
     exact⟨⟨_,rfl⟩,.inl ⟨_,rfl,ao⟩⟩
def KJ(v:Option Addr)(w:World):C 143 #[.pointer v] w λe w'=>e=.returned (.func (.func 177) #[] #[Z w.heap.size 0])/\w.alloc (.cells #[.pointer v] 255)=w':=by
 go_in
 go_wp2;go_ret;exact⟨rfl,rfl⟩
def NJ(hn:1<=n)(Bb p q B tb:Nat)(t:TypeId)(cs:Array Value)(vf vb:Value)(f b:List K2)(w:World)(hBn:Blk w Bb tb #[Z p q])(hR:QAt w p q B t cs vf vb f b)(hfew:(f.reverse++b).length<=100000):
  SeqStopsK Fence.wide n prog 177 #[Z Bb 0] (λx:K2=>#[x.val]) (KpQ (InQ p Bb vf vb)) (λys=>ys=f.reverse++b) (λ_=>True) (f.reverse++b).length w:=λl J a W hW c _ d e=>
 KI n hn l Bb p q B tb t cs vf vb f b _ rfl hfew J a W c d (hBn.later hW) (hR.up hW) e
def GI(p q B:Nat)(t:TypeId)(cs:Array Value)(S:Nat->Prop)(L:List K2)(w:World)(h:dE w p q B t cs S L)(hfew:L.length<=100000):
  C 102 #[Z p q] w λe w'=>∃v,e=.returned v/\aL 2 w w' 58 v L.length (cG L):=by
 obtain⟨m,n,f,b,r,rfl,_⟩:=h.ex;have c:=zh w (.cells #[Z p q] 255);have i:=Blk.A8 w 255 #[Z p q] rfl;have j:=r.up c;have z:=Z1 (KJ (some (Y p q)) w);have d:∀k,InQ p w.heap.size m n k->k<w.heap.size+1:=λk a=>by
  rcases a with a|a
  ·have:=r.lt k a;omega
  ·omega
 have A:=Z1 (xe 177 #[Z w.heap.size 0] (KpQ (InQ p w.heap.size m n)) (λs=>s=f.reverse++b) (λ_=>True) (f.reverse++b).length (w.alloc (.cells #[Z p q] 255)) hfew (enters_of func177 zR rfl) (λh k=>h.trans k)
  (λW l o D F u g G=>⟨el.put d W l o D (by simp at F;omega) u g G,zS⟩) (λW N u g _=>⟨λk a=>g.block k (by have:=d k a;simp;omega),g.size⟩)
  (NJ 2 zP w.heap.size p q B _ t cs m n f b _ (i.alloc _) (j.up (ae (Oy _ _) _)) hfew))
 have H:=Z1 c;clear h r c i j d
 go_in
 go_wp2_with fail;refine z.o.mono ?_;rintro O P ⟨rfl,rfl⟩;go_wp2_with fail;refine A.o.mono ?_;rintro Q R ⟨v,s,rfl,rfl,x⟩;have y:=Z1 x;clear x;go_wp2;go_ret;exact⟨v,rfl,aP y.o.own zS,af H.o y.o.below⟩
def vZ(p q:Nat)(t:TypeId)(cs:Array Value)(S:Nat->Prop)(x:Qm)(w:World)(h:gq w p q t cs S x)(hf:x.E5):
  C 54 #[Z p q] w λe w'=>∃v,e=.returned v/\aL 2 w w' 58 v x.line.length (cG x.line):=by
 have b:=Z1 (GI p q 0 t cs S x.line w h.line (by have:=hf.line;omega));clear h hf
 go_in
 go_wp2_with fail;refine zX b.o λv d a=>?_;have c:=Z1 a;clear a;go_wp2;go_ret;exact⟨v,rfl,c.o⟩
end
end Go.Fw
