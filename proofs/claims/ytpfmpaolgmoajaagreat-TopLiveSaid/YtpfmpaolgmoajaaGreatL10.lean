/- Lemmas of this claim. Conditions: as each says. -/
import Derived.Test.YtpfmpaolgmoajaaGreatL09
import Derived.Shelf.SlMaps.Clone
import Derived.Shelf.SlIter.Nil
import Derived.Shelf.SortM.Plain
import Derived.Shelf.SortM.SortNone
set_option linter.unusedVariables false
set_option linter.unusedSimpArgs false
set_option maxHeartbeats 4000000
set_option maxRecDepth 20000
set_option linter.defProp false
open Go.Proofs.Tryz
namespace Go.Fw
open Go.RowKit open Go.Proofs hiding intOf
variable {w' w2:World}{P:Program}{ks:List K2}{i:ByteArray}{S S':Sto}{m:Mp}{g lb mb n bytes sp wp:Nat}{cs cs':Array Value}{L:Nat->Prop}{x:Cl}{ops:Array Oper}{rest:List Oper}{a:Act}{Q:Exit->Act->World->Prop}{cv z:Value}{A:Option Addr}{xs:List Value}{T:Nat->Tg}(w:World)(sv:Value)(s:ByteArray)(pv:Value)(l:List (Int×Int))(k:K2)(c b:Nat)
def Fu{α β:Type}(f:α->β){a b:List β}(h:a.Perm b):∀l:List α,b=l.map f->∃l':List α,l'.Perm l/\l'.map f=a:=by
 induction h with
 |nil=>intro l e;exact⟨[],by rw[show l=[] by simpa using e.symm],rfl⟩
 |cons x _ ih=>
  intro l e
  cases l with
  |nil=>cases e
  |cons y l=>
   injection e with d c;obtain⟨l',g,i⟩:=ih l c;exact⟨y::l',g.cons y,by rw[Pi,i,d]⟩
 |swap x y l0=>
  intro l e
  cases l with
  |nil=>cases e
  |cons p l=>
   cases l with
   |nil=>simp at e
   |cons q l=>
    simp only[Pi]at e;injection e with d c;injection c with c j;exact⟨q::p::l,List.Perm.swap p q l,by simp only[Pi,<-d,<-c,<-j]⟩
 |trans _ _ ih1 ih2=>
  intro l e;obtain⟨k,g,i⟩:=ih2 l e;obtain⟨m,n,o⟩:=ih1 k i.symm;exact⟨m,n.trans g,o⟩
def Nn(w w':World)(c:Cg)(T:Nat->Tg)(sp:Nat)(v:Value)(tp lb:Nat)(S:Sto)(zs:List (K2×Nd)):Prop:=
 ∃T' cb zsC,zsC.Perm zs/\(∀b,b<w.heap.size->T' b=T b)/\bU w' c T' sp v tp lb ⟨S.rows,S.B9++[some (cb,zsC)],S.over⟩/\ag (λb=>b=sp\/b=tp\/b=lb) w w'
def uW{fn:Func}{s t u:Tmp}(h:fn.results=#[.tmp s,.tmp t,.tmp u])(tmps:Array Value)(w:World):(results fn tmps).run P w=.ok (.tuple #[tmps[s]?.getD undef,tmps[t]?.getD undef,tmps[u]?.getD undef]) w:=by
 simp[results,h]
def CR(c:Cg)(T:Nat->Tg)(sp:Nat)(v:Value)(tp lb:Nat)(S:Sto)(h:bU w c T sp v tp lb S)(hn1:0<S.rows.length)(hn2:S.rows.length<=64)(hl:S.B9.length<=90000)
  (A:Option Addr)(n cap:Nat)(vs:List Value)(parts:List (List Et))(hp:tS w A n vs parts)(zs:List (K2×Nd))(hzs:parts.flatten=zs.map entZ)(hzn:∀z∈zs,bC w c z.2.p z.2.x true λb=>T b=.fz)(hd:cw zs)(hlen:zs.length<=20000)(hn:n<=90000):
  C 307 #[Z sp 0,.slice A n cap] w λe w'=>
   (64<=liveN (dF S.B9)/\e=.returned (.tuple #[I 0,I 0,I 6])/\M w w')\/
   (¬64<=liveN (dF S.B9)/\e=.returned (.tuple #[I ((S.B9.length:Int)+1),I ((S.B9.length:Int)+1),I 0])/\Nn w w' c T sp v tp lb S zs):=by
 have HM:=Z1 (hZ w c T sp v tp lb S h hn1 hn2);have a1:=λW (r:M w W)=>CI W c ((S.B9.length:Int)+1) A n cap vs parts ⟨hp.reads.up r,hp.len,λi hi=>by
  obtain⟨A',c',e1,e2⟩:=hp.each i hi;exact⟨A',c',e1,e2.up r⟩⟩ (λl a2 x hx=>by
   have ad:=Sv.2 ⟨l,a2,hx⟩;rw[hzs]at ad;obtain⟨z,hz,rfl⟩:=Pa.1 ad;exact⟨_,_,(hzn z hz).up r⟩) (by rw[hzs,Pe];omega) hn
 have N:=Z1 a1;have H:=Z4 h hzs hzn hd;have a3:(dF S.B9).length<=90000:=by rw[ir];exact hl
 have ae:=Z1 a3;obtain⟨q,hq⟩:∃q:Int,(S.B9.length:Int)=q:=⟨_,rfl⟩;have bm:0<=q/\q<=90000:=zO;have ah:Hid (IntKind.i64.wrap (q+1)=q+1):=Z1 (by rw[OX];omega);have O:=h.B0;obtain⟨A0,c0,rfl,_,_⟩:=ak h.row;rw[hq]at N O;have HQ:=Z1 hq;have s:=Z1 O;rw[hq];generalize S.rows.length=rn at*
 go_in
 go_wp2_with fail;refine zY HM.o ?_;go_wp2;have hS:=(zi w);refine ay (S:=λV=>Blk V sp 169 #[.slice A0 rn c0,Z tp 0,I q,.bool S.over]) zR (Blk.drew s.o) ?_;by_cases D:64<=liveN (dF S.B9)
 ·have a4:=Z1 D;simp only[zD,zE,Nat.reduceAdd,zG];refine zL ?_;refine zQ 3 _ ?_ (hy:=λW hW=>by have q1:=(hW.cell 1);exact zf);refine zQ 7 _ ?_ (hy:=λW hW=>by have q1:=(hW.cell 2);exact zf);refine zo 10 λK hK=>?_;go_simp;try rw[ah.o]
  refine(N.o _ hS).mono ?_;rintro e w2 ⟨j,v2,ai,rfl,_,_,_,_,_,P⟩;have a:=af hS P;have d:=s.o.later a;refine zJ hK d ?_;refine zo 11 λK hK=>?_;go_simp;refine zY (CO _ tp lb (dF S.B9) (H.o.1.F2.up a) (by have:=ae.o;omega) D j) ?_;have d:=s.o.later a;refine zJ hK d ?_;have F:=Z2 D a;go_wp2;exact OH (uW rfl _ _) rfl (.inl ⟨F.o.1,rfl,F.o.2⟩)
 ·have a4:=Z1 D;simp only[zD,zE,Nat.reduceAdd,zG];refine zL ?_;refine zQ 3 _ ?_ (hy:=λW hW=>by have q1:=(hW.cell 1);exact zf);refine zQ 7 _ ?_ (hy:=λW hW=>by have q1:=(hW.cell 2);exact zf);refine zo 10 λK hK=>?_;go_simp;try rw[ah.o]
  refine(N.o _ hS).mono ?_;rintro e w2 ⟨j,v2,ai,rfl,aj,B,Q,R,t,P⟩;have a:=af hS P;have a7:=Z5 aj B Q R t;have d:=s.o.later a;refine zJ hK d ?_;refine zo 11 λK hK=>?_;go_simp;refine(Fp _ tp lb (dF S.B9) (H.o.1.F2.up a) (by have:=ae.o;omega) D j).mono ?_;rintro e w3 ⟨rfl,a8,al⟩;have u:=H.o.1.ne;have f:=al.B0 (s.o.later a) (by rintro(e|e);exact u.1 e;exact u.2.1 e);have H3:=Z2 a8 al;refine zJ hK f ?_;have c2:=f.cell 2;have f2:=f.frozen 2;simp only[PV,PL,PZ]at c2;have a9:((dF S.B9).length:Int)=q:=by rw[ir];exact HQ.o
  rw[a9];have F:=Z3 D a f;go_wp2;refine OH (uW rfl _ _) rfl (.inr ⟨F.o.1,rfl,?_⟩);have m:=H.o.1;have a:=F.o.2.1;obtain⟨aj,B,Q,R,t⟩:=a7.o;have bn:=a.size;have bo:w.drew.heap.size=w.heap.size:=rfl;rw[H.o.2.1]at B;obtain⟨k,U,X⟩:=Fu entZ B zs rfl;have hK:ag (λb=>b=sp\/b=tp\/b=lb) w (w3.setCell (Y sp 2) (I (q+1))):=((ag.B5 a).trans (H3.o.2.C3 λb e=>.inr e)).setCell (p:=Y sp 2) (.inl (.inl rfl)) _;have hT:∀b,b<w.heap.size->ext T w.heap.size .fz b=T b:=λb r=>br T _ r;have aa:∀b,w.heap.size<=b->¬(b=sp\/b=tp\/b=lb):=by
   rintro b r (rfl|rfl|rfl)
   ·have:=m.B0.lt;omega
   ·have:=m.F2.B0.lt;omega
   ·have:=m.F2.map.lt;omega
  have am:ag (λb=>b=sp\/b=tp\/b=lb) w2 (w3.setCell (Y sp 2) (I (q+1))):=(H3.o.2.C3 λb e=>.inr e).setCell (p:=Y sp 2) (.inl (.inl rfl)) _;refine⟨ext T w.heap.size .fz,j,k,U,hT,?_,hK⟩;have u:=m.ne;refine m.O7 (cs':=S.B9++[some (j,k)]) (o':=S.over) hT hK ?_ ?_ ?_
  ·have:=F.o.2.2.B4 2 (I (q+1));rw[OS,show(((S.B9.length+[some (j,k)].length:Nat):Int))=q+1 by have:=HQ.o;simp;omega];exact this
  ·have e1:dF (S.B9++[some (j,k)])=dF S.B9++[some j]:=by unfold dF;rw[QC];rfl
   rw[e1];exact H3.o.1.B7 (L:=λb=>b=sp) ((ag.refl (λb=>b=sp) w3).setCell (p:=Y sp 2) (.inl rfl) _) (Pc u.1) (Pc u.2.1)
  ·intro i e y;by_cases hi:i<S.B9.length
   ·rw[Pk hi]at y;exact m.J5 hT hK i e y
   ·rw[Ph zO]at y;have an:i=S.B9.length:=by
     by_cases e0:i-S.B9.length=0
     ·omega
     ·rw[Ps zT]at y
      cases y
    rw[an,QY]at y;have ba:e=(j,k):=by simpa using y.symm
    subst ba;have bb:((i:Int)+1)=q+1:=by rw[an];have:=HQ.o;omega
    rw[bb];refine⟨⟨v2,am.B0 R (aa j zO),?_,λg hg=>cC T _ (by have:=(t.lt g hg).1;omega)⟩,cC T _ zO,λz hz=>?_,by rw[X];exact Q,?_⟩
    ·have:=am.C8 t λg hg=>aa g (by have:=(t.lt g hg).1;omega);have h2:=aP this (OK _);have hl:k.length=ai.length:=by rw[<-X,Pe]
     rw[hl,X];exact h2
    ·have bc:=H.o.2.2.1 z (U.mem_iff.1 hz);have hn:=bc.more (G:=λb=>T b=.fz/\b<w.heap.size) λb r e=>⟨e,r⟩;exact(hn.B7 hK λb e e2=>by
      rcases e2 with rfl|rfl|rfl
      ·rw[m.ts]at e;cases e.1
      ·rw[m.tt]at e;cases e.1
      ·rw[m.tl]at e;cases e.1).more λb _ e=>(hT b e.2).trans e.1
    ·exact(U.map _).nodup_iff.2 H.o.2.2.2
def CS{α:Type}(c:Cg)(l:List (K2×α)):∀n:Nat,((List.range n).flatMap λi=>cH c l i).Perm (l.filter λe=>decide (homeN c e.1<n)):=by
 intro n;induction n with
 |zero=>simp
 |succ n ih=>
  rw[Vf,List.flatMap_append,Qy,List.flatMap_nil,PC];refine(ih.append_right _).trans ?_;have h:=List.filter_append_perm (λe:K2×α=>decide (homeN c e.1<n)) (l.filter λe=>decide (homeN c e.1<n+1));have b:(l.filter λe=>decide (homeN c e.1<n+1)).filter (λe=>decide (homeN c e.1<n))=l.filter λe=>decide (homeN c e.1<n):=by
   rw[QZ];refine QK λe _=>?_;by_cases a:homeN c e.1<n
   ·simp[a];omega
   ·simp[a]
  have d:(l.filter λe=>decide (homeN c e.1<n+1)).filter (λe=>!decide (homeN c e.1<n))=cH c l n:=by
   unfold cH;rw[QZ];refine QK λe _=>?_;by_cases a:homeN c e.1=n
   ·simp[a]
   ·by_cases f:homeN c e.1<n
    ·simp[a,f]
    ·have:¬homeN c e.1<n+1:=zO;simp[a,this]
  rwa [b,d]at h
def Fv{α:Type}{c:Cg}(hc:c.ok)(l:List (K2×α)):((List.range c.st).flatMap λi=>cH c l i).Perm l:=by
 refine(CS c l c.st).trans (Rx ?_);rw[QR];intro e _
 simpa using cJ hc e.1
def oz(zs:List (K2×Nd))(k:K2):K2×Nd:=(k,((ap zs k).map Nd.O6).getD ⟨0,.new,true⟩)
def Fx(zs:List (K2×Nd))(k:K2):entZ (oz zs k)=nr zs k:=by
 unfold entZ oz nr
 cases ap zs k<;>rfl
def CT{zs:List (K2×Nd)}(hd:cw zs)(hp:ks.Perm (zs.map (·.1))):(ks.map (oz zs)).Perm (zs.map λz=>(z.1,z.2.O6)):=by
 refine(hp.map (oz zs)).trans (Rx ?_);rw[Px];refine PD λz a=>?_;have:=im hd (x:=z.1) (v:=z.2) a;simp only[Function.comp,oz,this];rfl
def Jj{zs:List (K2×Nd)}(hp:ks.Perm (zs.map (·.1))):zs.map (eZ ks)=zs.map λz=>(z.1,z.2.O6):=by
 refine PD λz a=>?_;have:z.1∈ks:=hp.mem_iff.2 (Pq a);unfold eZ;rw[OB this];rfl
def LQ(zs:List (K2×Nd)):lds (zs.map λz=>(z.1,z.2.O6))=lds zs:=by
 unfold lds;rw[Px];rfl
def dP.P9{c:Cg}{ls:List (K2×Ld)}{i:Nat}{zs zs':List (K2×Nd)}(h:dP c ls i zs)(e:lds zs'=lds zs):dP c ls i zs':=by
 refine⟨λz d=>?_,by rw[e];exact h.part⟩;have g:(z.1,z.2.x)∈lds zs:=by rw[<-e];exact Pq (f:=λz:K2×Nd=>(z.1,z.2.x)) d
 obtain⟨y,j,a⟩:=Pa.1 g;have b:=h.homes y j;rw[(Prod.mk.inj a).1]at b;exact b
structure fI(S S':Sto)(i:Nat):Prop where
 n:S'.rows.length=S.rows.length
 B9:S'.B9=S.B9
 over:S'.over=S.over
 lds:∀(j:Nat) (h:j<S.rows.length) (h':j<S'.rows.length),lds S'.rows[j].zs=lds S.rows[j].zs
 fz:∀(j:Nat) (h:j<S'.rows.length),j<i->∀z∈S'.rows[j].zs,z.2.fz=true
 rest:∀(j:Nat) (h:j<S.rows.length) (h':j<S'.rows.length),i<=j->S'.rows[j]=S.rows[j]
def fI.start(S:Sto):fI S S 0:=⟨rfl,rfl,rfl,λ_ _ _=>rfl,λ_ _ h=>absurd h (Nat.not_lt_zero _),λ_ _ _ _=>rfl⟩
def fN{i j:Nat}{C7:Int}{zs:List (K2×Nd)}(hj:j<S.rows.length)(hj':j<(S.setRow i C7 zs).rows.length):(S.setRow i C7 zs).rows[j]=if i=j then{S.rows[j]with C7:=C7,zs:=zs} else S.rows[j]:=by
 have a:(S.setRow i C7 zs).rows[j]?=some (if i=j then{S.rows[j]with C7:=C7,zs:=zs} else S.rows[j]):=by
  show(S.rows.modify i _)[j]?=_;rw[RV,OL hj];by_cases e:i=j<;>simp[e]
 exact(OZ.1 a).2
def fI.next{i:Nat}(h:fI S S' i)(hi:i<S'.rows.length)(hi2:i<S.rows.length)(C7:Int):fI S (S'.setRow i C7 (S'.rows[i].zs.map λz=>(z.1,z.2.O6))) (i+1):=by
 have d:(S'.setRow i C7 (S'.rows[i].zs.map λz=>(z.1,z.2.O6))).rows.length=S'.rows.length:=QF _ _ _;refine⟨d.trans h.n,h.B9,h.over,λj f b=>?_,λj b g z c=>?_,λj f b k=>?_⟩
 ·have a:j<S'.rows.length:=by rw[<-d];exact b
  rw[fN a b];by_cases e:i=j
  ·subst e;rw[OB rfl];exact(LQ _).trans (h.lds i f a)
  ·rw[Oz e];exact h.lds j f a
 ·have a:j<S'.rows.length:=by rw[<-d];exact b
  rw[fN a b]at c;by_cases e:i=j
  ·subst e;rw[OB rfl]at c;obtain⟨y,_,rfl⟩:=Pa.1 c;rfl
  ·rw[Oz e]at c;exact h.fz j a zO z c
 ·have a:j<S'.rows.length:=by rw[<-d];exact b
  rw[fN a b,Oz zO];exact h.rest j f a zO
def fI.rel{c:Cg}{i:Nat}(h:fI S S' i)(hr:et c S m):et c S' m:=by
 refine⟨h.n.trans hr.n,λj b=>?_,hr.D7,hr.O2,hr.C6,hr.E5,h.over▸hr.over,h.B9▸hr.G8,λj=>h.B9▸hr.cut j⟩;have a:j<S.rows.length:=by rw[<-h.n];exact b
 exact(hr.row j a).P9 (h.lds j a b)
def Jk:cE prog 403 170 (.slice none 0 0) 1 24:=⟨underlying403,zR,rfl⟩
structure lW(w wr:World)(T:Nat->Tg)(S':Sto)(i:Nat)(vs:List Value)(zps:List (List (K2×Nd))):Prop where
 lv:vs.length=i
 lz:zps.length=i
 perm:∀(j:Nat) (h:j<zps.length) (h':j<S'.rows.length),(zps[j]).Perm S'.rows[j].zs
 row:∀(j:Nat) (h:j<vs.length) (h':j<zps.length),wr.ownsRow w.heap.size 224 3 vs[j] (zps[j]).length (ents ((zps[j]).map entZ))
 free:∀(j:Nat) (h:j<vs.length),∀g,(vs[j]).ownBlock=some g->T g=.free
def tU(w wr:World)(c:Cg)(T:Nat->Tg)(sp:Nat)(v:Value)(tp lb:Nat)(S:Sto)(ov:Value)(i:Nat):Prop:=
 ∃T' S' vs zps,aW T T' w.heap.size/\bU wr c T' sp v tp lb S'/\fI S S' i/\lW w wr T' S' i vs zps/\wr.ownsRow w.heap.size 170 1 ov i vs/\(∀g,ov.ownBlock=some g->T' g=.free)/\ag (λb=>eE (T b)) w wr
section
variable {w wr w1 w2:World} {c:Cg} {T T':Nat→Tg} {sp:Nat} {v:Value} {tp lb:Nat} {S S':Sto} {ov:Value} {i:Nat} {vs vs0:List Value} {j:Nat} {zps:List (List (K2×Nd))}
def Au(hh:∀j (h:j<S'.rows.length),∀z∈S'.rows[j].zs,homeN c z.1=j)(hT:aW T T' w.heap.size)(hS:bU wr c T' sp v tp lb S')(hR:fI S S' i)(hP:lW w wr T' S' i vs zps)(hov:wr.ownsRow w.heap.size 170 1 ov i vs)(hof:∀g,ov.ownBlock=some g->T' g=.free)
  (hK:ag (λb=>eE (T b)) w wr)(hi:i<S'.rows.length)(hi2:i<S.rows.length){v1:Value}(hp:ks.Perm (S'.rows[i].zs.map (·.1)))(hF:jS wr w1 c T' i S'.rows[i].p S'.rows[i].mb S'.rows[i].C7 S'.rows[i].zs ks ks.length)
  (hv1:w1.ownsRow wr.heap.size 224 3 v1 ks.length (ents (ks.map (nr S'.rows[i].zs)))):
  ∃T2 S2,aW T T2 w.heap.size/\bU w1 c T2 sp v tp lb S2/\fI S S2 (i+1)/\lW w w1 T2 S2 (i+1) (vs++[v1]) (zps++[ks.map (oz S'.rows[i].zs)])/\w1.ownsRow w.heap.size 170 1 ov i vs/\(∀g,ov.ownBlock=some g->T2 g=.free)/\(∀b,wr.heap.size<=b->T2 b=.free)/\ag (λb=>eE (T b)) w w1:=by
 have H:=hK.size;have B:=hS.F1 i hi;have y:=hF.K7;rw[PO,Jj hp]at y;have n:∀b,b<wr.heap.size->gr T' wr.heap.size ks b=T' b\/∃k,homeN c k=i/\T' b=.nd k/\gr T' wr.heap.size ks b=.fz:=λb l=>by
  by_cases m:∃k,T' b=.nd k
  ·obtain⟨k,m⟩:=m;rw[gZ T' ks l m,m];by_cases o:k∈ks
   ·rw[OB o];obtain⟨z,D,rfl⟩:=Pa.1 (hp.mem_iff.1 o);exact .inr ⟨_,hh i hi z D,rfl,rfl⟩
   ·rw[Oz o];exact .inl rfl
  ·exact .inl (eq T' ks l λk e=>m ⟨k,e⟩)
 have L:ag (λb=>T' b=.st i\/∃k,homeN c k=i/\T' b=.nd k) wr w1:=hF.B7.C3 λb e=>by
  obtain⟨k,m,e⟩:=e;obtain⟨z,D,rfl⟩:=Pa.1 m;exact .inr ⟨_,hh i hi z D,e⟩
 have F:=hS.one hh hi y n L;have q:∀g,T' g=.free->¬∃k∈S'.rows[i].zs.map (·.1),T' g=.nd k:=λg e=>by
  rintro⟨k,_,d⟩;rw[e]at d;cases d
 have N:aW T (gr T' wr.heap.size ks) w.heap.size:=λb l=>by
  rcases hT b l with e|⟨k,R,d⟩
  ·rcases n b zO with f|⟨k,_,x,O⟩
   ·exact .inl (f.trans e)
   ·exact .inr ⟨k,e▸x,O⟩
  ·rcases n b zO with f|⟨k',_,x,O⟩
   ·exact .inr ⟨k,R,f.trans d⟩
   ·rw[d]at x;cases x
 have P:ag (λb=>eE (T b)) w w1:=bL hK hF.B7 λb l e=>by
  obtain⟨k,_,e⟩:=e;exact hT.st l (by rw[e];trivial)
 have Q:(S'.setRow i S'.rows[i].C7 (S'.rows[i].zs.map λz=>(z.1,z.2.O6))).rows.length=S'.rows.length:=QF _ _ _;have G:∀g,ov.ownBlock=some g->¬∃k∈S'.rows[i].zs.map (·.1),T' g=.nd k:=λg a=>q g (hof g a);refine⟨_,_,N,F,hR.next hi hi2 _,⟨by rw[OS,hP.lv];rfl,by rw[OS,hP.lz];rfl,λj r s=>?_,λj r s=>?_,λj r g a=>?_⟩,hF.B7.C8 hov G,λg a=>?_,λb l=>mr T' ks l,P⟩
 ·have A:j<S'.rows.length:=by rw[<-Q];exact s
  rw[fN A s];by_cases e:j<zps.length
  ·rw[PK e,Oz (by have:=hP.lz;omega)];exact hP.perm j e A
  ·have t:j=i:=by simp at r;have:=hP.lz;omega
   subst t;rw[Qi zO,OB rfl];simp only[hP.lz,QY,QW];exact CT B.at_.D7 hp
 ·by_cases e:j<vs.length
  ·have d:j<zps.length:=by have:=hP.lv;have:=hP.lz;omega
   rw[PK e,PK d];exact hF.B7.C8 (hP.row j e d) λg a=>q g (hP.free j e g a)
  ·have t:j=i:=by simp at r;have:=hP.lv;omega
   subst t;rw[Qi zO,Qi (by have:=hP.lz;omega)];simp only[hP.lv,hP.lz,QY,QW,Pe,Px];have U:(ks.map (entZ ∘ oz S'.rows[j].zs))=ks.map (nr S'.rows[j].zs):=PD λk _=>Fx _ k;rw[U];exact aP hv1 H
 ·by_cases e:j<vs.length
  ·rw[PK e]at a;have u:=hP.free j e g a;have d:j<zps.length:=by have:=hP.lv;have:=hP.lz;omega
   have X:=((hP.row j e d).lt g a).2;rw[eq T' ks X (by rw[u];intro k e;cases e),u]
  ·rw[Qi zO]at a;have:j-vs.length=0:=by simp at r;omega
   simp only[this,QW]at a;exact mr T' ks (hv1.lt g a).1
 ·have u:=hof g a;rw[eq T' ks (hov.lt g a).2 (by rw[u];intro k e;cases e),u]
def Fy(hT:aW T T' w.heap.size)(hS:bU wr c T' sp v tp lb S')(hR:fI S S' i)(hP:lW w wr T' S' i vs zps)(hK:ag (λb=>eE (T b)) w wr)(hov:wr.ownsRow w.heap.size 170 1 ov j vs0)(hof:∀g,ov.ownBlock=some g->T' g=.free)
  (hfr:∀b,wr.heap.size<=b->T' b=.free){ov':Value}(hg:wr.grownBy w1 ov.ownBlock)(ho':w1.ownsRow w.heap.size 170 1 ov' i vs)(hsame:ov'.ownBlock=ov.ownBlock\/∀k,ov'.ownBlock=some k->wr.heap.size<=k):tU w w1 c T sp v tp lb S ov' i:=by
 have a:=dl (ag.refl _ wr) hg (λ_ h=>h) λ_ h=>h;have o:∀b,T' b≠.free->¬ov.ownBlock=some b:=λb e n=>e (hof b n);refine⟨T',S',vs,zps,hT,?_,hR,⟨hP.lv,hP.lz,hP.perm,λq l m=>?_,hP.free⟩,ho',λg f=>?_,bL hK a λb r e=>by have:=(hov.lt b e).1;omega⟩
 ·have d:∀b,(eE (T' b)\/T' b=.fz)->¬ov.ownBlock=some b:=λb e=>o b (by rintro n;rw[n]at e;rcases e with e|e;exact e;cases e);refine⟨a.B0 hS.B0 (d _ (.inl (by rw[hS.ts];trivial))),a.C8 hS.row λg hg=>d _ (.inl (by rw[hS.tr g hg];trivial)),hS.F2.B7 a (d _ (.inl (by rw[hS.tt];trivial))) (d _ (.inl (by rw[hS.tl];trivial))),hS.ts,hS.tt,hS.tl,hS.tr,λq l=>?_,λq e p=>?_⟩
  ·exact(hS.F1 q l).B7 a (λb e=>d b (.inl (by rw[e];trivial))) λz s b e=>d b (by
    rw[e];unfold Nd.tag;split
    ·exact .inr rfl
    ·exact .inl trivial)
  ·exact(hS.B9 q e p).B7 a λb e=>d b (.inr e)
 ·refine a.C8 (hP.row q l m) λg f=>?_;intro e;have:=uP (hP.row q l m) hov zP g f;exact this e.symm
 ·rcases hsame with e|e
  ·exact hof g (e▸f)
  ·exact hfr g (e g f)
end
def fa(m:Mp):Rp:=if 64<=liveN m.B9 then .of 6 else⟨0,m.B9.length+1,m.B9.length+1,.zero,az⟩
def iK(m:Mp):Mp:=if 64<=liveN m.B9 then m else{m with B9:=m.B9++[some m.ls]}
section
variable {w w' W:World} {c:Cg} {T T':Nat→Tg} {sp:Nat} {v:Value} {tp lb:Nat} {S:Sto} {m:Mp} {n:Nat}
def bU.R3(h:bU w c T sp v tp lb S)(hT:∀b,b<w.heap.size->T' b=T b):bU w c T' sp v tp lb S:=
 h.O7 (cs':=S.B9) (o':=S.over) hT (ag.refl _ w) h.B0 h.F2 λi e a=>h.J5 hT (ag.refl _ w) i e a
def eH.free(h:eH w c T sp m)(hb:M w W):eH W c (ext T w.heap.size .free) sp m:=by
 obtain⟨v,a,d,S,e,f⟩:=h;exact⟨v,a,d,S,(e.R3 λb hb=>br T _ hb).up hb,f⟩
def dJ.box(h:dJ W w' c (ext T w.heap.size .free) sp m){t:TypeId}(hb:Blk W g t cs)(hg:w.heap.size<=g):Blk w' g t cs:=by
 obtain⟨b,d,f,a⟩:=h;refine a.B0 hb λe=>?_;rw[cC T _ hg]at e;exact e
def bU.N8(h:bU w c T sp v tp lb S)(hK:ag L w w')(hL:∀b,L b->¬eE (T b)/\T b≠.fz):bU w' c T sp v tp lb S:=by
 have a:∀b,(eE (T b)\/T b=.fz)->¬L b:=λb e d=>e.elim (hL b d).1 (hL b d).2;refine⟨hK.B0 h.B0 (a _ (.inl (by rw[h.ts];trivial))),hK.C8 h.row λg f=>a _ (.inl (by rw[h.tr g f];trivial)),h.F2.B7 hK (a _ (.inl (by rw[h.tt];trivial))) (a _ (.inl (by rw[h.tl];trivial))),h.ts,h.tt,h.tl,h.tr,λq i=>?_,λq e j=>?_⟩
 ·exact(h.F1 q i).B7 hK (λb e=>a b (.inl (by rw[e];trivial))) λz k b e=>a b (by
   rw[e];unfold Nd.tag;split
   ·exact .inr rfl
   ·exact .inl trivial)
 ·exact(h.B9 q e j).B7 hK λb e=>a b (.inr e)
def dJ.D4(h:dJ W w2 c (ext T w.heap.size .free) sp m)(hb:M w W)(hO:aI g w2 w')(hg:w.heap.size<=g)(hgW:g<W.heap.size):dJ w w' c T sp m:=by
 obtain⟨d,f,⟨v,i,j,S,l,n⟩,o⟩:=h;have p:d g=.free:=by
  rcases f g hgW with e|⟨k,e,_⟩
  ·rw[e,cC T _ hg]
  ·rw[cC T _ hg]at e;cases e
 have q:=hb.size;refine⟨d,λb a=>?_,⟨v,i,j,S,l.N8 hO.B7 λb e=>by rw[e,p];exact⟨id,by intro e;cases e⟩,n⟩,?_⟩
 ·have:=f b zO
  rwa [br T _ a]at this
 ·refine bL (bL (ag.B5 hb) o λb a e=>by rwa [br T _ a]at e) hO.B7 λb a e=>?_;omega
def nO{c:Cg}(hc:c.ok){S:Sto}{m:Mp}(h:et c S m)(i:Nat)(hi:i<S.rows.length):S.rows[i].zs.length<=256:=by
 have a:=(h.row i hi).length;have b:=h.E5 i;have d:=(Cg.small hc).2.2.2.2.2.1;omega
def CU{α:Type}{ls:List (List α)}{n:Nat}(h:∀l∈ls,l.length<=n):ls.flatten.length<=ls.length*n:=by
 induction ls with
 |nil=>simp
 |cons a r ih=>
  rw[Sm,OS,OC,Qj];have c:=h a zS;have d:=ih λl b=>h l (by simp[b]);omega
end
def lW.parts{w wr:World}{T:Nat->Tg}{S':Sto}{n:Nat}{vs:List Value}{zps:List (List (K2×Nd))}(h:lW w wr T S' n vs zps){A:Option Addr}{c:Nat}(ho:wr.ownsRow w.heap.size 170 1 (.slice A n c) n vs):tS wr A n vs (zps.map λl=>l.map entZ):=by
 refine⟨an.C4 ho,by rw[Pe,h.lz],λi f=>?_⟩;have d:i<zps.length:=by simpa using f
 have a:i<vs.length:=by have:=h.lv;have:=h.lz;omega
 have b:=h.row i a d;obtain⟨g,j,e,_,_⟩:=ak b;refine⟨g,j,?_,?_⟩
 ·rw[OL a,e];simp
 ·rw[e]at b;have:=an.C4 b
  simpa using this
def Fz{c:Cg}{ls:List (K2×Ld)}(hd:cw ls){rows:List Sr}{zps:List (List (K2×Nd))}(hr:∀i (h:i<rows.length),dP c ls i rows[i].zs)(hl:zps.length=rows.length)(hp:∀(j:Nat) (h:j<zps.length) (h':j<rows.length),(zps[j]).Perm rows[j].zs):
  (lds zps.flatten).Perm ((List.range rows.length).flatMap λi=>cH c ls i):=by
 have g:lds zps.flatten=(zps.map lds).flatten:=by unfold lds;rw[List.map_flatten]
 have k:(zps.map lds)=(List.range rows.length).map λi=>lds (zps.getD i []):=by
  refine Vh (by simp[hl]) λi m n=>?_;have:i<zps.length:=by simpa using m
  simp[List.getD,this]
 rw[g,k,<-List.flatMap_def];have:∀l:List Nat,(∀i∈l,i<rows.length)->(l.flatMap λi=>lds (zps.getD i [])).Perm (l.flatMap λi=>cH c ls i):=by
  intro l;induction l with
  |nil=>intro _;exact List.Perm.refl _
  |cons a l ih=>
   intro h;rw[Qy,Qy];refine List.Perm.append ?_ (ih λi d=>h i (by simp[d]));have f:=h a zS;have b:a<zps.length:=zO;have e:zps.getD a []=zps[a]:=by simp[List.getD,b]
   rw[e];exact((hp a b f).map _).trans (hr a f).part.symm
 exact this _ λi d=>Sg.1 d
def Aw(w:World)(c:Cg)(hc:c.ok)(T:Nat->Tg)(sp:Nat)(m:Mp)(h:eH w c T sp m)(hl:m.B9.length<=90000):
  C 289 #[Z sp 0] w λe w'=>e=.returned (fa m).val/\dJ w w' c T sp (iK m):=by
 have hs:=Cg.small hc;have ai:=zh w (.cells Rp.zero.arr 77);have hy:=Blk.A8 w 77 Rp.zero.arr rfl;have h0:=h.free ai;obtain⟨v,tp,lb,S,hS,hr⟩:=h0;obtain⟨n,hn⟩:∃n,n=S.rows.length:=⟨_,rfl⟩;have cp:1<=n/\n<=64:=by have:=hr.n;omega
 have ao:tU (w.alloc (.cells Rp.zero.arr 77)) (w.alloc (.cells Rp.zero.arr 77)) c (ext T w.heap.size .free) sp v tp lb S (.slice none 0 0) 0:=
  ⟨_,S,[],[],aW.refl _ _,hS,fI.start S,⟨rfl,rfl,λj h=>by simp at h,λj h=>by simp at h,λj h=>by simp at h⟩,Pn _ _ _ _,λg hg=>by simp[Value.ownBlock]at hg,ag.refl _ _⟩
 have ab:=Z1 ao;obtain⟨Av,cv,rfl,_,_⟩:=ak hS.row;have c0:=hS.B0.cell 0;rw[<-hn]at c0 ab;have H:=Z7 hS hr hn ai hy hl hc;simp only[Rp.zero,Rp.arr,St.zero,az]at*;simp only[PV,PZ]at c0;clear h hS hr hn ao hy hl hs hc
 go_in
 go_wp2;generalize N:w.heap.size=v9 at*;generalize (w.alloc (.cells #[I 0,I 0,I 0,I 0,I 0,I 0,I 0,I 0,I 0,I 0,I 0,I 0,I 0] 77))=W at*;have bb:=Z1 N;clear N ai c0;go_loopw [3,14] (λov iv wr=>∃(i:Nat),i<=n/\iv=I i/\Hid (tU W wr c (ext T v9 .free) sp (.slice Av n cv) tp lb S ov i)) (λ_ iv _=>n-(intOf iv).toNat)
 case atStart=>exact⟨0,OK _,rfl,ab⟩
 case round=>
  clear ab;obtain⟨i,hi,rfl,HI⟩:=hrel;obtain⟨T',k,vs,F,A,d,P,s,y,O,hK⟩:=HI.o;have a:=P.rel H.o.2.1;have ap:Hid (n=k.rows.length):=Z1 (by rw[P.n];exact H.o.2.2.1);obtain⟨Ao,co,rfl,_,_⟩:=ak y;by_cases b0:i<n
  ·have ah:i<k.rows.length:=by have:=ap.o;omega
   have b1:i<S.rows.length:=by have:=H.o.2.2.1;omega
   have aq:=d.row;rw[<-ap.o]at aq;obtain⟨ad,u,rfl,_,hu,c6⟩:=(an.C4 aq).at_ b0;have b2:u=Z (k.rows[i].p) 0:=by
    unfold gK at hu;rw[Pz,OL ah]at hu
    simpa using hu.symm
   subst b2;have HF:=Z1 (Am wr c T' i k.rows[i].p k.rows[i].mb k.rows[i].C7 k.rows[i].zs (d.F1 i ah) (by have:=nO H.o.2.2.2.2.2.2 a i ah;omega));have HH:=Z7 A d P s y O hK;have HL:=Z3 ah b1 a;clear A d P s y O hK aq hu;go_wp2_with fail;refine HF.o.mono ?_;rintro e w1 ⟨ks,v1,hp,rfl,hF,ar⟩;obtain⟨A,d,P,s,y,O,hK⟩:=HH.o;have b4:=Au (λj h z f=>(HL.o.2.2.row j h).homes z f) A d P s y O hK HL.o.1 HL.o.2.1 hp hF ar;obtain⟨A1,c1,rfl,_,_⟩:=ak ar;obtain⟨T2,S2,k1,k2,k3,k4,k5,k6,k7,k8⟩:=b4;have L:=Z9 k1 k2 k3 k4 k5 k6 k7 k8 hF.B7.size;have cc:=k8.size;clear A d P s y O hK hp hF ar k1 k2 k3 k4 k5 k6 k7 k8
   go_wp2_with (at_builtin;refine d9 (w:=w1) (v:=.slice Ao i co) (n:=i) (xs:=vs) (B:=W.heap.size) Jk zP rfl (.tmp 18) (.tmp 21) rfl zF L.o.2.2.2.2.1 cc rfl zF rfl zV zO zU ?_;intro v' w' av bc bd;obtain⟨A3,k3,rfl,_,_⟩:=ak av;have cd:=Z1 (Fy L.o.1 L.o.2.1 L.o.2.2.1 L.o.2.2.2.1 L.o.2.2.2.2.2.2.2.1 L.o.2.2.2.2.1 L.o.2.2.2.2.2.1 (λb hb=>L.o.2.2.2.2.2.2.1 b (by have:=L.o.2.2.2.2.2.2.2.2;omega)) bc av bd);clear av bc bd)
   go_roundw
   case rel=>exact⟨i+1,zO,by go_num,cd⟩
   case measure=>simp[intOf];omega
  ·obtain rfl:i=n:=zO;have ce:=ap.o;have be:=s.parts y;have cf:=H.o.2.2.1;have bf:∀l∈F,l.length<=256:=λl aw=>by
    obtain⟨j,t,rfl⟩:=PJ aw;have R:j<k.rows.length:=by have:=s.lz;omega
    rw[(s.perm j t R).length_eq];exact nO H.o.2.2.2.2.2.2 a j R
   have U:F.flatten.length<=20000:=by
    have Q:=CU bf;have h2:=s.lz;omega
   have ax:=Fz a.D7 (λj t=>a.row j t) (by have:=s.lz;omega) s.perm;have bg:=a.n;rw[bg]at ax;have G:=ax.trans (Fv H.o.2.2.2.2.2.2 m.ls);have ac:∀z∈F.flatten,∃(j:Nat) (h:j<k.rows.length),z∈k.rows[j].zs:=λz f=>by
    obtain⟨l,aw,f⟩:=Sv.1 f;obtain⟨j,t,rfl⟩:=PJ aw;have R:j<k.rows.length:=by have:=s.lz;omega
    exact⟨j,R,(s.perm j t R).mem_iff.1 f⟩
   have X:∀z∈F.flatten,bC wr c z.2.p z.2.x true (λb=>T' b=.fz):=λz f=>by
    obtain⟨j,t,f⟩:=ac z f;have Q:=(d.F1 j t).nodes z f;have h2:=P.fz j t zO z f;rw[h2]at Q;have h3:z.2.tag z.1=.fz:=by unfold Nd.tag;rw[OB h2]
    rw[h3]at Q;exact Q
   have D:∀z∈F.flatten,z.2.x.C6 c:=λz f=>by
    obtain⟨j,t,f⟩:=ac z f;exact(a.row j t).C6 a.C6 z f
   have bh:cw F.flatten:=by
    have Q:=(G.map _).nodup_iff.2 a.D7;unfold cw lds at Q;rw[Px]at Q;exact Q
   have ae:=CR wr c T' sp _ tp lb k d zO zO (by have Q:=a.G8;have h2:=H.o.2.2.2.2.2.1;omega) Ao i co vs _ be F.flatten (by rw[List.map_flatten]) X bh U zO;have bi:liveN (dF k.B9)=liveN m.B9:=a.liveN;rw[bi,a.G8]at ae;have ay:=Z1 ae;have HH:=Z7 A d hK a G D U;clear be bf U ax bg G ac X D bh ae bi A d P s y O hK a cf ce;obtain⟨q,hq⟩:∃q:Int,(m.B9.length:Int)+1=q:=⟨_,rfl⟩;rw[hq]at ay;have HQ:=Z1 hq;clear hq;go_wp2_with fail;refine ay.o.mono ?_;rintro e w2 (⟨hf,rfl,a0⟩|⟨hf,rfl,bj⟩)
   ·have HX:Hid (fa m=.of 6/\iK m=m):=Z1 (by unfold fa iK;rw[OB hf,OB hf];exact⟨rfl,rfl⟩);have r:dJ W w2 c (ext T v9 .free) sp m:=by
     obtain⟨A,d,hK,a,_⟩:=HH.o;exact⟨T',A,⟨_,tp,lb,k,d.up a0,a⟩,hK.trans (ag.B5 a0)⟩
    have N:=bb.o;subst N;have aa:=r.box H.o.2.2.2.2.1 (OA _);have HN:=Z2 r aa;clear hf a0 r aa
    go_wp2_with (refine zj aA HN.o.2 ?_;intro w6 a3 a4)
    refine OH (au aA rfl a3 rfl _ rfl) rfl ⟨by rw[HX.o.1];rfl,?_⟩;rw[HX.o.2];exact HN.o.1.D4 H.o.2.2.2.1 a4 (OA _) H.o.2.2.2.2.1.lt
   ·have HX:Hid (fa m=⟨0,m.B9.length+1,m.B9.length+1,.zero,az⟩/\iK m={m with B9:=m.B9++[some m.ls]}):=Z1 (by unfold fa iK;rw[Oz hf,Oz hf];exact⟨rfl,rfl⟩);have r:dJ W w2 c (ext T v9 .free) sp {m with B9:=m.B9++[some m.ls]}:=by
     obtain⟨A,d,hK,a,G,D,U⟩:=HH.o;obtain⟨T3,cb,ch,a5,ci,cj,ck⟩:=bj;refine⟨T3,A.trans (λb hb=>.inl (ci b hb)) hK.size,⟨_,tp,lb,_,cj,?_⟩,bL hK (d.J7 ck) λb hb e=>A.st hb e⟩;refine⟨a.n,a.row,a.D7,a.O2,a.C6,a.E5,a.over,by simp[a.G8],λj=>?_⟩;by_cases t:j<k.B9.length
     ·have bk:j<m.B9.length:=by rw[<-a.G8];exact t
      rw[Pk t,Pk bk];exact a.cut j
     ·have bk:¬j<m.B9.length:=by rw[<-a.G8];exact t
      rw[Ph zO,Ph zO,a.G8];by_cases cl:j-m.B9.length=0
      ·rw[cl]
       left
       exact⟨(cb,ch),m.ls,rfl,rfl,⟨(a5.map _).trans G,λz f=>D z (a5.mem_iff.1 f),by rw[a5.length_eq];exact U⟩⟩
      ·right;right
       exact⟨Ps zT,Ps zT⟩
    have N:=bb.o;subst N;have aa:=r.box H.o.2.2.2.2.1 (OA _);have HN:=Z2 r aa;clear hf bj r aa
    go_wp2_with (refine zj aA HN.o.2 ?_;intro w6 a3 a4)
    refine OH (au aA rfl a3 rfl _ rfl) rfl ⟨by rw[HX.o.1];have:=HQ.o;subst this;rfl,?_⟩;rw[HX.o.2];exact HN.o.1.D4 H.o.2.2.2.1 a4 (OA _) H.o.2.2.2.2.1.lt
section
variable {w w':World} {c:Cg} {T:Nat→Tg} {sp:Nat} {v:Value} {tp lb:Nat} {S:Sto} {m:Mp} {k:K2}
def sI{zs:List (K2×Nd)}(hf:∀z∈zs,z.2.x.C6 c)(k:K2):(iU zs k).C6 c:=by
 unfold iU
 cases h:ap zs k with
 |none=>exact lq c
 |some z=>exact hf _ (bR h)
def xy(hr:et c S m)(hc:c.ok)(k:K2)(hi:homeN c k<S.rows.length):(kO c S.rows[homeN c k].zs k->dR c m k=none)/\(¬kO c S.rows[homeN c k].zs k->dR c m k=some (iU S.rows[homeN c k].zs k)):=by
 have a:=hr.row _ hi;have b:=a.get hr.D7;have d:=a.length;unfold dR iU kO;rw[b,Jc hc,d]
 cases h:ap S.rows[homeN c k].zs k with
 |none=>
  simp only[QH,true_and,QV];exact⟨λh=>by rw[OB h],λh=>by rw[Oz h]⟩
 |some z=>simp
def bU.put(hS:bU w c T sp v tp lb S)(hr:et c S m)(hc:c.ok)(hk:k.ok)(hi:homeN c k<S.rows.length){x':Ld}(hx:x'.C6 c)(hfull:¬kO c S.rows[homeN c k].zs k)
  (hN:nJ w w' c T (homeN c k) S.rows[homeN c k].p S.rows[homeN c k].mb S.rows[homeN c k].zs k x'):dJ w w' c T sp {m with ls:=aR m.ls k x'}:=by
 obtain⟨D,o,u,x,q,hK⟩:=hN;have a:=hr.row _ hi;have g:ag (λb=>T b=.st (homeN c k)\/∃r,homeN c r=homeN c k/\T b=.nd r) w w':=hK.C3 λb e=>e.imp id λe=>⟨k,rfl,e⟩;have s:=hS.one (λj h z F=>(hr.row j h).homes z F) hi q (λb t=>.inl (x b t)) g;refine⟨D,λb t=>.inl (x b t),⟨v,tp,lb,_,s,?_⟩,g.C3 λb e=>?_⟩
 ·have y:(S.setRow (homeN c k) o (aR S.rows[homeN c k].zs k ⟨u,x',false⟩)).rows.length=S.rows.length:=QF _ _ _;refine⟨y.trans hr.n,λj A=>?_,wQ hr.D7 k x',λe d=>?_,λe d=>?_,λi=>?_,hr.over,hr.G8,hr.cut⟩
  ·have l:j<S.rows.length:=by rw[<-y];exact A
   rw[fN l A];by_cases e:homeN c k=j
   ·subst e;rw[OB rfl];exact a.put hr.D7 (hS.F1 _ hi).at_.D7 ⟨u,x',false⟩
   ·rw[Oz e];exact(hr.row j l).K8 hr.D7 (Pc e) x'
  ·rcases kt hr.D7 d with rfl|⟨d,_⟩
   ·exact hk
   ·exact hr.O2 e d
  ·rcases kt hr.D7 d with rfl|⟨d,_⟩
   ·exact hx
   ·exact hr.C6 e d
  ·by_cases e:i=homeN c k
   ·subst e;rw[(xu c hr.D7 k x').length_eq,lM,uQ];have G:=a.get hr.D7;have H:=a.length;split
    ·exact hr.E5 _
    ·rename_i f;have B:ap S.rows[homeN c k].zs k=none:=by
      rw[G]at f
      cases h:ap S.rows[homeN c k].zs k with
      |none=>rfl
      |some z=>rw[h]at f;exact absurd rfl f
     have:¬c.lo<=S.rows[homeN c k].zs.length:=λh=>hfull ⟨B,h⟩;show(cH c m.ls (homeN c k)).length+1<=c.lo;omega
   ·rw[(xw c hr.D7 k x' e).length_eq];exact hr.E5 i
 ·rcases e with e|⟨r,_,e⟩<;>rw[e]<;>trivial
end
def ij(t:Int)(l:List (K2×Ld)):List (K2×Ld):=l.map λe=>(e.1,eP t e.2)
def qP(c:Cg)(t:Int)(l:List (K2×Ld))(i:Nat):cH c (ij t l) i=ij t (cH c l i):=by
 unfold cH ij;rw[Rk];rfl
def dP.trim{c:Cg}{ls:List (K2×Ld)}{i:Nat}{zs zs':List (K2×Nd)}(h:dP c ls i zs)(t:Int)(e:lds zs'=ij t (lds zs)):dP c (ij t ls) i zs':=by
 refine⟨λz j=>?_,?_⟩
 ·have a:(z.1,z.2.x)∈lds zs':=Pq (f:=λz:K2×Nd=>(z.1,z.2.x)) j;rw[e]at a;obtain⟨y,k,b⟩:=Pa.1 a;obtain⟨u,l,d⟩:=Pa.1 k;have g:=h.homes u l;have m:u.1=z.1:=by rw[<-(Prod.mk.inj b).1,<-d]
  rw[m]at g;exact g
 ·rw[qP,e];exact h.part.map _
structure gt(w wr:World)(c:Cg)(T T':Nat->Tg)(sp:Nat)(v:Value)(tp lb:Nat)(S S':Sto)(t:Int)(i:Nat):Prop where
 agree:∀b,b<w.heap.size->T' b=T b
 G3:bU wr c T' sp v tp lb S'
 n:S'.rows.length=S.rows.length
 B9:S'.B9=S.B9
 over:S'.over=S.over
 done:∀(j:Nat) (h:j<S.rows.length) (h':j<S'.rows.length),j<i->lds S'.rows[j].zs=ij t (lds S.rows[j].zs)
 rest:∀(j:Nat) (h:j<S.rows.length) (h':j<S'.rows.length),i<=j->S'.rows[j]=S.rows[j]
 B7:ag (λb=>eE (T b)) w wr
section
variable {w wr w':World} {c:Cg} {T T':Nat→Tg} {sp:Nat} {v:Value} {tp lb:Nat} {S S':Sto} {m:Mp} {t:Int} {i:Nat}
def gt.start(h:bU w c T sp v tp lb S):gt w w c T T sp v tp lb S S t 0:=⟨λ_ _=>rfl,h,rfl,rfl,rfl,λ_ _ _ h=>absurd h (Nat.not_lt_zero _),λ_ _ _ _=>rfl,ag.refl _ _⟩
def gt.row(h:gt w wr c T T' sp v tp lb S S' t i)(hr:et c S m)(j:Nat)(hj:j<S'.rows.length)(hj2:j<S.rows.length):dP c (if j<i then ij t m.ls else m.ls) j S'.rows[j].zs:=by
 by_cases a:j<i
 ·rw[OB a];exact(hr.row j hj2).trim t (h.done j hj2 hj a)
 ·rw[Oz a,h.rest j hj2 hj zO];exact hr.row j hj2
def gt.next(h:gt w wr c T T' sp v tp lb S S' t i)(hr:et c S m)(hi:i<S'.rows.length)(hi2:i<S.rows.length)(hd:ou wr w' c T' i S'.rows[i].p S'.rows[i].mb S'.rows[i].zs t):∃T2 S2,gt w w' c T T2 sp v tp lb S S2 t (i+1):=by
 obtain⟨T2,o,l,u,y,A,H,B⟩:=hd;have L:=h.B7.size;have x:∀j (d:j<S'.rows.length),∀z∈S'.rows[j].zs,homeN c z.1=j:=λj d z q=>(h.row hr j d (by rw[<-h.n];exact d)).homes z q;have hK:ag (λb=>T' b=.st i\/∃k,homeN c k=i/\T' b=.nd k) wr w':=B.C3 λb e=>by
  rcases e with e|⟨k,D,e⟩
  ·exact .inl e
  ·obtain⟨z,q,rfl⟩:=Pa.1 D;exact .inr ⟨_,x i hi z q,e⟩
 have r:=h.G3.one x hi y (λb g=>.inl (u b g)) hK;have s:(S'.setRow i o l).rows.length=S'.rows.length:=QF _ _ _;refine⟨T2,_,λb g=>(u b zO).trans (h.agree b g),r,s.trans h.n,h.B9,h.over,λj d f F=>?_,λj d f G=>?_,bL h.B7 hK λb g e=>?_⟩
 ·have a:j<S'.rows.length:=by rw[<-s];exact f
  rw[fN a f];by_cases e:i=j
  ·subst e;rw[OB rfl];show lds l=_;rw[A,h.rest i d a (OA _)];rfl
  ·rw[Oz e];exact h.done j d a zO
 ·have a:j<S'.rows.length:=by rw[<-s];exact f
  rw[fN a f,Oz zO];exact h.rest j d a zO
 ·rw[<-h.agree b g]
  rcases e with e|⟨k,_,e⟩<;>rw[e]<;>trivial
def gt.end_(h:gt w wr c T T' sp v tp lb S S' t i)(hr:et c S m)(hi:S.rows.length<=i):dJ w wr c T sp {m with ls:=ij t m.ls}:=by
 refine⟨T',λb k=>.inl (h.agree b k),⟨v,tp,lb,S',h.G3,?_⟩,h.B7⟩;refine⟨h.n.trans hr.n,λj f=>?_,?_,λe a=>?_,λe a=>?_,λj=>?_,h.over▸hr.over,h.B9▸hr.G8,λj=>h.B9▸hr.cut j⟩
 ·have g:j<S.rows.length:=by rw[<-h.n];exact f
  have:=h.row hr j f g
  rwa [OB zO]at this
 ·show((ij t m.ls).map (·.1)).Nodup;unfold ij;rw[Px];exact hr.D7
 ·obtain⟨y,d,rfl⟩:=Pa.1 a;exact hr.O2 y d
 ·obtain⟨y,d,rfl⟩:=Pa.1 a;exact pA (hr.C6 y d) t
 ·show(cH c (ij t m.ls) j).length<=c.lo;rw[qP];unfold ij;rw[Pe];exact hr.E5 j
end
def uX(h:aH x=0):x.k=1\/x.k=2\/x.k=3\/x.k=4\/x.k=5\/x.k=6\/x.k=7\/x.k=8:=by
 unfold aH at h;by_cases a:x.k=1
 ·exact .inl a
 ·rw[Oz a]at h;by_cases b:x.k=2
  ·exact .inr (.inl b)
  ·rw[Oz b]at h;by_cases c:x.k=5
   ·omega
   ·rw[Oz c]at h;by_cases d:x.k=6
    ·omega
    ·rw[Oz d]at h;by_cases e:x.k=7
     ·omega
     ·rw[Oz e]at h;by_cases f:x.k=3\/x.k=4\/x.k=8
      ·omega
      ·rw[Oz f]at h
       cases h
def LS(h:aH x=0)(hk:x.k=1):bd x.id=true/\0<=x.tick/\0<=x.value:=by
 unfold aH at h;rw[OB hk]at h;split at h
 ·rename_i a;refine⟨a,?_⟩;unfold bG at h;split at h
  ·cases h
  ·split at h
   ·cases h
   ·omega
 ·cases h
def LT(h:aH x=0)(hk:x.k=6):bd x.id=true/\x.D8.right=true:=by
 unfold aH at h;rw[hk]at h;simp only[show ¬(6:Int)=1 by decide,show ¬(6:Int)=2 by decide,show ¬(6:Int)=5 by decide,if_false,if_true]at h;split at h
 ·rename_i a;split at h
  ·rename_i b;exact⟨a,b⟩
  ·cases h
 ·cases h
def FA(h:aH x=0)(hk:x.k=5\/x.k=7):bd x.id=true:=by
 unfold aH at h;have a:idE x.id=0:=by rcases hk with hk|hk<;>rw[hk]at h<;>simpa using h
 unfold idE at a;split at a
 ·assumption
 ·cases a
def nP{c:Cg}{m:Mp}{x:Cl}(h:aH x≠0):doM c m x=(m,.of (aH x)):=by unfold doM;rw[OB h]
def La{c:Cg}{m:Mp}{x:Cl}(h:aH x=0)(hk:x.k=1):doM c m x=match dR c m (av x.id)with|none=>(m,.of 6)|some y=>({m with ls:=aR m.ls (av x.id) (mg c y x.tick x.value)},.zero):=by
 unfold doM;simp only[h,hk]
 cases dR c m (av x.id)<;>rfl
def Lb{c:Cg}{m:Mp}{x:Cl}(h:aH x=0)(hk:x.k=2):doM c m x=({m with ls:=ij x.tick m.ls},.zero):=by
 unfold doM ij;simp[h,hk]
def Lc{c:Cg}{m:Mp}{x:Cl}(h:aH x=0)(hk:x.k=3):doM c m x=(iK m,fa m):=by
 unfold doM iK fa;simp only[h,hk];by_cases a:64<=liveN m.B9<;>simp[a]
def Le{c:Cg}{m:Mp}{x:Cl}(h:aH x=0)(hk:x.k=4):doM c m x=(kR m x.handle,.of (findE m.B9 x.handle)):=by
 unfold doM kR;simp only[h,hk];by_cases a:findE m.B9 x.handle=0
 ·simp[a];rfl
 ·simp[a]
def Lf{c:Cg}{m:Mp}{x:Cl}(h:aH x=0)(hk:x.k=5):doM c m x=(m,eF m x.handle (av x.id) x.tick x.value):=by
 unfold doM eF;simp only[h,hk];by_cases a:findE m.B9 x.handle=0
 ·simp only[a]
  cases ap ((m.B9.getD (x.handle.toNat-1) none).getD []) (av x.id)<;>simp
 ·simp[a]
def Lg{c:Cg}{m:Mp}{x:Cl}(h:aH x=0)(hk:x.k=6):doM c m x=match dR c m (av x.id)with|none=>(m,.of 6)|some y=>({m with ls:=aR m.ls (av x.id) (mh y x.D8)},.zero):=by
 unfold doM;simp only[h,hk]
 cases dR c m (av x.id)<;>rfl
def Lh{c:Cg}{m:Mp}{x:Cl}(h:aH x=0)(hk:x.k=7):doM c m x=(m,fE m (av x.id)):=by
 unfold doM fE;simp only[h,hk]
 cases ap m.ls (av x.id)<;>simp
def CV{c:Cg}{m:Mp}{x:Cl}(h:aH x=0)(hk:x.k=8):doM c m x=(gM m,.of (gL m)):=by
 unfold doM gM gL;simp only[h,hk]
 cases m with
 |mk l a o=>cases o<;>simp[Rp.of,Rp.zero]
def rJ(hs:s.size<=maxLen):∃(kk:K2) (er:Int),kk.ok/\(bd s=true->kk=av s)/\∀w,C 18 #[.string s] w (J (.tuple #[.agg #[E kk.hi,E kk.lo],I er]) w):=by
 cases h:bd s with
 |true=>exact⟨av s,0,jh s (dn h).2.1,λ_=>rfl,λw=>oA s w h⟩
 |false=>exact⟨⟨0,0⟩,2,⟨⟨zP,zP⟩,zP,zP⟩,λe=>absurd e zP,λw=>LR s w hs h⟩
section
variable {w w' W w4:World} {c:Cg} {T:Nat→Tg} {sp:Nat} {m:Mp}
def dJ.pre(h:dJ w4 w' c T sp m)(hb:M W w4):dJ W w' c T sp m:=by
 obtain⟨a,d,e,f⟩:=h;have i:=hb.size;exact⟨a,λb g=>d b zO,e,(ag.B5 hb).trans f⟩
end
structure Fe where
 id:ByteArray
 sv:Value
 pv:Value
 x:Ld
def ldV(sv pv:Value)(x:Ld):Value:=.agg #[sv,pv,I x.D8.mn,I x.D8.mx,I x.D8.tg,I x.D8.G9,I x.D8.G5,I x.D8.hold,.bool x.E9]
def ldC(sv pv:Value)(x:Ld):Array Value:=#[sv,pv,I x.D8.mn,I x.D8.mx,I x.D8.tg,I x.D8.G9,I x.D8.G5,I x.D8.hold,.bool x.E9]
def Fe.val(f:Fe):ByteArray×Value:=(f.id,ldV f.sv f.pv f.x)
def Fe.mod(f:Fe):K2×Ld:=(av f.id,f.x)
def fls(fs:List Fe):List (K2×Ld):=fs.map Fe.mod
def eA:List Fe->ByteArray->Option Fe
 |[],_=>none
 |f::r,i=>if f.id=i then some f else eA r i
def nu:List Fe->Fe->List Fe
 |[],e=>[e]
 |f::r,e=>if f.id=e.id then e::r else f::nu r e
def mu(fs:List Fe)(i:ByteArray):ap (fs.map Fe.val) i=(eA fs i).map λf=>ldV f.sv f.pv f.x:=by
 induction fs with
 |nil=>rfl
 |cons f r ih=>
  simp only[Pi,Fe.val,ap,eA];by_cases h:f.id=i
  ·simp[h]
  ·simp only[h,if_false];exact ih
def iu{fs:List Fe}{i:ByteArray}{f:Fe}(h:eA fs i=some f):f∈fs/\f.id=i:=by
 induction fs with
 |nil=>cases h
 |cons g r ih=>
  unfold eA at h;split at h
  ·injection h with h;subst h;exact⟨zS,by assumption⟩
  ·have:=ih h;exact⟨by simp[this.1],this.2⟩
def jk{fs:List Fe}(hi:∀f∈fs,bd f.id=true){i:ByteArray}(h:bd i=true):ap (fls fs) (av i)=(eA fs i).map (·.x):=by
 induction fs with
 |nil=>rfl
 |cons f r ih=>
  simp only[fls,Pi,Fe.mod,ap,eA]at ih ⊢;by_cases e:f.id=i
  ·simp[e]
  ·have a:av f.id≠av i:=λb=>e (mL (hi f zS) h b);simp only[e,a,if_false];exact ih λg c=>hi g (by simp[c])
def kz(fs:List Fe)(e:Fe):aR (fs.map Fe.val) e.id (ldV e.sv e.pv e.x)=(nu fs e).map Fe.val:=by
 induction fs with
 |nil=>rfl
 |cons f r ih=>
  simp only[Pi,Fe.val,aR,nu]at ih ⊢;by_cases h:f.id=e.id
  ·simp[h,Fe.val]
  ·simp only[h,if_false,Pi,Fe.val];rw[<-ih]
def Jm{fs:List Fe}(hi:∀f∈fs,bd f.id=true){e:Fe}(h:bd e.id=true):fls (nu fs e)=aR (fls fs) (av e.id) e.x:=by
 induction fs with
 |nil=>rfl
 |cons f r ih=>
  simp only[fls,Pi,Fe.mod,aR,nu]at ih ⊢;by_cases a:f.id=e.id
  ·simp[a,Fe.mod]
  ·have b:av f.id≠av e.id:=λc=>a (mL (hi f zS) h c);simp only[a,b,if_false,Pi,Fe.mod];rw[<-ih λg d=>hi g (by simp[d])]
def rL{fs:List Fe}{e f:Fe}(h:f∈nu fs e):f=e\/f∈fs:=by
 induction fs with
 |nil=>left;simpa[nu]using h
 |cons g r ih=>
  unfold nu at h;split at h
  ·rcases Pj.1 h with h|h
   ·exact .inl h
   ·exact .inr (by simp[h])
  ·rcases Pj.1 h with h|h
   ·exact .inr (by simp[h])
   ·exact(ih h).imp id λh=>by simp[h]
def nw(i:Nat):Option (Nat×List Fe)->List Value
 |some (b,_)=>[I ((i:Int)+1),.map (some b),.bool false]
 |none=>[I 0,.map none,.bool true]
def kS(i:Nat)(o:Option (Nat×List Fe)):(nw i o).length=3:=by cases o<;>rfl
def eL:Nat->List (Option (Nat×List Fe))->List Value
 |_,[]=>[]
 |i,o::r=>nw i o++eL (i+1) r
def pH:∀(l:List (Option (Nat×List Fe))) (i:Nat),(eL i l).length=l.length*3
 |[],_=>rfl
 |o::r,i=>by
  unfold eL;rw[OS,kS,pH r (i+1),OC,Qj];omega
def sJ:∀(l:List (Option (Nat×List Fe))) (i:Nat) (o:Option (Nat×List Fe)),eL i (l++[o])=eL i l++nw (i+l.length) o
 |[],i,o=>by simp[eL]
 |p::r,i,o=>by
  simp only[PY,eL,OC];rw[sJ r (i+1) o,Pv,show i+1+r.length=i+(r.length+1) by omega]
def xz:∀(l:List (Option (Nat×List Fe))) (i k:Nat) (o:Option (Nat×List Fe)),l[k]?=some o->∀j u,(nw (i+k) o)[j]?=some u->(eL i l)[k*3+j]?=some u
 |[],i,k,o,h,j,u,hj=>by simp at h
 |p::r,i,0,o,h,j,u,hj=>by
  have:p=o:=by simpa using h
  subst this;unfold eL;rw[Pk]
  ·simpa using hj
  ·have:=(OZ.1 hj).1;rw[kS]at this ⊢;omega
 |p::r,i,k+1,o,h,j,u,hj=>by
  unfold eL;rw[Ph (by rw[kS];omega),kS,show(k+1)*3+j-3=k*3+j by omega];exact xz r (i+1) k o (by simpa using h) j u (by rw[show i+1+k=i+(k+1) by omega];exact hj)
def FB(l:List (Option (Nat×List Fe))):∀(i:Nat),∀u∈eL i l,u.oneCell'=true:=by
 induction l with
 |nil=>intro i u a;cases a
 |cons o r ih=>
  intro i u a
  rcases Po.1 a with a|a
  ·cases o with
   |none=>simp[nw]at a;rcases a with rfl|rfl|rfl<;>rfl
   |some e=>
    obtain⟨b,c⟩:=e;simp[nw]at a
    rcases a with rfl|rfl|rfl<;>rfl
  ·exact ih (i+1) u a
abbrev ig(w:World)(b:Nat)(l:List (ByteArray×Value)):Prop:=aw prog 9 Go.Fw.encS (λs=>s.size<=maxLen) w b l
def uY(w:World):(zeroValue 53).run prog w=.ok (ldV (.slice none 0 0) (.slice none 0 0) .new) w:=zR
def ig.look{w:World}{b:Nat}{l:List (ByteArray×Value)}(h:ig w b l){s:ByteArray}(hs:s.size<=maxLen):
  (Instr.lookup 133 (.map (some b)) (.string s) false).run prog w=.ok ((ap l s).getD (ldV (.slice none 0 0) (.slice none 0 0) .new)) w:=
 aw.look h lE underlying133 (uY w) hs
def ig.look_ok{w:World}{b:Nat}{l:List (ByteArray×Value)}(h:ig w b l){s:ByteArray}(hs:s.size<=maxLen):
  (Instr.lookup 133 (.map (some b)) (.string s) true).run prog w=.ok (.tuple #[(ap l s).getD (ldV (.slice none 0 0) (.slice none 0 0) .new),.bool (ap l s).isSome]) w:=
 aw.look_ok h lE underlying133 (uY w) hs
structure gN(w:World)(f:Fe):Prop where
 D2:w.ownsRow 0 66 2 f.sv f.x.D2.length (smps f.x.D2)
 C0:aQ w 0 62 5 f.pv f.x.C0.length (advs f.x.C0)
structure iw(w:World)(c:Cg)(lb:Nat)(fs:List Fe):Prop where
 map:ig w lb (fs.map Fe.val)
 rows:∀f∈fs,gN w f
 ids:∀f∈fs,bd f.id=true
 C6:∀f∈fs,f.x.C6 c
structure cq(w:World)(c:Cg)(mb lb:Nat)(fs:List Fe)(kv:List (Option (Nat×List Fe)))(cv:Value)(m:Mp):Prop where
 B0:Blk w mb 136 #[I c.st,I c.sa,I c.lo,I c.hi,.map (some lb),cv,I kv.length,.bool m.over]
 C1:iw w c lb fs
 ls:m.ls=fls fs
 row:w.ownsRow 0 268 3 cv kv.length (eL 0 kv)
 J8:m.B9=kv.map (Option.map λe=>fls e.2)
 J9:∀e:Nat×List Fe,some e∈kv->iw w c e.1 e.2/\e.1≠lb
def fZ{w:World}{b:Nat}{l:List (ByteArray×Value)}(h:ig w b l){B s n:Nat}{e:TypeId}{v:Value}{xs:List Value}(ht:aQ w B e s v n xs):v.ownBlock≠some b:=by
 intro a
 rcases ht.2 with⟨rfl,_⟩|⟨g,d,f,i,rfl,_,c,_⟩
 ·cases a
 ·have:g=b:=by simpa[Value.ownBlock]using a
  subst this;exact aw.C9 h c rfl
section
variable {w w':World} {c:Cg} {mb lb:Nat} {fs:List Fe} {kv:List (Option (Nat×List Fe))} {cv:Value} {m:Mp}
def iw.B7(h:iw w c lb fs)(hK:ag L w w')(h1:¬L lb)(h2:∀f∈fs,(∀g,f.sv.ownBlock=some g->¬L g)/\∀g,f.pv.ownBlock=some g->¬L g):iw w' c lb fs:=
 ⟨aw.B7 h.map hK h1,λf a=>⟨hK.C8 (h.rows f a).D2 (h2 f a).1,(h.rows f a).C0.D3 λk b=>hK.block k ((h.rows f a).C0.lt k b).2 ((h2 f a).2 k b)⟩,h.ids,h.C6⟩
def iw.up(h:iw w c lb fs)(hb:M w w'):iw w' c lb fs:=h.B7 (L:=λ_=>False) (ag.B5 hb) id λ_ _=>⟨λ_ _ e=>e,λ_ _ e=>e⟩
def cq.up(h:cq w c mb lb fs kv cv m)(hb:M w w'):cq w' c mb lb fs kv cv m:=⟨h.B0.later hb,h.C1.up hb,h.ls,aN h.row hb,h.J8,λe a=>⟨(h.J9 e a).1.up hb,(h.J9 e a).2⟩⟩
def iw.D1{lb':Nat}(h:iw w c lb fs){l:List (ByteArray×Value)}(hm:ig w lb' l)(hb:Blk w g 136 cs):∀f∈fs,(∀b,f.sv.ownBlock=some b->¬(b=g\/b=lb'))/\∀b,f.pv.ownBlock=some b->¬(b=g\/b=lb'):=by
 intro f a;refine⟨λb e=>?_,λb e=>?_⟩
 ·rintro(rfl|rfl)
  ·exact aB (h.rows f a).D2 hb zP e
  ·exact aw.E7 hm (h.rows f a).D2 e
 ·rintro(rfl|rfl)
  ·exact(h.rows f a).C0.ne hb zP e
  ·exact fZ hm (h.rows f a).C0 e
def cq.ne(h:cq w c mb lb fs kv cv m):mb≠lb/\cv.ownBlock≠some mb/\cv.ownBlock≠some lb:=⟨Pc (aw.C9 h.C1.map h.B0),aB h.row h.B0 zP,aw.E7 h.C1.map h.row⟩
def cq.small(h:cq w c mb lb fs kv cv m):m.B9.length=kv.length:=by rw[h.J8,Pe]
end
def dM(w w':World)(c:Cg)(mb lb:Nat)(m:Mp):Prop:=(∃fs kv cv,cq w' c mb lb fs kv cv m)/\ag (λb=>b=mb\/b=lb) w w'
def cq.same{w w':World}{c:Cg}{mb lb:Nat}{fs:List Fe}{kv:List (Option (Nat×List Fe))}{cv:Value}{m:Mp}(h:cq w c mb lb fs kv cv m)(hb:M w w'):dM w w' c mb lb m:=⟨⟨fs,kv,cv,h.up hb⟩,ag.B5 hb⟩
def fg(w:World)(c:Cg)(mb lb:Nat)(fs:List Fe)(kv:List (Option (Nat×List Fe)))(cv:Value)(m:Mp)(h:cq w c mb lb fs kv cv m):
  C 58 #[Z mb 0] w λe w'=>e=.returned (.bool true)/\w=w':=by
 have a:=h.B0.cell 4;have b:∀w,(binOp .neq 133 (.map (some lb)) (.map none)).run prog w=.ok (.bool true) w:=λw=>zR;clear h
 go_in
 go_wp2;go_ret;exact⟨rfl,rfl⟩
def xA(c:Cg)(hc:c.ok)(w:World):C 22 #[c.val] w λe w'=>∃mb lb,e=.returned (Z mb 0)/\cq w' c mb lb [] [] (.slice none 0 0) .new/\w.heap.size<=mb/\w.heap.size<=lb/\M w w':=by
 have h:=zh w (.cells c.cells.toArray 23);have i:=Blk.A8 w 23 c.cells.toArray rfl;have j:=λW=>gH c.st c.sa c.lo c.hi W;have k:pu c.st c.sa c.lo c.hi=0:=by exact OB hc
 rw[k]at j;have g:=Z3 j h i;obtain⟨v,x,y,z⟩:=c;clear j h i k hc;unfold Cg.val;simp only[Cg.cells]at g
 go_in
 go_wp2_with fail;refine zm (g.o.1 _) λl b=>?_;have a:=g.o.2.2.later b;have m:=Z1 (af g.o.2.1 b);have n:=a.cell 0;have p:=a.cell 1;have q:=a.cell 2;have r:=a.cell 3;simp at n p q r;have u:=@run_makeMap prog;clear a b;go_wp2;go_ret;have s:=m.o.size;refine⟨_,l.heap.size,rfl,⟨Blk.A8 _ 136 _ zS,⟨aw.up (aw.made l) (ae (Oy _ _) _),(λf d=>by cases d),(λf d=>by cases d),(λf d=>by cases d)⟩,rfl,Pn _ _ _ _,rfl,(λe t=>by cases t)⟩,zO,s,ae (ae m.o _) _⟩
section
variable {P:Program} {k:TypeId} {κ:Type} {enc:κ→Lit} {val:κ→Value} {E3:κ→Prop} {w:World} {b:Nat} {l:List (κ×Value)}
def tV{o:Oper}(hg:o.guard=none)(m:Operand)(t e:TypeId)(hop:o.op=Op.range t m)
  (K:gp P k enc val E3)(ht:P.underlying t=some (.map k e))(hm:a.eval m=.map (some b))(h:aw P k enc E3 w b l)
  (hK:∀w',dx P k enc E3 w' b w.heap.size l (l.map (·.1)) l.length->M w w'->w'.heap.size=w.heap.size+1->wpList P ops Q rest (a.put o.dst (Z w.heap.size 0)) w'):
  wpList P ops Q (o::rest) a w:=by
 refine wpList_plain hg λj d=>?_;obtain⟨w',c,f,g,i⟩:=h.range K ht;unfold Oper.wp;simp[execOp,hop,hm,c,Result.andThen];exact d _ _ (hK w' f g i)
def vW[DecidableEq κ]{o:Oper}{r cnt:Nat}{todo:List κ}(hg:o.guard=none)(it:Operand)(hop:o.op=Op.next it false)
  (K:gp P k enc val E3)(hval:∀v x,E3 x->keyOf P k v=some (enc x)->v=val x)(hit:a.eval it=Z r 0)(h:dx P k enc E3 w b r l todo cnt)
  (hDone:todo=[]->wpList P ops Q rest (a.put o.dst (.tuple #[.bool false])) w)
  (hMore:∀x v w' cnt',x∈todo->ap l x=some v->dx P k enc E3 w' b r l (todo.erase x) cnt'->cnt'<cnt->ag (λj=>j=r) w w'->w'.heap.size=w.heap.size->(Instr.entry (Z r 0)).run P w'=.ok (.tuple #[val x,v]) w'->
   wpList P ops Q rest (a.put o.dst (.tuple #[.bool true,val x,v])) w'):
  wpList P ops Q (o::rest) a w:=by
 refine wpList_plain hg λs d=>?_;unfold Oper.wp
 rcases h.next K hval o.type with⟨e,c⟩|⟨x,v,w',cnt',f,g,c,i,m,n,p,q⟩
 ·simp[execOp,hop,hit,c,Result.andThen];exact d _ _ (hDone e)
 ·simp[execOp,hop,hit,c,Result.andThen];exact d _ _ (hMore x v w' cnt' f g i m n p q)
end
def homeI(c:Cg)(i:ByteArray):Nat:=homeN c (av i)
def i9(c:Cg)(i:ByteArray)(l:List ByteArray):Nat:=(l.filter λj=>decide (homeI c j=homeI c i)).length
def Jn{c:Cg}(hc:c.ok)(fs:List Fe)(i:ByteArray):i9 c i (fs.map (·.id))=sA c (fls fs) (av i):=by
 unfold i9 fls sA;rw[Rk,Pe,Rk,Pe];congr 1;refine QK λf _=>?_;exact(xr hc _ _).symm
def FC(c:Cg)(i:ByteArray){a b:List ByteArray}(h:a.Perm b):i9 c i a=i9 c i b:=(h.filter _).length_eq
def FD(c:Cg)(i j:ByteArray)(l:List ByteArray):i9 c i (l++[j])=i9 c i l+if homeI c j=homeI c i then 1 else 0:=by
 unfold i9;rw[Ql,OS];by_cases h:homeI c j=homeI c i<;>simp[h]
def LU(c:Cg)(i:ByteArray)(l:List ByteArray):i9 c i l<=l.length:=PF _ _
def fO(c:Cg)(m:Mp)(i:ByteArray):Bool:=(dR c m (av i)).isNone
def FE(w:World)(c:Cg)(hc:c.ok)(mb:Nat)(cs:Array Value)(hb:Blk w mb 136 cs)(h0:cs[0]?=some (I c.st))(i:ByteArray)(hi:bd i=true):
  C 189 #[Z mb 0,.string i] w (J (I (homeI c i)) w):=by
 have y:=Z1 (λW=>oA i W hi);have k:=jh i (dn hi).2.1;have q:=Z1 (λW=>rI (av i) (c.st:Int) W k (Cg.I6 hc));rw[cy hc]at q;have u:homeN c (av i)=homeI c i:=rfl;rw[u]at q;generalize av i=z at*;obtain⟨A,B⟩:=z;have v:=(hb.cell 0).trans h0;have b:=hb.lt;unfold K2.val K2.arr at*;simp only at*;clear u k h0 hb hi hc
 go_in
 go_wp2_with fail;refine zm (y.o _) λj d=>?_;have f:=Z1 d;have x:=(d.cell (p:=Y mb 0) b).trans v;clear d v
 go_wp2_with (refine zj lj (cs:=#[E A,E B]) (Blk.A8 j 58 #[E 0,E 0] rfl) ?_;intro r l g;have a:=Z3 (g.below (ae f.o _) f.o.size) l (g.below (zh j _) (OA _));clear g l)
 have D:=(a.o.2.2.cell (p:=Y mb 0) (OV b f.o.size)).trans x;obtain⟨F,G⟩:=ao a.o.2.1;have m:=a.o.2.1.lt;have s:=OV b a.o.1.size;clear x;have t:=(zi r);refine zH (S:=λV=>M r V) t ?_;refine zQ 0 _ ?_ (hy:=λW hW=>by have H:=(OF hW (p:=Y j.heap.size 0) m).trans F;have N:=(OF hW (p:=Y j.heap.size 1) m).trans G;exact zf);refine zq 5 _ ?_ (hy:=λW hW=>by have H:=(OF hW (p:=Y mb 0) s).trans D;exact zf);refine zo 6 λK hK=>?_;go_simp;refine zm (q.o _) λO n=>?_;have h:=af t n;refine zJ hK h ?_;have L:=Z1 (af a.o.1 h);clear h n t;go_wp2;go_ret;exact⟨rfl,L.o⟩
def gO:cU prog 53 9:=⟨zR,zR,zR⟩
def uZ{c:Cg}{fs:List Fe}(hl:m.ls=fls fs)(hi:∀f∈fs,bd f.id=true)(h:bd i=true){f:Fe}(hg:eA fs i=some f):dR c m (av i)=some f.x:=by
 unfold dR;rw[hl,jk hi h,hg];rfl
def u9{c:Cg}(hc:c.ok){fs:List Fe}(hl:m.ls=fls fs)(hi:∀f∈fs,bd f.id=true)(h:bd i=true)(hg:eA fs i=none):dR c m (av i)=if c.lo<=i9 c i (fs.map (·.id))then none else some .new:=by
 unfold dR;rw[hl,jk hi h,hg,Jn hc];rfl
def jl{w:World}{f:Fe}(h:gN w f):∃A1 c1 A2 c2,f.sv=.slice A1 f.x.D2.length c1/\f.pv=.slice A2 f.x.C0.length c2:=by
 obtain⟨A1,c1,a,_,_⟩:=ak h.D2;obtain⟨A2,c2,b,_,_,_⟩:=h.C0.form;exact⟨A1,c1,A2,c2,a,b⟩
def vc(c:Cg)(hc:c.ok)(mb lb:Nat)(fs:List Fe)(kv:List (Option (Nat×List Fe)))(cv:Value)(m:Mp)(h:cq w c mb lb fs kv cv m)(hn:fs.length<=90000)(i:ByteArray)(hi:bd i=true):
  C 148 #[Z mb 0,.string i] w (J (.bool (fO c m i)) w):=by
 have aw:i.size<=maxLen:=by have:=(dn hi).2.1;unfold maxLen;omega
 have k:=h.C1.map.look_ok aw;rw[mu]at k;have c4:=h.B0.cell 4
 cases hg:eA fs i with
 |some f=>
  have l:fO c m i=false:=by unfold fO;rw[uZ h.ls h.C1.ids hi hg];rfl
  have R:=Z1 l;obtain⟨A1,c1,A2,c2,S,e2⟩:=jl (h.C1.rows f (iu hg).1);rw[hg]at k;simp only[PT,Qd,Rl,ldV,S,e2]at k;clear h hg l S e2
  go_in
  go_wp2_with (refine zj gO (Blk.A8 w 53 (ldC (.slice none 0 0) (.slice none 0 0) .new) rfl) ?_;intro z A p;have r:=Z1 (p.below (zh w _) (OA _));clear A p)
  go_ret;exact⟨cN R.o.symm,r.o⟩
 |none=>
  have l:fO c m i=decide (c.lo<=i9 c i (fs.map (·.id))):=by
   unfold fO;rw[u9 hc h.ls h.C1.ids hi hg];by_cases e:c.lo<=i9 c i (fs.map (·.id))<;>simp[e]
  have R:=Z1 l;rw[hg]at k;simp only[QH,QV,RE,ldV,Ld.new,Pl.zero]at k;have H:=Z3 h hc hi;have U:=Z1 (λW j cs (hb:Blk W mb 136 cs) (h0:cs[0]?=some (I c.st)) (hj:bd j=true)=>FE W c hc mb cs hb h0 j hj);have HN:=Z1 hn;clear h hg l hc hi
  go_in
  go_upto_if 18 with(refine zj gO (Blk.A8 w 53 (ldC (.slice none 0 0) (.slice none 0 0) .new) rfl) ?_;intro z A p;have r:=Z1 (p.below (zh w _) (OA _));clear A p)
  have D:=H.o.1.up r.o;have bg:=D.B0.cell 4;have t:=Z1 D;clear D c4
  go_wp2_with (refine tV rfl _ 133 53 rfl lE underlying133 rfl t.o.C1.map ?_;intro w4 F X ay)
  go_frame;go_loopw [7] (λnv wr=>∃(n:Nat) (b:List ByteArray) (aa:Nat) (g:List ByteArray),nv=I n/\n<=90000/\Hid (dx prog 9 Go.Fw.encS (λs=>s.size<=maxLen) wr lb z.heap.size (fs.map Fe.val) b aa/\(g++b).Perm (fs.map (·.id))/\n=i9 c i g/\M z wr)) (λ_ wr=>wr.rangeLeft lb z.heap.size)
  case atStart=>
   have S:(fs.map Fe.val).map (·.1)=fs.map (·.id):=by rw[Px];rfl
   rw[S]at F;exact⟨0,_,_,[],rfl,zO,F,List.Perm.refl _,rfl,X⟩
  case round=>
   clear F X ay;obtain⟨n,b,aa,g,rfl,az,a⟩:=hrel
   go_wp2_with (refine vW rfl _ rfl lE (λv x G h=>Om v x G h) rfl a.o.1 ?_ ?_)
   ·intro h0;subst h0;have hp:=a.o.2.1;rw[PC]at hp;have ab:=a.o.2.2.1.trans (FC c i hp);have c2:=(t.o.up a.o.2.2.2).B0.cell 2;have ac:=Z1 (af r.o a.o.2.2.2);have ad:=Z1 ab;clear hp ab;by_cases u:c.lo<=n
    ·have a0:(c.lo:Int)<=(n:Int):=zO;have HL:=Z1 u;clear u;go_wp2;go_ret;exact⟨cN (by rw[R.o,<-ad.o];exact(decide_eq_true HL.o).symm),ac.o⟩
    ·have a0:¬(c.lo:Int)<=(n:Int):=zO;have HL:=Z1 u;clear u;go_wp2;go_ret;exact⟨cN (by rw[R.o,<-ad.o];exact(decide_eq_false HL.o).symm),ac.o⟩
   ·intro x v w5 bb G hv L ae ag a1 a2;have ah:=a.o.2.1.mem_iff.1 (RP _ G);have ai:bd x=true:=by
     obtain⟨f,hf,rfl⟩:=Pa.1 ah;exact H.o.1.C1.ids f hf
    have N:((g++[x])++@List.erase ByteArray instBEqOfDecidableEq b x).Perm (fs.map (·.id)):=by
     refine List.Perm.trans ?_ a.o.2.1;rw[Pv];exact List.Perm.append_left g (@List.perm_cons_erase ByteArray instBEqOfDecidableEq _ x b G).symm
    have aj:=a.o.2.2.2.trans (ag.below (B:=z.heap.size) a.o.2.2.2.size λj e=>zO);have O:(g++[x]).length<=90000:=by
     have q:=N.length_eq;rw[OS,Pe]at q;have:=HN.o;omega
    have ak:=a.o.1.left_eq;have d:=Z7 ai N aj L ae O ak;clear ah ai N aj L ae G hv ag a1 O ak;go_wp2_with fail;refine zm (U.o w5 x _ (t.o.up d.o.2.2.1).B0 rfl d.o.1) λw6 P=>?_;have al:=Z1 (af d.o.2.2.1 P);have a3:=Z1 (d.o.2.2.2.1.up P);clear P a2;go_wp2_with fail;refine zm (U.o w6 i _ (t.o.up al.o).B0 rfl H.o.2.2) λw7 Q=>?_;have am:=Z1 (af al.o Q);have y:=Z1 (a3.o.up Q);clear Q;have an:=FD c i x g;have ao:=LU c i (g++[x]);have ap:=Z1 an;have a4:=Z1 ao;clear an ao;by_cases T:homeI c x=homeI c i
    ·have a5:((homeI c x:Int)==(homeI c i:Int))=true:=by rw[beq_iff_eq];omega
     have HQ:=Z1 T;clear T;go_wp2;go_roundw
     case rel=>
      have q:=ap.o;rw[OB HQ.o,<-a.o.2.2.1]at q;exact⟨n+1,_,_,g++[x],by go_num,by have:=a4.o;have:=d.o.2.2.2.2.2.1;omega,y.o,d.o.2.1,q.symm,am.o⟩
     case measure=>rw[y.o.left_eq,d.o.2.2.2.2.2.2];exact d.o.2.2.2.2.1
    ·have a5:((homeI c x:Int)==(homeI c i:Int))=false:=by rw[beq_eq_false_iff_ne];omega
     have HQ:=Z1 T;clear T;go_wp2;go_roundw
     case rel=>
      have q:=ap.o;rw[Oz HQ.o,<-a.o.2.2.1]at q;exact⟨n,_,_,g++[x],rfl,az,y.o,d.o.2.1,q.symm,am.o⟩
     case measure=>rw[y.o.left_eq,d.o.2.2.2.2.2.2];exact d.o.2.2.2.2.1
section
variable {fs:List Fe}
def dG(fs:List Fe)(i:ByteArray):Fe:=(eA fs i).getD ⟨i,.slice none 0 0,.slice none 0 0,.new⟩
def qn(fs:List Fe)(i:ByteArray):(dG fs i).id=i:=by
 unfold dG
 cases h:eA fs i with
 |none=>rfl
 |some f=>exact(iu h).2
def Bx(fs:List Fe)(i:ByteArray):(ap (fs.map Fe.val) i).getD (ldV (.slice none 0 0) (.slice none 0 0) .new)=ldV (dG fs i).sv (dG fs i).pv (dG fs i).x:=by
 rw[mu];unfold dG
 cases eA fs i<;>rfl
def nx(c:Cg)(m:Mp)(x:Cl):Rp:=if fY x.D8≠0 then .of (fY x.D8)else if fO c m x.id=true then .of 6 else .zero
def oB(c:Cg)(m:Mp)(x:Cl):Mp:=if fY x.D8≠0 then m else match dR c m (av x.id)with|none=>m|some y=>{m with ls:=aR m.ls (av x.id) (mh y x.D8)}
def ig.K0{w:World}{b:Nat}(h:ig w b (fs.map Fe.val)){s:ByteArray}(hs:s.size<=maxLen):
  (Instr.lookup 133 (.map (some b)) (.string s) false).run prog w=.ok (ldV (dG fs s).sv (dG fs s).pv (dG fs s).x) w:=by rw[h.look hs,Bx]
def sK{w:World}{c:Cg}(h:iw w c lb fs)(i:ByteArray):gN w (dG fs i):=by
 unfold dG
 cases hg:eA fs i with
 |none=>exact⟨Pn _ _ _ _,aQ.F8 _ _ _ _⟩
 |some f=>exact h.rows f (iu hg).1
def mv{w:World}{c:Cg}(h:iw w c lb fs)(i:ByteArray):(dG fs i).x.C6 c:=by
 unfold dG
 cases hg:eA fs i with
 |none=>exact lq c
 |some f=>exact h.C6 f (iu hg).1
def xB{c:Cg}(hc:c.ok)(hl:m.ls=fls fs)(hi:∀f∈fs,bd f.id=true)(h:bd i=true)(hf:fO c m i=false):dR c m (av i)=some (dG fs i).x:=by
 unfold dG
 cases hg:eA fs i with
 |some f=>exact uZ hl hi h hg
 |none=>
  have a:=u9 hc hl hi h hg;unfold fO at hf;rw[a]at hf ⊢;split at hf
  ·cases hf
  ·rename_i b;rw[Oz b];rfl
def cq.put{w:World}{c:Cg}{kv:List (Option (Nat×List Fe))}(h:cq w c mb lb fs kv cv m)(e:Fe)(hid:bd e.id=true)(hx:e.x.C6 c)(hrow:gN w' e)(hK:ag (λb=>b=lb) w w')(hm:ig w' lb ((nu fs e).map Fe.val)):
  cq w' c mb lb (nu fs e) kv cv {m with ls:=aR m.ls (av e.id) e.x}:=by
 have l:=h.ne;have i:ag (λb=>b=mb\/b=lb) w w':=hK.C3 λb e=>.inr e;have j:=h.C1.D1 h.C1.map h.B0;have q:∀f∈fs,gN w' f:=λf a=>by
  have d:=h.C1.rows f a;exact⟨i.C8 d.D2 (j f a).1,d.C0.D3 λk o=>i.block k (d.C0.lt k o).2 ((j f a).2 k o)⟩
 refine⟨hK.B0 h.B0 l.1,⟨hm,λf a=>?_,λf a=>?_,λf a=>?_⟩,?_,hK.C8 h.row λg r e=>l.2.2 (e▸r),h.J8,λe s=>?_⟩
 ·rcases rL a with rfl|a
  ·exact hrow
  ·exact q f a
 ·rcases rL a with rfl|a
  ·exact hid
  ·exact h.C1.ids f a
 ·rcases rL a with rfl|a
  ·exact hx
  ·exact h.C1.C6 f a
 ·show aR m.ls _ _=_;rw[h.ls,Jm h.C1.ids hid]
 ·obtain⟨d,p⟩:=h.J9 e s;exact⟨d.B7 i (by rintro(n|n);exact aw.C9 d.map h.B0 n;exact p n) (d.D1 h.C1.map h.B0),p⟩
def FF(c:Cg)(hc:c.ok)(mb lb:Nat)(fs:List Fe)(kv:List (Option (Nat×List Fe)))(cv:Value)(m:Mp)(h:cq w c mb lb fs kv cv m)(i:ByteArray)(hi:bd i=true):
  C 119 #[Z mb 0,.string i] w λe w'=>e=.returned (fE m (av i)).val/\M w w':=by
 have S:=Cg.small hc;have X:i.size<=maxLen:=by have:=(dn hi).2.1;unfold maxLen;omega
 have y:=λW (hW:ig W lb (fs.map Fe.val))=>hW.look_ok X;have p:=zh w (.cells Rp.zero.arr 77);have T:=Blk.A8 w 77 Rp.zero.arr rfl;have t:=y _ (h.C1.up p).map;rw[mu]at t;have c4:=(h.up p).B0.cell 4;have F:=Z2 p T;have j:Hid (fE m (av i)=match eA fs i with|none=>.of 5|some f=>⟨0,0,0,.zero,iF f.x.C0⟩):=Z1 (by
  unfold fE;rw[h.ls,jk h.C1.ids hi]
  cases eA fs i<;>rfl)
 cases hg:eA fs i with
 |none=>
  rw[hg]at t j;simp only[QH,QV,RE,ldV,Ld.new,Pl.zero,Rp.zero,Rp.arr,St.zero,St.arr,az]at*;clear h y p T hg S
  go_in
  go_wp2_with (first|(refine zj gO (Blk.A8 (w.alloc (.cells #[I 0,I 0,I 0,I 0,I 0,I 0,I 0,I 0,I 0,I 0,I 0,I 0,I 0] 77)) 53 (ldC (.slice none 0 0) (.slice none 0 0) .new) (g:=w.heap.size+1) zS) ?_;intro G u k;have d:=Z2 (k.below (ae F.o.1 _) zO) (k.B0 (F.o.2.alloc _) zO);clear u k)|(refine zj aA d.o.2 ?_;intro w6 r s))
  exact OH (au aA rfl r rfl _ rfl) rfl ⟨by rw[j.o];rfl,s.below d.o.1 zO⟩
 |some f=>
  have z:=(h.C1.rows f (iu hg).1);have O:=(h.C1.C6 f (iu hg).1);obtain⟨A1,c1,A2,c2,e1,H⟩:=jl z;have P:=OJ O.C0 S.2.2.2.2.2.2.2;have a:=z.C0;have B:fE m (av i)=⟨0,0,0,.zero,iF f.x.C0⟩:=by have:=j.o;rw[hg]at this;exact this
  rw[hg]at t;clear j;rw[H]at a;obtain⟨l,v⟩:∃l,l=f.x.C0:=⟨_,rfl⟩;rw[<-v]at P a B;have j:=Z1 B;clear B;obtain⟨n,L⟩:∃n,n=l.length:=⟨_,rfl⟩;rw[<-v,<-L]at H;rw[<-L]at P a;simp only[PT,Qd,Rl,ldV,e1,H,Rp.zero,Rp.arr,St.zero,St.arr,az]at*;have N:=Z2 a L;clear h y p T hg S z O a L v e1 H
  go_in
  go_upto_region 2 with(refine zj gO (Blk.A8 (w.alloc (.cells #[I 0,I 0,I 0,I 0,I 0,I 0,I 0,I 0,I 0,I 0,I 0,I 0,I 0] 77)) 53 (ldC (.slice none 0 0) (.slice none 0 0) .new) (g:=w.heap.size+1) zS) ?_;intro G u k;have aw:G.cell? (Y (w.heap.size+1) 1)=some (.slice A2 n c2):=u.cell 1;have d:=Z2 (k.below (ae F.o.1 _) zO) (k.B0 (F.o.2.alloc _) zO);clear u k)
  by_cases h0:n=0
  ·subst h0;have v:=OU N.o.2.symm;have HL:=Z1 v;clear v
   go_wp2_with (refine zj aA d.o.2 ?_;intro w6 r s)
   exact OH (au aA rfl r rfl _ rfl) rfl ⟨by rw[j.o,HL.o];rfl,s.below d.o.1 zO⟩
  ·obtain⟨q,rfl⟩:∃q,n=q+1:=⟨n-1,zO⟩;have D:q<l.length:=by have:=N.o.2;omega
   have Q:an G G.heap.size 5 A2 (q+1) (advs l):=by
    have U:=N.o.1.later d.o.1;obtain⟨A,c3,h2,_,_,h3⟩:=U.form;injection h2 with h4;rw[h4];exact h3
   obtain⟨b,o,rfl,_,g0,g1,g2,g3,g4⟩:=adv_at Q D;have R:l[q]=iF l:=by
    have U:l.getLast?=some l[q]:=by
     rw[Ry,<-N.o.2,RF,OL D]
    unfold iF;rw[U];rfl
   rw[R]at g0 g1 g2 g3 g4;generalize ad:iF l=st at*;obtain⟨s0,s1,s2,s3,s4⟩:=st;have ax:(((q+1:Nat):Int)==0)=false:=zT;clear Q D R ad
   go_wp2_with (refine zj aA d.o.2 ?_;intro w6 r s)
   exact OH (au aA rfl r rfl _ rfl) rfl ⟨by rw[j.o];rfl,s.below d.o.1 zO⟩
end
def eR{w:World}{t:TypeId}{a b c d e f h i j:Value}(hb:Blk w g t #[a,b,c,d,e,f,h,i,j]):
  (w.cell? (Y g 0)=some a/\w.cell? (Y g 1)=some b/\w.cell? (Y g 2)=some c/\w.cell? (Y g 3)=some d/\w.cell? (Y g 4)=some e/\w.cell? (Y g 5)=some f/\w.cell? (Y g 6)=some h/\w.cell? (Y g 7)=some i/\w.cell? (Y g 8)=some j)/\
  w.frozen? (Y g 2)=false/\w.frozen? (Y g 3)=false/\w.frozen? (Y g 4)=false/\w.frozen? (Y g 5)=false/\w.frozen? (Y g 6)=false/\w.frozen? (Y g 7)=false/\w.frozen? (Y g 8)=false:=
 ⟨⟨hb.cell 0,hb.cell 1,hb.cell 2,hb.cell 3,hb.cell 4,hb.cell 5,hb.cell 6,hb.cell 7,hb.cell 8⟩,hb.frozen 2,hb.frozen 3,hb.frozen 4,hb.frozen 5,hb.frozen 6,hb.frozen 7,hb.frozen 8⟩
def iw.other{w:World}{c:Cg}{fs:List Fe}(h:iw w c lb fs)(hb:Blk w g 77 cs)(hO:aI g w w'):iw w' c lb fs:=
 h.B7 hO.B7 (aw.C9 h.map hb) λf d=>⟨λb e a=>aB (h.rows f d).D2 hb zP (a▸e),λb e a=>(h.rows f d).C0.ne hb zP (a▸e)⟩
def cq.only{w:World}{c:Cg}{fs:List Fe}{kv:List (Option (Nat×List Fe))}(h:cq w c mb lb fs kv cv m)(hO:aI g w w')(hb:Blk w g 77 cs):cq w' c mb lb fs kv cv m:=
 ⟨hO.B0 h.B0 (fq h.B0 hb zP),h.C1.other hb hO,h.ls,hO.B7.C8 h.row λb e d=>aB h.row hb zP (d▸e),h.J8,λe a=>⟨(h.J9 e a).1.other hb hO,(h.J9 e a).2⟩⟩
def Jo{w:World}{t:TypeId}{a b c d e f h i j:Value}(hb:Blk w g t #[a,b,c,d,e,f,h,i,j])(v2 v3 v4 v5 v6 v7 v8:Value):
  ∃V,(((((((w.setCell (Y g 2) v2).setCell (Y g 3) v3).setCell (Y g 4) v4).setCell (Y g 5) v5).setCell (Y g 6) v6).setCell (Y g 7) v7).setCell (Y g 8) v8)=V/\Blk V g t #[a,b,v2,v3,v4,v5,v6,v7,v8]/\aI g w V:=by
 refine⟨_,rfl,?_,?_⟩
 ·have k:=((((((hb.B4 2 v2).B4 3 v3).B4 4 v4).B4 5 v5).B4 6 v6).B4 7 v7).B4 8 v8
  simpa using k
 ·exact((((((aI.B4 g w 2 v2).trans (aI.B4 g _ 3 v3)).trans (aI.B4 g _ 4 v4)).trans (aI.B4 g _ 5 v5)).trans (aI.B4 g _ 6 v6)).trans (aI.B4 g _ 7 v7)).trans (aI.B4 g _ 8 v8)
def Jp(c:Cg)(hc:c.ok)(mb lb:Nat)(fs:List Fe)(kv:List (Option (Nat×List Fe)))(cv:Value)(m:Mp)(h:cq w c mb lb fs kv cv m)(hn:fs.length<=80000)(x:Cl)(hx:x.ok)(hi:bd x.id=true):
  Calls prog 118 #[.pointer (some ⟨mb,0,none⟩),x.val] w λe w'=>e=.returned (nx c m x).val/\dM w w' c mb lb (oB c m x):=by
 have ar:x.id.size<=maxLen:=by have:=(dn hi).2.1;unfold maxLen;omega
 have k:=ae (Oy w.heap.size w) (.cells x.arr 73);have O:=ae k (.cells Rp.zero.arr 77);have ax:=(Blk.A8 w 73 x.arr rfl).alloc (.cells Rp.zero.arr 77);have ba:=Blk.A8 (w.alloc (.cells x.arr 73)) 77 Rp.zero.arr (g:=w.heap.size+1) (by simp);have HP:=Z1 (λW=>tL x.D8 W);have cd:=Z1 (λW hW=>vc W c hc mb lb fs kv cv m hW (by omega) x.id hi);have ce:=Z1 (λW (hW:ig W lb (fs.map Fe.val))=>hW.K0 ar);have H:=Z6 hc h hi ar hx hn;have P:=Z3 O ax ba;have u:∀V,Below w.heap.size w V->V.cell? ⟨mb,4,none⟩=some (.map (some lb)):=λV hb=>(h.up hb).B0.cell 4;have cf:=Z1 u;obtain⟨X,id,tk,va,ha,a,b,i,d,j,f⟩:=x;unfold Cl.val;simp only[Cl.arr,Rp.zero,Rp.arr,St.zero,St.arr,az,Cl.D8]at*;obtain⟨⟨c0,c1,c2,c3,c4,c5⟩,c6,c7,c8,c9,cg⟩:=bh ax;clear h k O ax ba hx hc hn ar u hi
 go_in
 go_wp2_with fail;generalize ay:w.heap.size=v9 at*;generalize (w.alloc (.cells #[.int .i64 X,.string id,.int .i64 tk,.int .i64 va,.int .i64 ha,.int .i64 a,.int .i64 b,.int .i64 i,.int .i64 d,.int .i64 j,.int .i64 f] 73)).alloc (.cells #[.int .i64 0,.int .i64 0,.int .i64 0,.int .i64 0,.int .i64 0,.int .i64 0,.int .i64 0,.int .i64 0,.int .i64 0,.int .i64 0,.int .i64 0,.int .i64 0,.int .i64 0] 77)=W at*;have bb:=Z1 ay;clear ay;refine zm (HP.o _) λw1 k=>?_;have bc:=Z1 k;have am:Below w.heap.size w W:=by first|exact P.o.1|(have:Below _ _ _:=P.o.1;rw[<-bb.o]at this;exact this)
 have s:=Z2 am bb.o;by_cases t:fY ⟨a,b,i,d,j,f⟩≠0
 ·as_aux_lemma=>
   have Q:nx c m ⟨X,id,tk,va,ha,a,b,i,d,j,f⟩=.of (fY ⟨a,b,i,d,j,f⟩)/\oB c m ⟨X,id,tk,va,ha,a,b,i,d,j,f⟩=m:=by
    unfold nx oB;exact⟨OB t,OB t⟩
   have R:=Z1 Q;have HY:=Z2 (P.o.2.2.later k) (af am k);generalize fY ⟨a,b,i,d,j,f⟩=pe at*;have d0:(pe==0)=false:=by simpa using t
   clear Q t k am
   go_wp2_with (refine ai aA rfl (.tmp 4) (.tmp 13) rfl (v9+1) (by rfl) _ (by rfl) HY.o.1 rfl (by rfl) (by simp[Value.oneCell']) ?_;intro w6 T B)
   refine OH (au aA rfl T rfl _ rfl) rfl ⟨by rw[R.o.1];rfl,?_⟩;rw[R.o.2];exact H.o.2.1.same (B.below HY.o.2 (by have:=s.o.2;omega))
 ·have a1:fY ⟨a,b,i,d,j,f⟩=0:=by simpa using t
  have HZ:=Z1 a1;rw[a1];clear t a1;obtain⟨⟨g0,U,g2,g3,g4,g5⟩,g6,g7,g8,g9,a2⟩:=bh (P.o.2.1.later k);clear c0 c1 c2 c3 c4 c5 c6 c7 c8 c9 cg k am;go_wp2_with fail;refine zm (cd.o _ (H.o.2.1.up (af s.o.1 bc.o))) λv O=>?_;have z:=Z1 (af bc.o O);clear O g0 U g2 g3 g4 g5 g6 g7 g8 g9 a2
  cases hfu:fO c m id with
  |true=>
   as_aux_lemma=>
   have Q:nx c m ⟨X,id,tk,va,ha,a,b,i,d,j,f⟩=.of 6/\oB c m ⟨X,id,tk,va,ha,a,b,i,d,j,f⟩=m:=by
    unfold nx oB;have t:=HZ.o;refine⟨?_,?_⟩
    ·rw[Oz (by show ¬fY ⟨a,b,i,d,j,f⟩≠0;rw[t];simp),OB hfu]
    ·rw[Oz (by show ¬fY ⟨a,b,i,d,j,f⟩≠0;rw[t];simp)];unfold fO at hfu;show(match dR c m (av id)with|none=>m|some y=>_)=m;rw[Option.isNone_iff_eq_none.1 hfu]
   have R:=Z1 Q;have HY:=Z2 (P.o.2.2.later z.o) (af s.o.1 z.o);clear Q hfu
   go_wp2_with (refine ai aA rfl (.tmp 4) (.tmp 18) rfl (v9+1) (by rfl) _ (by rfl) HY.o.1 rfl (by rfl) (by simp[Value.oneCell']) ?_;intro w6 T B)
   refine OH (au aA rfl T rfl _ rfl) rfl ⟨by rw[R.o.1];rfl,?_⟩;rw[R.o.2];exact H.o.2.1.same (B.below HY.o.2 (by have:=s.o.2;omega))
  |false=>
   have an:=xB H.o.1 H.o.2.1.ls H.o.2.1.C1.ids H.o.2.2.1 hfu;have Q:nx c m ⟨X,id,tk,va,ha,a,b,i,d,j,f⟩=.zero/\oB c m ⟨X,id,tk,va,ha,a,b,i,d,j,f⟩={m with ls:=aR m.ls (av id) (mh (dG fs id).x ⟨a,b,i,d,j,f⟩)}:=by
    unfold nx oB;have t:=HZ.o;refine⟨?_,?_⟩
    ·rw[Oz (by show ¬fY ⟨a,b,i,d,j,f⟩≠0;rw[t];simp),Oz (by show ¬fO c m id=true;rw[hfu];simp)]
    ·rw[Oz (by show ¬fY ⟨a,b,i,d,j,f⟩≠0;rw[t];simp)];show(match dR c m (av id)with|none=>m|some y=>_)=_;rw[an];rfl
   have R:=Z1 Q;have r:=af s.o.1 z.o;have D:=sK (H.o.2.1.up r).C1 id;have ao:=mv H.o.2.1.C1 id;have ad:=qn fs id;have a3:=Z1 (λV (hb:Below v.heap.size v V)=>ce.o V ((H.o.2.1.up r).C1.up hb).map);obtain⟨A1,s1,A2,s2,e1,e2⟩:=jl D;have cj:=Z3 D ao ad;have u:=cf.o v (by first|exact r|(have:Below _ _ _:=r;rw[s.o.2]at this;exact this));have ck:=(H.o.2.1.up r).B0.lt;have L:=P.o.2.1.later z.o;have a4:=Z1 L;have bz:=L.lt;have U:=L.cell 1;generalize dG fs id=cl at*;obtain⟨cm,d1,d2,⟨l,n,⟨p0,p1,p2,p3,p4,p5⟩,cn⟩⟩:=cl;simp only at e1 e2;subst e1 e2;simp only[ldV]at a3;clear Q hfu an r D ao ad L;go_wp2;have hS:=(Oy v.heap.size v).drew;refine bW 8 (S:=λV=>Below v.heap.size v V) (by kernel_rfl) (by kernel_rfl) hS ?_;simp only[OM,OO,ON,OQ];try simp only[zD,zE,Nat.reduceAdd,zG]
   refine zp 0 ?_;refine zp 1 ?_;refine zp 2 ?_;refine zq 3 _ ?_ (hy:=λW hW=>by have q0:=(OF hW (p:=⟨mb,4,none⟩) ck).trans u;exact zf);refine zp 4 ?_;refine zq 5 _ ?_ (hy:=λW hW=>by have q0:=(OF hW (p:=⟨v9,1,none⟩) bz).trans U;exact zf);refine zq 6 _ ?_ (hy:=λW hW=>by have d3:=a3.o _ hW;exact zf);refine zo 7 λK hK=>?_;go_simp;refine hK _ _ (ae hS _) ?_;clear hK;refine zn ?_;refine zd ?_;rw[bI];clear hS U u;go_upto_region 7 with(refine ai gO rfl (.tmp 6) (.tmp 25) rfl v.heap.size (by rfl) _ (by rfl) (Blk.A8 v.drew 53 (ldC (.slice none 0 0) (.slice none 0 0) .new) rfl) rfl (by rfl) (by simp[Value.oneCell']) ?_;intro w3 be bf;have ap:=Z2 be (bf.below (ae (Oy v.heap.size v).drew _) (OA _));clear be bf)
   obtain⟨⟨t0,t1,t2,t3,t4,t5,t6,t7,t8⟩,u2,u3,u4,u5,u6,u7,u8⟩:=eR ap.o.1;obtain⟨⟨g0,U,g2,g3,g4,g5⟩,g6,g7,g8,g9,a2⟩:=bh (a4.o.later ap.o.2);go_wp2;obtain⟨V5,bg,bi,bj⟩:=Jo ap.o.1 (.int .i64 a) (.int .i64 b) (.int .i64 i) (.int .i64 d) (.int .i64 j) (.int .i64 f) (.bool true);rw[bg];have a5:=bj.below ap.o.2 (OA _);have F:=Z2 a5 bi;have a6:=af (af s.o.1 z.o) a5;have G:=Z1 (H.o.2.1.up a6);clear t0 t1 t2 t3 t4 t5 t6 t7 t8 u2 u3 u4 u5 u6 u7 u8 g0 U g2 g3 g4 g5 g6 g7 g8 g9 a2 bg bj a5 bi;have U:=(a4.o.later F.o.1).cell 1;have u:=G.o.B0.cell 4;obtain⟨⟨t0,t1,t2,t3,t4,t5,t6,t7,t8⟩,_⟩:=eR F.o.2;have bk:=Z1 a6;clear a6;refine aY 7 (by kernel_rfl) (by kernel_rfl) ?_;simp only[OM,OO,ON,OQ];repeat still_step
   refine wpStill_nil ?_;refine cZ rfl _ _ _ 133 53 rfl lE underlying133 id H.o.2.2.2.1 (ldV (.slice A1 l.length s1) (.slice A2 n.length s2) ⟨l,n,⟨a,b,i,d,j,f⟩,true⟩) rfl rfl rfl (aw.D3 G.o.C1.map rfl) (by rw[Pe];have:=H.o.2.2.2.2.2;omega) ?_;intro V6 bl q cr;have bm:=q.B0 (Blk.drew (P.o.2.2.later (af z.o F.o.1))) (λe=>aw.C9 G.o.C1.map (P.o.2.2.later (af z.o F.o.1)) e.symm);have aq:=Z3 bl q bm;clear bl q cr bm U u t0 t1 t2 t3 t4 t5 t6 t7 t8
   go_wp2_with (refine ai aA rfl (.tmp 4) (.tmp 37) rfl (v9+1) (by rfl) _ (by rfl) aq.o.2.2 rfl (by rfl) (by simp[Value.oneCell']) ?_;intro w6 T B)
   refine OH (au aA rfl T rfl _ rfl) rfl ⟨by rw[R.o.1];rfl,?_⟩;rw[R.o.2];obtain⟨D,ao,ad⟩:=cj.o;have ay:=s.o.2;have d4:=bk.o.size;have hD:=aq.o.1;have q:=aq.o.2.1;have N:ag (λb=>b=lb) V5 V6:=⟨q.os,q.tape,q.output,q.size,q.block⟩;have dz:(id,ldV (.slice A1 l.length s1) (.slice A2 n.length s2) ⟨l,n,⟨a,b,i,d,j,f⟩,true⟩)=Fe.val ⟨id,.slice A1 l.length s1,.slice A2 n.length s2,⟨l,n,⟨a,b,i,d,j,f⟩,true⟩⟩:=rfl;have ca:=kz fs ⟨id,.slice A1 l.length s1,.slice A2 n.length s2,⟨l,n,⟨a,b,i,d,j,f⟩,true⟩⟩;rw[ca]at hD;have A:gN V5 ⟨cm,.slice A1 l.length s1,.slice A2 n.length s2,⟨l,n,⟨p0,p1,p2,p3,p4,p5⟩,cn⟩⟩:=⟨aN D.D2 F.o.1,D.C0.later F.o.1⟩;have cb:gN V6 ⟨id,.slice A1 l.length s1,.slice A2 n.length s2,⟨l,n,⟨a,b,i,d,j,f⟩,true⟩⟩:=
    ⟨N.C8 A.D2 λg hg e=>aw.E7 G.o.C1.map A.D2 (e▸hg),A.C0.D3 λg hg=>N.block g (A.C0.lt g hg).2 λe=>fZ G.o.C1.map A.C0 (e▸hg)⟩
   have ct:Pl.right ⟨a,b,i,d,j,f⟩=true:=by
    have:=HZ.o;rw[sH]at this;split at this
    ·assumption
    ·cases this
   have cu:=G.o.put ⟨id,.slice A1 l.length s1,.slice A2 n.length s2,⟨l,n,⟨a,b,i,d,j,f⟩,true⟩⟩ H.o.2.2.1 (rH (p:=⟨a,b,i,d,j,f⟩) ao H.o.2.2.2.2.1.D8 ct) cb N hD;have cw:ag (λb=>b=mb\/b=lb) w w6:=by
    refine bL ((ag.B5 bk.o).trans (N.C3 λb e=>.inr e)) B.B7 λb hb e=>?_;omega
   exact⟨⟨_,_,_,cu.only B aq.o.2.2⟩,cw⟩
def xC{w:World}{kv:List (Option (Nat×List Fe))}(h:an w w.heap.size 3 A n (eL 0 kv)){k:Nat}(hk:k<n){o:Option (Nat×List Fe)}(ho:kv[k]?=some o):
  ∃b f,A=some (Y b f)/\b<w.heap.size/\∀j u,(nw k o)[j]?=some u->w.cell? (Y b (f+k*3+j))=some u:=by
 obtain⟨b,f,rfl,a,c⟩:=h.J6 (k:=k) zP hk;refine⟨b,f,rfl,a,λj u d=>?_⟩;have e:=xz kv 0 k o ho j u (by rw[PS];exact d);have g:=c (k*3+j) u e
 rwa [<-PQ]at g
def FG{kv:List (Option (Nat×List Fe))}(h:m.B9=kv.map (Option.map λe=>fls e.2))(k:Nat):(m.B9.getD k none).isNone=(kv.getD k none).isNone:=by
 rw[h,OP,OP,Pz]
 cases kv[k]? with
 |none=>rfl
 |some o=>cases o<;>rfl
def vd(c:Cg)(mb lb:Nat)(fs:List Fe)(kv:List (Option (Nat×List Fe)))(cv:Value)(m:Mp)(h:cq w c mb lb fs kv cv m)(hl:kv.length<=90000)(n:Int)(hn:aq n):
  C 155 #[Z mb 0,I n] w λe w'=>e=.returned (I (findE m.B9 n))/\w=w':=by
 have p:=h.small;have a:=h.row;obtain⟨A,y,rfl,_,_⟩:=ak a;have z:=h.B0.cell 5;have j:=an.C4 a;by_cases s:n<1
 ·have d:Hid (findE m.B9 n=5):=Z1 (by unfold findE;rw[OB (.inl s)]);generalize kv.length=q at*;clear h a j
  go_in
  go_wp2;go_ret;exact⟨aC d.o.symm,rfl⟩
 ·by_cases t:(kv.length:Int)<n
  ·have d:Hid (findE m.B9 n=5):=Z1 (by unfold findE;rw[OB (.inr (by rw[p];exact t))]);generalize kv.length=q at*;clear h a j
   go_in
   go_wp2;go_ret;exact⟨aC d.o.symm,rfl⟩
  ·obtain⟨k,rfl⟩:∃k:Nat,n=(k:Int)+1:=⟨(n-1).toNat,zO⟩;have r:k<kv.length:=zO;have g:=OL r;obtain⟨b,f,rfl,v,l⟩:=xC j r g;have i:findE m.B9 ((k:Int)+1)=if kv[k].isNone=true then 8 else 0:=by
    unfold findE;rw[Oz zO,show((k:Int)+1).toNat - 1=k by omega,FG h.J8,OP,g];rfl
   generalize kv[k]=o at*
   cases o with
   |none=>
    have u:=l 2 (.bool true) rfl;have d:=Z1 i;generalize kv.length=q at*;clear h a j l i g
    go_in
    go_wp2;go_ret;exact⟨aC d.o.symm,rfl⟩
   |some e=>
    obtain⟨B,x⟩:=e;have u:=l 2 (.bool false) rfl;have d:=Z1 i;generalize kv.length=q at*;clear h a j l i g
    go_in
    go_wp2;go_ret;exact⟨aC d.o.symm,rfl⟩
def FH{α:Type}(l:List (Option α))(o:Option α):liveN (l++[o])=liveN l+if o.isSome=true then 1 else 0:=by
 unfold liveN;rw[Ql,OS]
 cases o<;>simp
def Jq{α β:Type}(f:α->β)(l:List (Option α)):liveN (l.map (Option.map f))=liveN l:=by
 induction l with
 |nil=>rfl
 |cons a r ih=>
  unfold liveN at ih ⊢
  cases a<;>simp[ih]
def LV{α:Type}(l:List (Option α)):liveN l<=l.length:=PF _ _
def CW:cU prog 268 3:=⟨zR,zR,zR⟩
def FI(c:Cg)(mb lb:Nat)(fs:List Fe)(kv:List (Option (Nat×List Fe)))(cv:Value)(m:Mp)(h:cq w c mb lb fs kv cv m)(hl:kv.length<=90000):
  C 152 #[Z mb 0] w (J (I (liveN m.B9)) w):=by
 have p:liveN m.B9=liveN kv:=by rw[h.J8,Jq]
 have j:=h.row;obtain⟨A,c1,rfl,_,_⟩:=ak j;have H:=h.B0.cell 5;have r:=Z1 j;obtain⟨n,y⟩:∃n,n=kv.length:=⟨_,rfl⟩;rw[<-y]at H r hl;have z:=Z2 y p;clear h j p y
 go_in
 go_wp2;go_loopw [3,11] (λL B wr=>∃(i q:Nat),i<=n/\q<=i/\B=I i/\L=I q/\Hid (q=liveN (kv.take i)/\M w wr)) (λ_ B _=>n-(intOf B).toNat)
 case atStart=>exact⟨0,0,OK _,OA _,rfl,rfl,Z1 ⟨rfl,Oy _ _⟩⟩
 case round=>
  obtain⟨i,q,hi,T,rfl,rfl,k⟩:=hrel;by_cases F:i<n
  ·have s:i<kv.length:=by have:=z.o.1;omega
   have t:=OL s;have u:=an.C4 (aN r.o k.o.2);obtain⟨b,f,rfl,U,a⟩:=xC u F t;have v:liveN (kv.take (i+1))=q+if kv[i].isSome=true then 1 else 0:=by
    rw[OG s,FH,<-k.o.1]
   have x:=Z1 v;clear v t u;generalize kv[i]=o at*
   cases o with
   |none=>
    have N:wr.cell? (Y b (f+i*3))=some (I 0):=a 0 (I 0) rfl;have O:=a 1 (.map none) rfl;have P:=a 2 (.bool true) rfl;clear a
    go_wp2_with (refine zj CW (Blk.A8 wr 268 #[I 0,.map none,.bool false] rfl) ?_;intro D d g;have Q:D.cell? (Y wr.heap.size 2)=some (.bool true):=d.cell 2;have l:=Z1 (g.below (zh wr _) (OA _));clear d g)
    go_roundw
    case rel=>exact⟨i+1,q,zO,zO,by go_num,rfl,Z1 ⟨x.o.symm,af k.o.2 l.o⟩⟩
    case measure=>simp[intOf];omega
   |some e=>
    obtain⟨R,X⟩:=e;have N:wr.cell? (Y b (f+i*3))=some (I ((i:Int)+1)):=a 0 (I ((i:Int)+1)) rfl;have O:=a 1 (.map (some R)) rfl;have P:=a 2 (.bool false) rfl;clear a
    go_wp2_with (refine zj CW (Blk.A8 wr 268 #[I 0,.map none,.bool false] rfl) ?_;intro D d g;have Q:D.cell? (Y wr.heap.size 2)=some (.bool false):=d.cell 2;have l:=Z1 (g.below (zh wr _) (OA _));clear d g)
    go_roundw
    case rel=>exact⟨i+1,q+1,zO,zO,by go_num,by go_num,Z1 ⟨x.o.symm,af k.o.2 l.o⟩⟩
    case measure=>simp[intOf];omega
  ·obtain rfl:i=n:=zO;have G:q=liveN m.B9:=by rw[z.o.2,k.o.1,z.o.1,PO]
   have S:=Z1 G;clear G;go_wp2;go_ret;exact⟨aC (by rw[S.o]),k.o.2⟩
def Li{α:Type}{l:List (Option α)}{n:Int}(h:findE l n=0):∃k:Nat,n=(k:Int)+1/\k<l.length/\(l.getD k none).isNone=false:=by
 unfold findE at h;split at h
 ·cases h
 ·rename_i a;refine⟨(n-1).toNat,zO,zO,?_⟩;have e:n.toNat-1=(n-1).toNat:=zO;rw[e]at h
  cases hq:(l.getD (n-1).toNat none).isNone with
  |false=>rfl
  |true=>rw[OB hq]at h;cases h
def FJ(c:Cg)(hc:c.ok)(mb lb:Nat)(fs:List Fe)(kv:List (Option (Nat×List Fe)))(cv:Value)(m:Mp)(h:cq w c mb lb fs kv cv m)(hl:kv.length<=90000)(x:Cl)(hx:x.ok)(hi:bd x.id=true):
  C 117 #[Z mb 0,x.val] w λe w'=>e=.returned (eF m x.handle (av x.id) x.tick x.value).val/\M w w':=by
 have hs:=Cg.small hc;have bp:x.id.size<=maxLen:=by have:=(dn hi).2.1;unfold maxLen;omega
 have a2:=zh w (.cells x.arr 73);have a3:=ae a2 (.cells Rp.zero.arr 77);have ad:=(Blk.A8 w 73 x.arr rfl).alloc (.cells Rp.zero.arr 77);have a4:=Blk.A8 (w.alloc (.cells x.arr 73)) 77 Rp.zero.arr (g:=w.heap.size+1) zS;have HF:=Z1 (λW hW=>vd W c mb lb fs kv cv m hW hl x.handle (by exact hx.handle));have H:=Z4 h bp hx hi;have l:=Z3 a3 ad a4;have j:Hid (eF m x.handle (av x.id) x.tick x.value=if findE m.B9 x.handle=0 then(match ap ((m.B9.getD (x.handle.toNat-1) none).getD []) (av x.id)with|none=>.of 5|some y=>⟨0,x.handle,0,atF y.D2 x.tick x.value,az⟩)else .of (findE m.B9 x.handle)):=Z1 rfl;obtain⟨xk,id,tk,va,ha,a,b,cc,d,e0,f⟩:=x;unfold Cl.val;simp only[Cl.arr,Rp.zero,Rp.arr,St.zero,St.arr,az,Cl.D8]at*;obtain⟨⟨c0,c1,c2,c3,c4,c5⟩,c6,c7,c8,c9,br⟩:=bh ad;generalize bs:(w.alloc (.cells #[I xk,.string id,I tk,I va,I ha,I a,I b,I cc,I d,I e0,I f] 73)).alloc (.cells #[I 0,I 0,I 0,I 0,I 0,I 0,I 0,I 0,I 0,I 0,I 0,I 0,I 0] 77)=V at*;have a5:V.heap.size=w.heap.size+2:=by rw[<-bs];simp
 clear h a2 a3 ad a4 hx hi;by_cases D:findE m.B9 ha=0
 ·rw[OB D]at j;obtain⟨k,bt,a6,G⟩:=Li D;have bu:ha.toNat-1=k:=zO;rw[bu]at j;have a7:k<kv.length:=by rw[<-H.o.1.small];exact a6
  have L:=OL a7;rw[FG H.o.1.J8,OP,L]at G
  cases hkv:kv[k]with
  |none=>rw[hkv]at G;cases G
  |some e=>
   obtain⟨eb,N⟩:=e;have bv:=(H.o.1.up l.o.1).B0.lt;have bw:=l.o.2.1.lt;have a8:some (eb,N)∈kv:=by rw[<-hkv];exact OR _
   obtain⟨O,bx⟩:=H.o.1.J9 _ a8;have hD:(m.B9.getD k none).getD []=fls N:=by
    rw[H.o.1.J8,OP,Pz,L,hkv];rfl
   rw[hD,jk O.ids H.o.2.2.2]at j;have a9:=Z1 (λU (hW:ig U eb (N.map Fe.val))=>hW.look_ok H.o.2.1);rw[mu]at a9;have ai:=O.up l.o.1;have F:=(H.o.1.up l.o.1).row;obtain⟨A,di,rfl,_,_⟩:=ak F;have d5:=(H.o.1.up l.o.1).B0.cell 5;obtain⟨b9,f9,rfl,al,v⟩:=xC (an.C4 F) a7 L;rw[hkv]at v;have g0:=v 0 (I ((k:Int)+1)) rfl;have g1:=v 1 (.map (some eb)) rfl;have g2:=v 2 (.bool false) rfl;have P:=Z1 (HF.o V (H.o.1.up l.o.1));rw[D]at P;have am:=Z2 ai O;have HS:=Z1 a5;subst bt;clear D a6 G L hkv a8 O bx hD ai F v HF a5;generalize kv.length=q at*
   go_in
   go_wp2_with fail;refine zY P.o ?_;go_wp2;have dj:IntKind.i64.wrap (k:Int)=(k:Int):=by rw[OX];omega
   have z:=(zi V);refine bW 10 (S:=λU=>M V U) zR zR z ?_;simp only[OM,OO,ON,OQ];try simp only[zD,zE,Nat.reduceAdd,zG]
   refine zL ?_;refine zQ 3 _ ?_ (hy:=λW hW=>by have q0:=(OF hW (p:=Y mb 5) bv).trans d5;exact zf);refine zQ 5 _ ?_ (hy:=λW hW=>by have q0:=(OF hW (p:=Y w.heap.size 4) bw).trans c4;exact zf);refine zq 8 _ ?_ (hy:=λW hW=>by have r0:=(OF hW (p:=Y b9 (f9+k*3)) al).trans g0;have r1:=(OF hW (p:=Y b9 (f9+k*3+1)) al).trans g1;have r2:=(OF hW (p:=Y b9 (f9+k*3+2)) al).trans g2;exact zf);refine zo 9 λK hK=>?_;go_simp;refine zJ hK (ae z _) ?_;rw[bI];clear z d5 g0 g1 g2 c0 c1 c2 c3 c4 c5 c6 c7 c8 c9 br;go_upto_region 5 with(first|(refine zj CW (Blk.A8 V.drew 268 #[I 0,.map none,.bool false] rfl) ?_;intro t Q ba;have t0:t.cell? (Y V.heap.size 0)=some (I ((k:Int)+1)):=Q.cell 0;have t1:t.cell? (Y V.heap.size 1)=some (.map (some eb)):=Q.cell 1;have bb:=Z1 Q;have R:=Z1 (ba.below (ae (zi V) _) (OA _));have k1:t.cell? (Y w.heap.size 1)=some (.string id):=(l.o.2.1.later R.o).cell 1;have r:=a9.o t (am.o.1.up R.o).map;clear Q ba)|fail)
   cases hg:eA N id with
   |none=>
    as_aux_lemma=>
    rw[hg]at r j;simp only[QH,QV,RE,ldV,Ld.new,Pl.zero]at r j;clear hg
    go_wp2_with (first|(refine zj gO (Blk.A8 t 53 (ldC (.slice none 0 0) (.slice none 0 0) .new) rfl) ?_;intro B T u;have i:=Z1 (af R.o (u.below (zh t _) (OA _)));clear T u)|(refine zj aA (l.o.2.2.later i.o) ?_;intro w6 X b3))
    exact OH (au aA rfl X rfl _ rfl) rfl ⟨by rw[j.o];rfl,b3.below (af l.o.1 i.o) zO⟩
   |some s=>
    have aq:=am.o.1.rows s (iu hg).1;have ar:=am.o.1.C6 s (iu hg).1;obtain⟨A1,e1,A2,e2,f1,f2⟩:=jl aq;have aw:s.x.D2.length<=100000:=by have:=ar.E5;have:=hs.1;omega
    have bc:=uV ar;have aa:=aq.D2;rw[f1]at aa;have be:=Z1 (λn U hr hn=>tJ s.x.D2 A1 e1 n tk va U hr hn bc (by exact H.o.2.2.1.tick) (by exact H.o.2.2.1.value));rw[hg]at r j;simp only[PT,Qd,Rl,ldV,f1,f2]at r;have bo:Hid (eF m ((k:Int)+1) (av id) tk va=⟨0,(k:Int)+1,0,atF s.x.D2 tk va,az⟩):=Z1 j.o;clear j;generalize b5:atF s.x.D2 tk va=st at*;obtain⟨s0,s1,s2,s3,s4⟩:=st;obtain⟨n1,bf⟩:∃n,n=s.x.D2.length:=⟨_,rfl⟩;obtain⟨n2,bg⟩:∃n,n=s.x.C0.length:=⟨_,rfl⟩;rw[<-bf]at aa aw r;rw[<-bg]at r;have bi:=Z2 aa aw;generalize s.x.D8=b6 at*;obtain⟨p0,p1,p2,p3,p4,p5⟩:=b6;generalize s.x.E9=ru at*;clear hg aq ar f1 f2 aw bc aa b5 bf bg;try simp only[St.arr]at be
    go_upto_region 8 with(first|(refine zj gO (Blk.A8 t 53 (ldC (.slice none 0 0) (.slice none 0 0) .new) rfl) ?_;intro B T u;have i:=Z3 (af R.o (u.below (zh t _) (OA _))) T (u.below (zh t _) (OA _));clear T u)|fail)
    obtain⟨⟨u0, -⟩, -⟩:=eR i.o.2.1;obtain⟨⟨-, -,l2,l3, -⟩, -⟩:=bh (l.o.2.1.later i.o.1);have l0:B.cell? (Y V.heap.size 0)=some (I ((k:Int)+1)):=(bb.o.later i.o.2.2).cell 0;have cd:=(bb.o.later i.o.2.2).lt;have ce:=i.o.2.1.lt;have bj:=(l.o.2.1.later i.o.1).lt;have cf:=Z1 (aN bi.o.1 i.o.1);have z:M B B.drew:=(zi B);go_wp2;refine bW 10 (S:=λU=>M B U) zR zR z ?_;simp only[OM,OO,ON,OQ];try simp only[zD,zE,Nat.reduceAdd,zG]
    refine zL ?_;refine zQ 1 _ ?_ (hy:=λW hW=>by have q0:=(OF hW (p:=Y V.heap.size 0) cd).trans l0;exact zf);refine zQ 3 _ ?_ (hy:=λW hW=>by have q0:=(OF hW (p:=Y t.heap.size 0) ce).trans u0;exact zf);refine zQ 5 _ ?_ (hy:=λW hW=>by have q0:=(OF hW (p:=Y w.heap.size 2) bj).trans l2;exact zf);refine zq 7 _ ?_ (hy:=λW hW=>by have q0:=(OF hW (p:=Y w.heap.size 3) bj).trans l3;exact zf);refine zo 8 λK hK=>?_;go_simp;refine zm (be.o _ _ (an.C4 (aN cf.o z)) bi.o.2) λw6 X=>?_;have ax:=af z X;refine zJ hK ax ?_;rw[bI];have bk:=Z1 ax;clear z ax X u0 l0 l2 l3 t0 t1 k1;have HQ:=l.o.2.2.later (af i.o.1 bk.o);refine zj aA HQ ?_;intro w7 ab ac;have ch:=Z1 ac;have ci:=Z1 ab;clear HQ ac ab;go_wp2;exact OH (au aA rfl ci.o rfl _ rfl) rfl ⟨by rw[bo.o];rfl,ch.o.below (af l.o.1 (af i.o.1 bk.o)) zO⟩
 ·rw[Oz D]at j;have d5:=(H.o.1.up l.o.1);have P:=Z1 (HF.o V d5);generalize findE m.B9 ha=s at*;have hq:(s==0)=false:=by simpa using D
  clear HF d5 D
  go_in
  go_wp2_with fail;refine zY P.o ?_
  go_wp2_with (first|(refine zj aA l.o.2.2 ?_;intro w7 ab ac))
  exact OH (au aA rfl ab rfl _ rfl) rfl ⟨by rw[j.o];rfl,ac.below l.o.1 zO⟩
def vg:∀(l:List (Option (Nat×List Fe))) (i k:Nat),k<l.length->
  eL i (l.set k none)=(((eL i l).set (k*3) (I 0)).set (k*3+1) (.map none)).set (k*3+2) (.bool true)
 |[],i,k,h=>by simp at h
 |o::r,i,0,h=>by cases o<;>simp[eL,nw]
 |o::r,i,k+1,h=>by
  have ih:=vg r (i+1) k (by simpa using h);rw[Ow];unfold eL;rw[ih,show(k+1)*3=k*3+1+1+1 by omega]
  cases o<;>simp[nw,Ow]
def ag.go{L2:Nat->Prop}{w w1:World}(h:ag L w w1)(h2:ag L2 w1 w2)(hl:∀k,L2 k->L k\/w.heap.size<=k):ag L w w2:=
 ⟨h2.os.trans h.os,h2.tape.trans h.tape,h2.output.trans h.output,OJ h.size h2.size,λk a b=>(h2.block k (OV a h.size) λe=>(hl k e).elim b λe=>zO).trans (h.block k a b)⟩
def FK(c:Cg)(mb lb:Nat)(fs:List Fe)(kv:List (Option (Nat×List Fe)))(cv:Value)(m:Mp)(h:cq w c mb lb fs kv cv m)(hl:kv.length<=90000)(n:Int)(hn:aq n):
  C 116 #[Z mb 0,I n] w λe w'=>e=.returned (Rp.of (findE m.B9 n)).val/\dM w w' c mb lb (kR m n):=by
 have r:=zh w (.cells Rp.zero.arr 77);have O:=Blk.A8 w 77 Rp.zero.arr rfl;have X:=Z1 (vd _ c mb lb fs kv cv m (h.up r) hl n hn);have B:=Z2 r O;have H:=Z1 h;simp only[Rp.zero,Rp.arr,St.zero,St.arr,az]at*;generalize bm:w.alloc (.cells #[I 0,I 0,I 0,I 0,I 0,I 0,I 0,I 0,I 0,I 0,I 0,I 0,I 0] 77)=V at*;by_cases D:findE m.B9 n=0
 ·obtain⟨k,rfl,ac,_⟩:=Li D;have ad:k<kv.length:=by rw[<-h.small];exact ac
  have x:kR m ((k:Int)+1)={m with B9:=m.B9.set k none}:=by
   unfold kR;rw[OB D,show((k:Int)+1).toNat - 1=k by omega]
  have F:=(h.up r).row;obtain⟨A,c1,rfl,_,_⟩:=ak F;have HC:=Z1 (yX (eL 0 kv) A c1 kv.length V (an.C4 F) (FB kv 0) zO);have HM:=Z2 x ad;rw[D]at X ⊢;have d5:=(h.up r).B0.cell 5;obtain⟨q,hq⟩:∃q,q=kv.length:=⟨_,rfl⟩;rw[<-hq]at d5 HC ad;have HQ:=Z1 hq;clear h r O D ac x F hq
  go_in
  go_wp2_with fail;refine zY X.o ?_;go_wp2_with fail;refine zX HC.o λv G N=>?_;have y:=(H.o.up (af B.o.1 N.below)).B0;have e5:=y.cell 5;have f5:=y.frozen 5;have a1:∃g i,v=.slice (some (Y g 0)) q i/\V.heap.size<=g/\g<G.heap.size:=by
   rcases N.own.2 with⟨e,l⟩|⟨g,i,bn,e,a2,hh,_⟩
   ·omega
   ·exact⟨g,i,e,a2,(PX.1 hh).1⟩
  obtain⟨g,i,rfl,ae,bo⟩:=a1;have am:=N.own;have a3:g≠mb:=λe=>aB N.own y zP (by rw[e];rfl);have d:=Z4 N y ae a3;clear N ae am d5 y;go_upto_region 4 with fail
  have a4:=HQ.o;have ah:ag (λb=>b=mb) G (G.setCell (Y mb 5) (.slice (some (Y g 0)) q i)):=(ag.refl (λb=>b=mb) G).setCell (p:=Y mb 5) (.inl rfl) _;have a:=bA d.o.1.own (p:=Y mb 5) (λe=>d.o.2.2.2 (by simpa[Value.ownBlock]using e)) (.slice (some (Y g 0)) q i);have t:=d.o.2.1.B4 5 (.slice (some (Y g 0)) q i);generalize G.setCell (Y mb 5) (.slice (some (Y g 0)) q i)=w3 at*;have d5:=t.cell 5;have b0:=RW a (k*3) zO;have b1:=RW a (k*3+1) zO;have b2:=RW a (k*3+2) zO;have a6:=pH kv 0;rw[OL zO]at b0 b1 b2;have g0:=RJ a (k*3);have g1:=RJ a (k*3+1);have g2:=RJ a (k*3+2);have P:=Z3 ah a t;generalize (eL 0 kv)[k*3]'_=u0 at b0;generalize (eL 0 kv)[k*3+1]'_=u1 at b1;generalize (eL 0 kv)[k*3+2]'_=u2 at b2;have a7:IntKind.i64.wrap (k:Int)=(k:Int):=by rw[OX];omega
  have bp:q<=90000:=zO;clear ah a t a6 a4 e5 f5;go_upto_region 5 with fail
  have u:=(RX (RX (RX P.o.2.1 (k*3) (I 0)).1 (k*3+1) (.map none)).1 (k*3+2) (.bool true)).1;rw[<-vg kv 0 k HM.o.2]at u;have ai:ag (λb=>b=mb\/b=g) G (((w3.setCell (Y g (k*3)) (I 0)).setCell (Y g (k*3+1)) (.map none)).setCell (Y g (k*3+2)) (.bool true)):=
   (((P.o.1.C3 λ_ e=>.inl e).setCell (p:=Y g (k*3)) (.inl (.inr rfl)) _).setCell (p:=Y g (k*3+1)) (.inl (.inr rfl)) _).setCell (p:=Y g (k*3+2)) (.inl (.inr rfl)) _
  have Q:=((P.o.2.2.D1 (p:=Y g (k*3)) (Pc d.o.2.2.2) (I 0)).D1 (p:=Y g (k*3+1)) (Pc d.o.2.2.2) (.map none)).D1 (p:=Y g (k*3+2)) (Pc d.o.2.2.2) (.bool true);generalize ((w3.setCell (Y g (k*3)) (I 0)).setCell (Y g (k*3+1)) (.map none)).setCell (Y g (k*3+2)) (.bool true)=w5 at*;have L:=Z3 u ai Q;clear u ai Q d5 b0 b1 b2 g0 g1 g2 a7;have R:=L.o.2.1.B0 (B.o.2.later d.o.1.below) (by
   have S:=B.o.2.lt;have h2:=d.o.2.2.1;have h3:=H.o.B0.lt;rintro(e|e)<;>omega)
  have a8:=Z1 R;clear R
  go_wp2_with (refine zj aA a8.o ?_;intro w6 T z)
  refine OH (au aA rfl T rfl _ rfl) rfl ⟨rfl,?_⟩;have bq:=B.o.2.lt;have br:=H.o.B0.lt;have bs:=d.o.2.2.1;have a9:=((ag.B5 (af B.o.1 d.o.1.below):ag (λb=>b=mb) w G)).go L.o.2.1 λb e=>e.imp id λe=>zO;have hK:=a9.go z.B7 λb e=>.inr (by have:b=w.heap.size:=e;omega);have av:=z.B0 L.o.2.2 zO;rw[HM.o.1];refine⟨⟨fs,kv.set k none,.slice (some (Y g 0)) q i,⟨?_,?_,H.o.ls,?_,?_,?_⟩⟩,hK.C3 λb e=>.inl e⟩
  ·rw[PI]
   simpa using av
  ·exact H.o.C1.B7 hK (λe=>H.o.ne.1 e.symm) λf U=>⟨λb j l=>((H.o.C1.D1 H.o.C1.map H.o.B0) f U).1 b j (.inl l),λb j l=>((H.o.C1.D1 H.o.C1.map H.o.B0) f U).2 b j (.inl l)⟩
  ·rw[PI,<-HQ.o];exact aP (z.B7.C8 L.o.1 λb j l=>by
    have S:g=b:=by simpa[Value.ownBlock]using j
    have h2:=l;omega) (OK _)
  ·show m.B9.set k none=_;rw[H.o.J8,List.map_set];rfl
  ·intro e he;have aj:some e∈kv:=by
    rcases List.mem_or_eq_of_mem_set he with S|S
    ·exact S
    ·cases S
   have s:=(H.o.J9 e aj).1;exact⟨s.B7 hK (λj=>aw.C9 s.map H.o.B0 j) λf U=>⟨λb j l=>(s.D1 s.map H.o.B0 f U).1 b j (.inl l),λb j l=>(s.D1 s.map H.o.B0 f U).2 b j (.inl l)⟩,(H.o.J9 e aj).2⟩
 ·have ba:=X.o;generalize al:findE m.B9 n=q at*;have hq:(q==0)=false:=by simpa using D
  have x:kR m n=m:=by unfold kR;rw[al,Oz D]
  have HX:=Z1 x;clear D al x h r O X
  go_in
  go_wp2_with fail;refine zY ba ?_
  go_wp2_with (refine zj aA B.o.2 ?_;intro w6 T z)
  refine OH (au aA rfl T rfl _ rfl) rfl ⟨rfl,?_⟩;rw[HX.o];exact H.o.same (z.below B.o.1 (OA _))
end Go.Fw
namespace Go.Proofs
open Go.Shelf Go.Fw
def O8:Go.Shelf.Ren:=⟨λ|5=>154|7=>193|n=>n,λ|23=>133|25=>9|3=>53|4=>4|20=>20|n=>n,λ|n=>n⟩
def lmc:Go.Proofs.SlLaysW.n5 prog O8:={
 mixed:=by kernel_rfl
 f5:=⟨f154.name,by decide,func154.trans (congrArg some (by kernel_rfl))⟩
 f7:=func193.trans (congrArg some (by kernel_rfl))
 t4:=underlying4
 a4:=isAgg4
 z4:=sizeOf4
 v4:=zeroValue4
 t20:=underlying20
 a20:=isAgg20
 z20:=sizeOf20
 v20:=zeroValue20
 t23:=underlying133
 a23:=isAgg133
 z23:=sizeOf133
 v23:=zeroValue133}
end Go.Proofs
namespace Go.Fw
open Go.RowKit open Go.Proofs hiding intOf
variable {w' w2:World}{P:Program}{ks:List K2}{i:ByteArray}{S S':Sto}{m:Mp}{g lb mb n bytes sp wp:Nat}{cs cs':Array Value}{L:Nat->Prop}{x:Cl}{ops:Array Oper}{rest:List Oper}{a:Act}{Q:Exit->Act->World->Prop}{cv z:Value}{A:Option Addr}{xs:List Value}{T:Nat->Tg}(w:World)(sv:Value)(s:ByteArray)(pv:Value)(l:List (Int×Int))(k:K2)(c b:Nat)
def Ax(l:List (ByteArray×Value))(h:ig w b l):
  C 154 #[.map (some b)] w λe w'=>e=.returned (.map (some w.heap.size))/\ig w' w.heap.size l/\M w w':=by
 obtain⟨a,c,d⟩:=h.own;refine(AnyW.maps_Clone_owns lmc _ _ b l.length (.map a) w c).mono ?_;rintro e w' ⟨rfl,f,_,g⟩;exact⟨rfl,⟨⟨a,f,d⟩,h.D7,h.E3⟩,g⟩
def FL(A:Option Addr)(n c:Nat)(hc:n<=c)(hm:c<=maxLen):
  C 153 #[.slice A n c] w λe w'=>e=.returned (.slice A n n)/\w'=w:=by
 unfold maxLen at hm
 go_in
 go_wp2;go_ret;exact⟨rfl,rfl⟩
def sL{s:Nat}{w:World}{t e e':TypeId}(hT:cE P t e z s bytes)(hs0:0<s)(ty:TypeId){c B:Nat}(hm:w.ownsRow B e s (.slice A n c) n xs)(hg:g=w.heap.size)(hcs:cs.size=s)(h1:∀u∈cs.toList,u.oneCell'=true)
  (hlen:(n+1)*bytes<=140737488355328)(hle:n+1<=maxLen):
  ∃v' w',(Builtin.append_ #[t,t] ty #[.slice A n n,V g 0 1 1]).run P (w.alloc (.cells cs e'))=.ok v' w'/\w'.ownsRow w.heap.size e s v' (n+1) (xs++cs.toList)/\w.grownBy w' none:=by
 subst hg;obtain⟨i,q,r,d,l⟩:=info_parts hT.info;have m:cs.toList.length=1*i.size:=by simp[hcs,d]
 have f:∀j u,cs.toList[j]?=some u->(w.alloc (.cells cs e')).cell? (((Y w.heap.size 0):Addr).add j)=some u:=by
  intro j u o;rw[show((Y w.heap.size 0):Addr).add j=(Y w.heap.size j) by unfold Addr.add;split<;>simp_all];rw[Qg]
  simpa using o
 have h:∀{w':World} {row:Option Nat},(w.alloc (.cells cs e')).grownBy w' row->w.grownBy w' row:=λa=>
  ⟨a.os,a.tape,a.output,OJ zS a.size,λk x v=>(a.block k zT v).trans (Qh w _ k x)⟩
 rcases hm.2 with⟨b,rfl⟩|⟨g,G,H,b,L,N,_⟩
 ·have y:=OU (by simpa using hm.1);subst y;injection b with b _ _;subst b;obtain⟨v',w',p,b,a,_,O⟩:=run_append_own_at (P:=P) (w.alloc (.cells cs e')) (w.alloc (.cells cs e')).heap.size t ty e i z s bytes hT.under q r d l hT.cells hs0 (.slice none 0 0) 0 [] (Pn _ _ _ _) (Y w.heap.size 0) 1 1 cs.toList (by rw[m,d]) f h1 hle hlen zS;exact⟨v',w',p,aP b zS,h a⟩
 ·injection b with b _ D;subst b D;obtain⟨v',w',p,F,a⟩:=run_append_arg_grows (P:=P) (w.alloc (.cells cs e')) t ty e i z s bytes hT.under q r d l hT.cells hs0 (Y g 0) n n xs hm.1
    (λj u o=>(hm.alloc (.cells cs e')).cells (g:=g) rfl j u o) (Y w.heap.size 0) 1 1 cs.toList (by rw[m,d]) f zO hle hlen
  exact⟨v',w',p,aP F zS,h a⟩
def tW{s:Nat}{w:World}{t e e':TypeId}{o:Oper}{K:Act->World->Prop}(hT:cE P t e z s bytes)(hs0:0<s)
  (sl x:Operand)(ho:o.op=.call {callee:=.builtin .append,args:=#[sl,x],argTypes:=#[t,t]})
  {c B:Nat}(hs:a.eval sl=.slice A n n)(hm:w.ownsRow B e s (.slice A n c) n xs)(hg:g=w.heap.size)(hx:a.eval x=V g 0 1 1)(hcs:cs.size=s)(h1:∀u∈cs.toList,u.oneCell'=true)
  (hlen:(n+1)*bytes<=140737488355328)(hle:n+1<=maxLen)
  (h:∀v' w',w'.ownsRow w.heap.size e s v' (n+1) (xs++cs.toList)->w.grownBy w' none->K (a.put o.dst v') w'):
  o.wp P a (w.alloc (.cells cs e')) K Q:=by
 obtain⟨v',w',b,d,f⟩:=sL (P:=P) (e':=e') hT hs0 o.type hm hg hcs h1 hlen hle;unfold Oper.wp execOp;simp only[ho,resolve,invoke,builtin,Sem.run_bind,Sem.run_pure,Result.andThen_ok,QS,Pi,Qs,hs,hx,b];exact h v' w' d f
def No:cE prog 134 268 (.agg #[I 0,.map none,.bool false]) 3 24:=⟨underlying134,zR,rfl⟩
def FM(c:Cg)(mb lb:Nat)(fs:List Fe)(kv:List (Option (Nat×List Fe)))(cv:Value)(m:Mp)(h:cq w c mb lb fs kv cv m)(hl:kv.length<=80000):
  C 115 #[Z mb 0] w λe w'=>e=.returned (fa m).val/\dM w w' c mb lb (iK m):=by
 have G:=zh w (.cells Rp.zero.arr 77);have al:=Blk.A8 w 77 Rp.zero.arr rfl;have HF:=Z1 (FI _ c mb lb fs kv cv m (h.up G) zO);have HB:=Z2 G al;have H:=Z1 h;have bk:liveN m.B9<=kv.length:=by rw[<-h.small];exact LV _
 simp only[Rp.zero,Rp.arr,St.zero,St.arr,az]at*;generalize b4:w.alloc (.cells #[I 0,I 0,I 0,I 0,I 0,I 0,I 0,I 0,I 0,I 0,I 0,I 0,I 0] 77)=V at*;by_cases n:64<=liveN m.B9
 ·have F:Hid (fa m=.of 6/\iK m=m):=Z1 (by unfold fa iK;rw[OB n,OB n];exact⟨rfl,rfl⟩);generalize liveN m.B9=lv at*;generalize kv.length=q at*;clear h G al
  go_in
  go_wp2_with fail;refine zm HF.o λw1 i=>?_;have HY:=Z2 (HB.o.2.later i) (af HB.o.1 i);clear i
  go_wp2_with (refine zj aA HY.o.1 ?_;intro w6 L bm)
  refine OH (au aA rfl L rfl _ rfl) rfl ⟨by rw[F.o.1];rfl,?_⟩;rw[F.o.2];exact H.o.same (bm.below HY.o.2 (OA _))
 ·have F:Hid (fa m=⟨0,m.B9.length+1,m.B9.length+1,.zero,az⟩/\iK m={m with B9:=m.B9++[some m.ls]}):=Z1 (by unfold fa iK;rw[Oz n,Oz n];exact⟨rfl,rfl⟩);rw[h.small]at F;obtain⟨q,hq⟩:∃q,q=kv.length:=⟨_,rfl⟩;rw[<-hq]at F hl bk;have HQ:=Z1 hq;generalize liveN m.B9=lv at*;clear h G al hq
  go_in
  go_wp2_with fail;refine zm HF.o λw2 i=>?_;have N:=H.o.up (af HB.o.1 i);have s:=N.B0;rw[<-HQ.o]at s;have v:=N.row;obtain⟨A,c1,rfl,bc,bn⟩:=ak v;rw[<-HQ.o]at v s bc;have e6:=s.cell 6;have f6:=s.frozen 6;have r:=Z4 i v s N.C1.map;clear i N s v;go_upto_region 4 with fail
  have ao:ag (λb=>b=mb) w2 (w2.setCell (Y mb 6) (I ((q:Int)+1))):=(ag.refl (λb=>b=mb) w2).setCell (p:=Y mb 6) (.inl rfl) _;have d:=r.o.2.2.1.B4 6 (I ((q:Int)+1));have O:=bA r.o.2.1 (p:=Y mb 6) (aB r.o.2.1 r.o.2.2.1 zP) (I ((q:Int)+1));have P:=aw.B7 r.o.2.2.2 ao (λe=>aw.C9 r.o.2.2.2 r.o.2.2.1 e);generalize w2.setCell (Y mb 6) (I ((q:Int)+1))=x at*;have d4:=d.cell 4;have d5:=d.cell 5;have d6:=d.cell 6;have ar:=d.lt;have H3:=Z4 ao d O P;have bq:=Z1 (λU=>FL U A q c1 bc bn);have D:=(zi x);clear ao d O P e6 f6;refine bW 20 (S:=λU=>M x U) zR zR D ?_;simp only[OM,OO,ON,OQ];try simp only[zD,zE,Nat.reduceAdd,zG]
  refine zL ?_;refine zQ 4 _ ?_ (hy:=λW hW=>by have q0:=(OF hW (p:=Y mb 5) ar).trans d5;exact zf);refine zQ 9 _ ?_ (hy:=λW hW=>by have q0:=(OF hW (p:=Y mb 6) ar).trans d6;exact zf);refine zq 13 _ ?_ (hy:=λW hW=>by have q0:=(OF hW (p:=Y mb 4) ar).trans d4;exact zf);refine zo 5 λK hK=>?_;go_simp;refine zl (bq.o _) ?_;refine zJ hK D ?_;refine zo 14 λK hK=>?_;go_simp
  (refine(Ax _ _ _ (aw.up H3.o.2.2.2 D)).mono ?_)
  rintro e6 w6 ⟨rfl,av,L⟩;have j:=af D L;refine zJ hK j ?_;refine zo 16 λK hK=>?_;go_simp;refine zJ hK (ae j _) ?_;refine zo 17 λK hK=>?_;try simp only[iZ]
  have Q:=aN H3.o.2.2.1 j;refine tW No zP (.tmp 19) (.tmp 30) rfl zF Q rfl zF rfl zV zO zU ?_;intro v7 w7 y t;have ay:M w6 w7:=⟨t.os,t.tape,t.output,t.size,λk hk=>t.block k hk zS⟩;have R:=af j ay;refine zJ hK R ?_;rw[bI];obtain⟨A7,c7,rfl,_,_⟩:=ak y;have z:=H3.o.2.1.later R;have e5:=z.cell 5;have f5:=z.frozen 5;have b1:¬(∃b,b=mb/\w6.heap.size<=b):=by rintro⟨b,rfl,h2⟩;have:=j.size;omega
  have bd:=aw.up av ay;have a2:=av.lt;have b2:=j.size;have a:=Z5 R z y bd a2;clear D j R z y bd av L ay t Q d4 d5 d6 a2;go_upto_region 5 with fail
  have a3:ag (λb=>b=mb) w7 (w7.setCell (Y mb 5) (.slice A7 (q+1) c7)):=(ag.refl (λb=>b=mb) w7).setCell (p:=Y mb 5) (.inl rfl) _;have l:=a.o.2.1.B4 5 (.slice A7 (q+1) c7);have T:=bA a.o.2.2.1 (p:=Y mb 5) (aB a.o.2.2.1 a.o.2.1 zP) (.slice A7 (q+1) c7);have X:=aw.B7 a.o.2.2.2.1 a3 (λe=>aw.C9 a.o.2.2.2.1 a.o.2.1 e);generalize w7.setCell (Y mb 5) (.slice A7 (q+1) c7)=w8 at*;have d5:=l.cell 5;have d6:=l.cell 6;have a5:=l.lt;have H8:=Z4 a3 l T X;have D:=(zi w8);clear a3 l T X e5 f5;refine bW 10 (S:=λU=>M w8 U) zR zR D ?_;simp only[OM,OO,ON,OQ];try simp only[zD,zE,Nat.reduceAdd,zG]
  refine zL ?_;refine zQ 3 _ ?_ (hy:=λW hW=>by have q0:=(OF hW (p:=Y mb 6) a5).trans d6;exact zf);refine zQ 7 _ ?_ (hy:=λW hW=>by have q0:=(OF hW (p:=Y mb 5) a5).trans d5;exact zf);rw[bI];clear d5 d6 D;have b5:=H.o.B0.lt;have be:¬w.heap.size=mb:=zO;have bf:=(H8.o.1.B0 (Blk.later (H3.o.1.B0 (HB.o.2.later r.o.1) be) a.o.1) be).drew;refine zj aA bf ?_;intro w9 aa bg;have ab:=Z1 bg;have br:=Z1 aa;clear bf bg aa;go_wp2;refine OH (au aA rfl br.o rfl _ rfl) rfl ⟨by rw[F.o.1];rfl,?_⟩;have b6:=HB.o.2.lt;have b7:=r.o.1.size;have b8:=H3.o.1.size;have bs:=(ag.B5 (af HB.o.1 r.o.1):ag (λb=>b=mb) w w2).trans H3.o.1;have bt:=(bs.trans (ag.B5 a.o.1)).trans H8.o.1;have hK:=bt.go (ag.drew (ag.refl (λb=>b=w.heap.size) w8) |>.trans ab.o.B7) λb e=>.inr (by have:b=w.heap.size:=e;omega);rw[F.o.2];have aa:=ab.o.B0 (Blk.drew H8.o.2.1) zO;have a9:=ab.o.B7.C8 (RG H8.o.2.2.1) λb g B=>by
   have h1:=(H8.o.2.2.1.lt b g).1;have h2:=B;omega
  have bb:=aw.B7 (aw.D3 H8.o.2.2.2 rfl:ig w8.drew _ _) ab.o.B7 (λe=>by have h2:x.drew.heap.size=w.heap.size:=e;have h3:x.drew.heap.size=x.heap.size:=rfl;omega);have a6:=H.o.C1.D1 H.o.C1.map H.o.B0;have ac:=H.o.C1.B7 hK (λe=>H.o.ne.1 e.symm) λf n=>⟨λb g B=>(a6 f n).1 b g (.inl B),λb g B=>(a6 f n).2 b g (.inl B)⟩;refine⟨⟨fs,kv++[some (x.drew.heap.size,fs)],.slice A7 (q+1) c7,⟨?_,ac,H.o.ls,?_,?_,?_⟩⟩,hK.C3 λb e=>.inl e⟩
  ·rw[OS];have:=HQ.o;simpa[<-this]using aa
  ·rw[OS,sJ,<-HQ.o];have h1:=aP a9 (OK _);simpa[nw,HQ.o]using h1
  ·show m.B9++[some m.ls]=_;rw[H.o.J8,QC,H.o.ls];rfl
  ·intro e he
   rcases Po.1 he with he|he
   ·have u:=(H.o.J9 e he).1;exact⟨u.B7 hK (λg=>aw.C9 u.map H.o.B0 g) λf n=>⟨λb g B=>(u.D1 u.map H.o.B0 f n).1 b g (.inl B),λb g B=>(u.D1 u.map H.o.B0 f n).2 b g (.inl B)⟩,(H.o.J9 e he).2⟩
   ·have h1:e=(x.drew.heap.size,fs):=by simpa using he
    subst h1;refine⟨⟨bb,ac.rows,ac.ids,ac.C6⟩,λg=>?_⟩;have h2:x.heap.size=lb:=g;have h3:=H.o.C1.map.lt;omega
def pI:∃z,cE prog 49 62 z 5 40:=by
 have h:(prog.info? 62).map (λi=>(i.zero.isSome,i.size,i.bytes,(i.zero.map λz=>z.cells.size)))=some (true,5,40,some 5):=zR
 cases hi:prog.info? 62 with
 |none=>simp[hi]at h
 |some i=>
  cases hzz:i.zero with
  |none=>simp[hi,hzz]at h
  |some z=>
   simp[hi,hzz]at h;exact⟨z,underlying49,by simp[hi,hzz,h],h.2.2⟩
def Ay(xs:List Value)(A:Option Addr)(c n:Nat)(w:World)(hr:an w w.heap.size 5 A n xs)(h1:∀u∈xs,u.oneCell'=true)(hn:n<=100000):
  C 109 #[.slice A n c] w λe w'=>∃v,e=.returned v/\aL 5 w w' 62 v n xs:=by
 rcases A with _|j
 ·have a:n=0:=by
   rcases PR n with a|a
   ·exact a
   ·obtain⟨j,h,_⟩:=hr.2 a
    cases h
  subst a;have m:=OU (by simpa using hr.1);rw[m];clear hr m;have D:∀w,(binOp .eql 49 (.slice none 0 c) (.slice none 0 0)).run prog w=.ok (.bool true) w:=λw=>zR
  go_in
  go_wp2;go_ret;exact⟨_,rfl,aL.F8 5 w 62⟩
 ·obtain⟨z,l⟩:=pI;have F:=Blk.A8 w 62 #[] (g:=w.heap.size) rfl;have p:=eI (B:=w.heap.size) (s:=5) (n:=0) F (OA _) zS (by simp[maxLen]);have q:=hr.alloc (OA _) (.cells #[] 62);obtain⟨i,r,t,d,f⟩:=info_parts l.info;have b:=Z4 r t d f;clear r t d f;have D:∀w,(binOp .eql 49 (.slice (some j) n c) (.slice none 0 0)).run prog w=.ok (.bool false) w:=λw=>zR
  go_in
  go_wp2_with (at_builtin;go_must (refine bP (w.alloc (.cells #[] 62)) rfl (.tmp 5) (.tmp 6) _ rfl w.heap.size 62 i z 5 40 l.under b.o.1 b.o.2.1 b.o.2.2.1 b.o.2.2.2 l.cells zP _ 0 [] rfl p w.heap.size (some j) n c xs rfl q h1 zU zO zS ?_);intro G w' x y _)
  go_ret;refine⟨G,rfl,by simpa using x,?_⟩;exact(ae (Oy _ w) (.cells #[] 62)).grown y zS λk H=>(p.lt k H).1
def CX(f:Fe)(h:gN w f)(h1:f.x.D2.length<=90000)(h2:f.x.C0.length<=90000):
  C 61 #[ldV f.sv f.pv f.x] w λe w'=>∃sv pv,e=.returned (ldV sv pv f.x)/\M w w'/\w'.ownsRow w.heap.size 66 2 sv f.x.D2.length (smps f.x.D2)/\w'.ownsRow w.heap.size 62 5 pv f.x.C0.length (advs f.x.C0):=by
 obtain⟨z,A,a,_,_⟩:=ak h.D2;obtain⟨B,D,d,_,_,F⟩:=h.C0.form;have j:=h.D2;rw[a]at j;have j:=an.C4 j;have HS:=Z1 (λU (hb:M w U)=>kI (smps f.x.D2) z A f.x.D2.length U (j.up hb) (jf _) zO);have HP:=Z1 (λU (hb:M w U)=>Ay (advs f.x.C0) B D f.x.C0.length U (F.up hb) (wL _) zO);obtain⟨id,sv,pv,⟨os,op,⟨R,T,X,p3,p4,p5⟩,s⟩⟩:=f;simp only at a d HS HP h1 h2 j F;subst a d;obtain⟨q,t⟩:∃n,n=os.length:=⟨_,rfl⟩;obtain⟨r,u⟩:∃n,n=op.length:=⟨_,rfl⟩;simp only[ldV];rw[<-t,<-u];rw[<-t]at HS;rw[<-u]at HP;have ad:=zh w (.cells #[.slice z q A,.slice B r D,I R,I T,I X,I p3,I p4,I p5,.bool s] 53);have ag:=ae ad (.cells #[.slice none 0 0,.slice none 0 0,I 0,I 0,I 0,I 0,I 0,I 0,.bool false] 53);have hx:=(Blk.A8 w 53 #[.slice z q A,.slice B r D,I R,I T,I X,I p3,I p4,I p5,.bool s] rfl).alloc (.cells #[.slice none 0 0,.slice none 0 0,I 0,I 0,I 0,I 0,I 0,I 0,.bool false] 53);have hy:=Blk.A8 (w.alloc (.cells #[.slice z q A,.slice B r D,I R,I T,I X,I p3,I p4,I p5,.bool s] 53)) 53 #[.slice none 0 0,.slice none 0 0,I 0,I 0,I 0,I 0,I 0,I 0,.bool false] (g:=w.heap.size+1) zS;have i:=Z3 ag hx hy;have HN:=Z2 t u;clear ad ag hx hy h h1 h2 j F t u
 go_in
 go_upto_region 1 with fail
 generalize hV:(w.alloc (.cells #[.slice z q A,.slice B r D,I R,I T,I X,I p3,I p4,I p5,.bool s] 53)).alloc (.cells #[.slice none 0 0,.slice none 0 0,I 0,I 0,I 0,I 0,I 0,I 0,.bool false] 53)=V at*;have d0:=i.o.2.1.cell 0;have d1:=i.o.2.1.cell 1;have ah:=i.o.2.1.lt;have G:=(zi V);refine bW 7 (S:=λU=>M V U) zR zR G ?_;simp only[OM,OO,ON,OQ];try simp only[zD,zE,Nat.reduceAdd,zG]
 refine zL ?_;refine zQ 1 _ ?_ (hy:=λW hW=>by have q0:=(OF hW (p:=Y w.heap.size 0) ah).trans d0;exact zf);refine zq 4 _ ?_ (hy:=λW hW=>by have q0:=(OF hW (p:=Y w.heap.size 1) ah).trans d1;exact zf);refine zo 2 λK hK=>?_;go_simp;refine zX (HS.o _ (af i.o.1 G)) λsv w5 H=>?_;have l:=af G H.below;refine zJ hK l ?_;refine zo 5 λK hK=>?_;go_simp;refine zX (HP.o _ (af i.o.1 l)) λpv w6 v=>?_;have y:=af l v.below;refine zJ hK y ?_;rw[bI];have L:=aP (aN H.own v.below) (show w.heap.size<=_ from(af i.o.1 G).size);have N:=aP v.own (show w.heap.size<=_ from(af i.o.1 l).size);obtain⟨B1,k1,rfl,_,_⟩:=ak L;obtain⟨B2,k2,rfl,_,_⟩:=ak N;have k:=i.o.2.1.later y;have x0:=k.cell 0;have x1:=k.cell 1;have y0:=k.frozen 0;have y1:=k.frozen 1;have c:=Z4 L N y k;clear G l y H v L N k d0 d1;go_upto_region 2 with fail
 have O:=(c.o.2.2.2.B4 0 (.slice B1 q k1)).B4 1 (.slice B2 r k2);have P:=(aI.B4 w.heap.size w6 0 (.slice B1 q k1)).trans (aI.B4 w.heap.size _ 1 (.slice B2 r k2));generalize (w6.setCell (Y w.heap.size 0) (.slice B1 q k1)).setCell (Y w.heap.size 1) (.slice B2 r k2)=w8 at*;simp only[Ou,Ov,Ow]at O;obtain⟨⟨t0,t1,t2,t3,t4,t5,t6,t7,t8⟩, -⟩:=eR O;have ai:=P.B0 (i.o.2.2.later c.o.2.2.1) zO;have m:=Z2 P ai;clear O P ai x0 x1 y0 y1
 go_wp2_with (refine zj gO m.o.2 ?_;intro w9 az Q)
 refine OH (au gO rfl az rfl _ rfl) rfl ⟨_,_,rfl,?_,?_,?_⟩
 ·exact Q.below (m.o.1.below (af i.o.1 c.o.2.2.1) (OA _)) zO
 ·skip
  exact Q.B7.C8 (m.o.1.B7.C8 c.o.1 λb a d=>aB c.o.1 c.o.2.2.2 zP (d▸a)) λb a d=>aB (m.o.1.B7.C8 c.o.1 λb a d=>aB c.o.1 c.o.2.2.2 zP (d▸a)) m.o.2 zP (d▸a)
 ·skip
  exact Q.B7.C8 (m.o.1.B7.C8 c.o.2.1 λb a d=>aB c.o.2.1 c.o.2.2.2 zP (d▸a)) λb a d=>aB (m.o.1.B7.C8 c.o.2.1 λb a d=>aB c.o.2.1 c.o.2.2.2 zP (d▸a)) m.o.2 zP (d▸a)
def ny(c:Cg)(m:Mp)(x:Cl):Rp:=if bG x.tick x.value≠0 then .of (bG x.tick x.value)else if fO c m x.id=true then .of 6 else .zero
def oC(c:Cg)(m:Mp)(x:Cl):Mp:=if bG x.tick x.value≠0 then m else match dR c m (av x.id)with|none=>m|some y=>{m with ls:=aR m.ls (av x.id) (mg c y x.tick x.value)}
def oD{t v:Int}(h:bG t v=0):0<=t/\0<=v:=by
 unfold bG at h;split at h
 ·cases h
 ·split at h
  ·cases h
  ·omega
def Vi(w wx:World)(sa:Nat)(l:List Smp)(v:Value):Prop:=∃sb sl,v=Z sb 0/\M w wx/\eC wx sb sl l sa
def Jr(c:Cg)(hc:c.ok)(mb lb:Nat)(fs:List Fe)(kv:List (Option (Nat×List Fe)))(cv:Value)(m:Mp)(h:cq w c mb lb fs kv cv m)(hn:fs.length<=80000)(x:Cl)(hx:x.ok)(hi:bd x.id=true):
  Calls prog 113 #[.pointer (some ⟨mb,0,none⟩),x.val] w λe w'=>e=.returned (ny c m x).val/\dM w w' c mb lb (oC c m x):=by
 have bx:x.id.size<=maxLen:=by have:=(dn hi).2.1;unfold maxLen;omega
 have cy:=ae (Oy w.heap.size w) (.cells x.arr 73);have a0:=ae cy (.cells Rp.zero.arr 77);have bz:=(Blk.A8 w 73 x.arr rfl).alloc (.cells Rp.zero.arr 77);have cz:=Blk.A8 (w.alloc (.cells x.arr 73)) 77 Rp.zero.arr (g:=w.heap.size+1) (by simp);have HP:=Z1 (λW=>iC x.tick x.value W);have ef:=Z1 (λW hW=>vc W c hc mb lb fs kv cv m hW (by omega) x.id hi);have eg:=Z1 (λW (hW:ig W lb (fs.map Fe.val))=>hW.K0 bx);have H:=Z6 hc h hi bx hx hn;have HB:=Z3 a0 bz cz;have R:∀V,Below w.heap.size w V->V.cell? ⟨mb,4,none⟩=some (.map (some lb))/\V.cell? ⟨mb,1,none⟩=some (.int .i64 c.sa):=λV hb=>⟨(h.up hb).B0.cell 4,(h.up hb).B0.cell 1⟩;have da:=Z1 R;obtain⟨xk,id,j,l,ha,a,b,cc,d,e0,f⟩:=x;unfold Cl.val;simp only[Cl.arr,Rp.zero,Rp.arr,St.zero,St.arr,az]at*;obtain⟨⟨c0,c1,c2,c3,c4,c5⟩,c6,c7,c8,c9,eh⟩:=bh bz;clear h cy a0 bz cz hx hc hn bx R hi
 go_in
 go_wp2_with fail;generalize b0:w.heap.size=v9 at*;generalize (w.alloc (.cells #[.int .i64 xk,.string id,.int .i64 j,.int .i64 l,.int .i64 ha,.int .i64 a,.int .i64 b,.int .i64 cc,.int .i64 d,.int .i64 e0,.int .i64 f] 73)).alloc (.cells #[.int .i64 0,.int .i64 0,.int .i64 0,.int .i64 0,.int .i64 0,.int .i64 0,.int .i64 0,.int .i64 0,.int .i64 0,.int .i64 0,.int .i64 0,.int .i64 0,.int .i64 0] 77)=W at*;have db:=Z1 b0;clear b0;refine zY (HP.o _) ?_;have bm:Below w.heap.size w W:=by first|exact HB.o.1|(have:Below _ _ _:=HB.o.1;rw[<-db.o]at this;exact this)
 have z:=Z2 bm db.o;by_cases P:bG j l≠0
 ·as_aux_lemma=>
   have hX:ny c m ⟨xk,id,j,l,ha,a,b,cc,d,e0,f⟩=.of (bG j l)/\oC c m ⟨xk,id,j,l,ha,a,b,cc,d,e0,f⟩=m:=by
    unfold ny oC;exact⟨OB P,OB P⟩
   have HX:=Z1 hX;have HY:=Z2 HB.o.2.2 bm;generalize bG j l=pe at*;have b2:(pe==0)=false:=by simpa using P
   clear hX P bm
   go_wp2_with (refine ai aA rfl (.tmp 4) (.tmp 16) rfl (v9+1) (by rfl) _ (by rfl) HY.o.1 rfl (by rfl) (by simp[Value.oneCell']) ?_;intro w6 a4 ac)
   refine OH (au aA rfl a4 rfl _ rfl) rfl ⟨by rw[HX.o.1];rfl,?_⟩;rw[HX.o.2];exact H.o.2.1.same (ac.below HY.o.2 (by have:=z.o.2;omega))
 ·have ad:bG j l=0:=by simpa using P
  have HZ:=Z1 ad;rw[ad];clear P ad bm;go_wp2_with fail;refine zm (ef.o _ (H.o.2.1.up z.o.1)) λr a0=>?_;have N:=Z1 a0;clear a0 c0 c1 c2 c3 c4 c5 c6 c7 c8 c9 eh
  cases hfu:fO c m id with
  |true=>
   as_aux_lemma=>
   have hX:ny c m ⟨xk,id,j,l,ha,a,b,cc,d,e0,f⟩=.of 6/\oC c m ⟨xk,id,j,l,ha,a,b,cc,d,e0,f⟩=m:=by
    unfold ny oC;have P:=HZ.o;refine⟨?_,?_⟩
    ·rw[Oz (by show ¬bG j l≠0;rw[P];simp),OB hfu]
    ·rw[Oz (by show ¬bG j l≠0;rw[P];simp)];unfold fO at hfu;show(match dR c m (av id)with|none=>m|some y=>_)=m;rw[Option.isNone_iff_eq_none.1 hfu]
   have HX:=Z1 hX;have HY:=Z2 (HB.o.2.2.later N.o) (af z.o.1 N.o);clear hX hfu
   go_wp2_with (refine ai aA rfl (.tmp 4) (.tmp 21) rfl (v9+1) (by rfl) _ (by rfl) HY.o.1 rfl (by rfl) (by simp[Value.oneCell']) ?_;intro w6 a4 ac)
   refine OH (au aA rfl a4 rfl _ rfl) rfl ⟨by rw[HX.o.1];rfl,?_⟩;rw[HX.o.2];exact H.o.2.1.same (ac.below HY.o.2 (by have:=z.o.2;omega))
  |false=>
   have bn:=xB H.o.1 H.o.2.1.ls H.o.2.1.C1.ids H.o.2.2.1 hfu;have hX:ny c m ⟨xk,id,j,l,ha,a,b,cc,d,e0,f⟩=.zero/\oC c m ⟨xk,id,j,l,ha,a,b,cc,d,e0,f⟩={m with ls:=aR m.ls (av id) (mg c (dG fs id).x j l)}:=by
    unfold ny oC;have P:=HZ.o;refine⟨?_,?_⟩
    ·rw[Oz (by show ¬bG j l≠0;rw[P];simp),Oz (by show ¬fO c m id=true;rw[hfu];simp)]
    ·rw[Oz (by show ¬bG j l≠0;rw[P];simp)];show(match dR c m (av id)with|none=>m|some y=>_)=_;rw[bn]
   have HX:=Z1 hX;have L:=af z.o.1 N.o;have ah:=sK (H.o.2.1.up L).C1 id;have B:=mv H.o.2.1.C1 id;have bk:=qn fs id;have bl:=Z1 (λV (hb:Below r.heap.size r V)=>eg.o V ((H.o.2.1.up L).C1.up hb).map);obtain⟨A1,s1,A2,s2,e1,e2⟩:=jl ah;have aj:=Cg.small H.o.1;have b5:=OJ B.E5 aj.2.2.2.1;have ek:=Z3 ah B bk;have R:=da.o r (by first|exact L|(have:Below _ _ _:=L;rw[z.o.2]at this;exact this));have el:=(H.o.2.1.up L).B0.lt;have am:=HB.o.2.1.later N.o;have b6:=Z1 am;have ds:=am.lt;have g1:=am.cell 1;generalize dG fs id=em at*;obtain⟨en,f4,f5,⟨T,op,⟨p0,p1,p2,p3,p4,p5⟩,a5⟩⟩:=em;simp only at e1 e2;subst e1 e2;simp only[ldV]at bl;simp only at b5;obtain⟨n,bo⟩:∃n,n=T.length:=⟨_,rfl⟩;have f6:=Z1 bo;rw[<-bo]at b5 bl;have hr:=(an.C4 ah.D2);simp only at hr;rw[<-bo]at hr;have dc:=Z1 (λU (hb:Below r.heap.size r U)=>kI (smps T) A1 s1 n U (hr.up hb) (jf _) (by omega));have ce:∀s∈T++[⟨j,l⟩],0<=s.tick/\0<=s.value:=by
    intro s hs
    rcases Po.1 hs with hs|hs
    ·have:=B.right s hs;exact⟨this.1.1,this.2.1⟩
    ·rw[Py.1 hs];exact oD HZ.o
   have dd:=Z1 (λ(A:Option Addr) (k:Nat) (U:World) eo=>LZ c.sa aj.2.2.1 aj.2.2.2.1 (T++[⟨j,l⟩]) ce A k (n+1) U eo (by omega));have bp:soF c.sa (T++[⟨j,l⟩])=fV c.sa T ⟨j,l⟩:=by rw[rM,LX B.sorted B.E5]
   have de:=Z1 bp;have ao:(fV c.sa T ⟨j,l⟩).length<=256:=OJ ((pF B.sorted _).2.1 B.E5 aj.2.2.1) aj.2.2.2.1;have ep:=Z1 ao;clear hX hfu bn L ah B bk am bo hr ce bp ao aj;go_wp2;have i:=(Oy r.heap.size r).drew;refine bW 8 (S:=λV=>Below r.heap.size r V) (by kernel_rfl) (by kernel_rfl) i ?_;simp only[OM,OO,ON,OQ];try simp only[zD,zE,Nat.reduceAdd,zG]
   refine zp 0 ?_;refine zp 1 ?_;refine zp 2 ?_;refine zq 3 _ ?_ (hy:=λW hW=>by have q0:=(OF hW (p:=⟨mb,4,none⟩) el).trans R.1;exact zf);refine zp 4 ?_;refine zq 5 _ ?_ (hy:=λW hW=>by have q0:=(OF hW (p:=⟨v9,1,none⟩) ds).trans g1;exact zf);refine zq 6 _ ?_ (hy:=λW hW=>by have f7:=bl.o _ hW;exact zf);refine zo 7 λK hK=>?_;go_simp;refine hK _ _ (ae i _) ?_;clear hK;refine zn ?_;refine zd ?_;rw[bI];clear i g1 R;go_upto_region 7 with(refine ai gO rfl (.tmp 6) (.tmp 28) rfl r.heap.size (by rfl) _ (by rfl) (Blk.A8 r.drew 53 (ldC (.slice none 0 0) (.slice none 0 0) .new) rfl) rfl (by rfl) (by simp[Value.oneCell']) ?_;intro F df dg;have O:=Z2 df (dg.below (ae (Oy r.heap.size r).drew _) (OA _));clear df dg)
   obtain⟨⟨t0,t1,t2,t3,t4,t5,t6,t7,t8⟩,u2,u3,u4,u5,u6,u7,u8⟩:=eR O.o.1;have Q:=b6.o.later O.o.2;have k2:=Q.cell 2;have k3:=Q.cell 3;have bq:=Q.lt;have a6:=af (af z.o.1 N.o) O.o.2;have eq:=(da.o F (by first|exact a6|(have:Below _ _ _:=a6;rw[z.o.2]at this;exact this))).2;have d1:=(H.o.2.1.up a6).B0.lt;have d2:=O.o.1.lt;have f8:=Z1 a6;clear Q a6 t1 t2 t3 t4 t5 t6 t7 t8 u2 u3 u4 u5 u6 u7 u8;have i:=(Oy F.heap.size F).drew;obtain⟨i0,dh,ad,di,b2⟩:=info_parts gl.info;have HI:=Z4 dh ad di b2;clear dh ad di b2;go_frame;go_cut [7] (λv7 wx=>Vi F wx c.sa (fV c.sa T ⟨j,l⟩) v7)
   case first=>
    refine ay (S:=λV=>Below F.heap.size F V) (by kernel_rfl) i ?_;generalize F.drew=U at*;simp only[zD,zE,Nat.reduceAdd,zG];refine zp 0 ?_;refine zp 1 ?_;refine zp 2 ?_;refine zp 3 ?_;refine zq 4 _ ?_ (hy:=λW hW=>by have q0:=(OF hW (p:=⟨mb,1,none⟩) d1).trans eq;exact zf);refine zp 5 ?_;refine zq 6 _ ?_ (hy:=λW hW=>by have q0:=(OF hW (p:=⟨r.heap.size,0,none⟩) d2).trans t0;exact zf);refine zp 8 ?_;refine zq 9 _ ?_ (hy:=λW hW=>by have q0:=(OF hW (p:=⟨v9,2,none⟩) bq).trans k2;exact zf);refine zp 10 ?_;refine zq 11 _ ?_ (hy:=λW hW=>by have q0:=(OF hW (p:=⟨v9,3,none⟩) bq).trans k3;exact zf);refine zp 12 ?_;refine nQ 7 13 (by kernel_rfl) rfl rfl (by rfl) (by rfl) (λK hK=>?_) (λK hK=>?_)
    ·skip
     go_simp;refine zX (dc.o _ (af O.o.2 i)) λsv U u=>?_;obtain⟨A5,k5,rfl,es,d6⟩:=ak u.own;have hm:=aP u.own (show F.heap.size<=_ from i.size);try have hn:=hn.up u.below
     have i:=af i u.below;clear u;refine hK _ _ i ?_;clear hK;refine zn ?_;refine zo 13 λK hK=>?_;go_simp;have i:=ae i (.cells #[.int .i64 j,.int .i64 l] 66);have hn:=(dD U 66 #[.int .i64 j,.int .i64 l] 2 1 U.heap.size (U.heap.size+1) rfl rfl rfl).more (B':=(U.alloc (.cells #[.int .i64 j,.int .i64 l] 66)).heap.size) (by simp);try have hm:=hm.alloc (.cells #[.int .i64 j,.int .i64 l] 66)
     refine hK _ _ i ?_;clear hK;refine zn ?_;refine zo 14 λK hK=>?_;refine dC _ (.tmp 36) (.tmp 42) 48 rfl F.heap.size 66 i0 _ 2 16 underlying48 HI.o.1 HI.o.2.1 HI.o.2.2.1 HI.o.2.2.2 rfl (by decide) (.slice A5 n k5) n (smps T) (by rfl) hm _ _ 1 1 _ (by rfl) hn (by simp[Value.oneCell']) (by unfold maxLen;omega) (by omega) i.size ?_;intro v7 U a8 ci _;obtain⟨A7,k7,rfl,et,d9⟩:=ak a8;have i:=i.grown ci i.size λk hk=>(hm.lt k hk).1;refine hK _ _ i ?_;clear hK;refine zn ?_;refine zo 15 λK hK=>?_;go_simp
     (refine(dd.o A7 k7 _ (by have:=an.C4 a8;simpa[smps,Smp.cells]using this)).mono ?_)
     rintro e8 U ⟨sb,sl,rfl,D,eu,ev,cl⟩;have i:=af i cl;refine hK _ _ i ?_;clear hK;refine zn ?_;refine zp 16 ?_;refine zd ?_;go_wp2;go_meet;exact⟨sb,sl,rfl,i,by have:=D;rwa [de.o]at this⟩
    ·skip
     go_simp;have i:=ae i (.cells #[.int .i64 j,.int .i64 l] 66);have hn:=(dD U 66 #[.int .i64 j,.int .i64 l] 2 1 U.heap.size (U.heap.size+1) rfl rfl rfl).more (B':=(U.alloc (.cells #[.int .i64 j,.int .i64 l] 66)).heap.size) (by simp);try have hm:=hm.alloc (.cells #[.int .i64 j,.int .i64 l] 66)
     refine hK _ _ i ?_;clear hK;refine zn ?_;refine zo 7 λK hK=>?_;go_simp;refine zX (dc.o _ (af O.o.2 i)) λsv U u=>?_;obtain⟨A5,k5,rfl,es,d6⟩:=ak u.own;have hm:=aP u.own (show F.heap.size<=_ from i.size);try have hn:=hn.up u.below
     have i:=af i u.below;clear u;refine hK _ _ i ?_;clear hK;refine zn ?_;refine zo 14 λK hK=>?_;refine dC _ (.tmp 36) (.tmp 42) 48 rfl F.heap.size 66 i0 _ 2 16 underlying48 HI.o.1 HI.o.2.1 HI.o.2.2.1 HI.o.2.2.2 rfl (by decide) (.slice A5 n k5) n (smps T) (by rfl) hm _ _ 1 1 _ (by rfl) hn (by simp[Value.oneCell']) (by unfold maxLen;omega) (by omega) i.size ?_;intro v7 U a8 ci _;obtain⟨A7,k7,rfl,et,d9⟩:=ak a8;have i:=i.grown ci i.size λk hk=>(hm.lt k hk).1;refine hK _ _ i ?_;clear hK;refine zn ?_;refine zo 15 λK hK=>?_;go_simp
     (refine(dd.o A7 k7 _ (by have:=an.C4 a8;simpa[smps,Smp.cells]using this)).mono ?_)
     rintro e8 U ⟨sb,sl,rfl,D,eu,ev,cl⟩;have i:=af i cl;refine hK _ _ i ?_;clear hK;refine zn ?_;refine zp 16 ?_;refine zd ?_;go_wp2;go_meet;exact⟨sb,sl,rfl,i,by have:=D;rwa [de.o]at this⟩
   case rest=>
    obtain⟨sb,sl,rfl,i,D⟩:=hcut;have aq:=D;obtain⟨nl,br⟩:∃nl,nl=fV c.sa T ⟨j,l⟩:=⟨_,rfl⟩;rw[<-br]at aq;have cm:=Z2 i aq;have ew:=Z1 br;have fy:=D.B0.lt;have fz:nl.length<=256:=by rw[br];exact ep.o
    clear i D aq br;go_wp2_with fail;refine zX (jq sb sl nl c.sa _ cm.o.2 (by omega)) λvr w9 bs=>?_;obtain⟨A9,k9,rfl,f9,f1⟩:=ak bs.own;have cn:Below F.heap.size F w9:=af cm.o.1 bs.below;have ar:=O.o.1.later cn;have dj:=Z1 (aP bs.own (show F.heap.size<=_ from cm.o.1.size));generalize hq:nl.length=q at*;have HQ:=Z1 hq;have t0:=ar.cell 0;have f0:=ar.frozen 0;have H9:=Z2 cn ar;clear bs cn ar hq;go_upto_region 9 with fail
    have co:=H9.o.2.B4 0 (.slice A9 q k9);have cp:=aI.B4 r.heap.size w9 0 (.slice A9 q k9);generalize w9.setCell ⟨r.heap.size,0,none⟩ (.slice A9 q k9)=V5 at*;simp only[ldC,Ou,Ov]at co;have cs:Below r.heap.size r V5:=cp.below (af O.o.2 H9.o.1) (OA _);have bb:=Z2 cs co;have bt:=cp.B7.C8 dj.o λg hg e=>aB dj.o H9.o.2 (by decide) (e▸hg);have ey:=Z1 bt;have ct:=af (af z.o.1 N.o) cs;have al:=Z1 (H.o.2.1.up ct);clear t0 f0 cp cs co bt;have g1:V5.cell? ⟨v9,1,none⟩=some (.string id):=(b6.o.later bb.o.1).cell 1;have R:V5.cell? ⟨mb,4,none⟩=some (.map (some lb)):=al.o.B0.cell 4;obtain⟨⟨t0,t1,t2,t3,t4,t5,t6,t7,t8⟩,_⟩:=eR bb.o.2;have dk:=Z1 ct;clear ct;refine aY 7 (by kernel_rfl) (by kernel_rfl) ?_;simp only[OM,OO,ON,OQ];repeat still_step
    refine wpStill_nil ?_;refine cZ rfl _ _ _ 133 53 rfl lE underlying133 id H.o.2.2.2.1 (ldV (.slice A9 q k9) (.slice A2 op.length s2) ⟨nl,op,⟨p0,p1,p2,p3,p4,p5⟩,a5⟩) rfl rfl rfl (aw.D3 al.o.C1.map rfl) (by rw[Pe];have:=H.o.2.2.2.2.2;omega) ?_;intro V6 dl G ez;have dm:Blk V6 (v9+1) 77 _:=G.B0 (Blk.drew (HB.o.2.2.later (af N.o bb.o.1))) (λe=>aw.C9 al.o.C1.map (HB.o.2.2.later (af N.o bb.o.1)) e.symm);have bu:=Z3 dl G dm;clear dl G ez dm g1 R t0 t1 t2 t3 t4 t5 t6 t7 t8
    go_wp2_with (refine ai aA rfl (.tmp 4) (.tmp 55) rfl (v9+1) (by rfl) _ (by rfl) bu.o.2.2 rfl (by rfl) (by simp[Value.oneCell']) ?_;intro w6 a4 ac)
    refine OH (au aA rfl a4 rfl _ rfl) rfl ⟨by rw[HX.o.1];rfl,?_⟩;rw[HX.o.2];obtain⟨ah,B,bk⟩:=ek.o;have b0:=z.o.2;have ga:=dk.o.size;have hD:=bu.o.1;have G:=bu.o.2.1;have ax:ag (λb=>b=lb) V5 V6:=⟨G.os,G.tape,G.output,G.size,G.block⟩;have ao:=kz fs ⟨id,.slice A9 q k9,.slice A2 op.length s2,⟨nl,op,⟨p0,p1,p2,p3,p4,p5⟩,a5⟩⟩;rw[ao]at hD;have X:gN V5 ⟨en,.slice A9 q k9,.slice A2 op.length s2,⟨nl,op,⟨p0,p1,p2,p3,p4,p5⟩,a5⟩⟩:=⟨by have h1:=aP ey.o (OK _);rw[<-HQ.o]at h1 ⊢;exact h1,ah.C0.later bb.o.1⟩;have ee:gN V6 ⟨id,.slice A9 q k9,.slice A2 op.length s2,⟨nl,op,⟨p0,p1,p2,p3,p4,p5⟩,a5⟩⟩:=
     ⟨ax.C8 X.D2 λg hg e=>aw.E7 al.o.C1.map X.D2 (e▸hg),X.C0.D3 λg hg=>ax.block g (X.C0.lt g hg).2 λe=>fZ al.o.C1.map X.C0 (e▸hg)⟩
    have dp:=oD HZ.o;have dq:=H.o.2.2.2.2.1;have bv:=mS H.o.1 B (t:=j) (v:=l) ⟨dp.1,dq.tick.2⟩ ⟨dp.2,dq.value.2⟩;unfold mg at bv ⊢;simp only at bv ⊢;rw[<-ew.o]at bv ⊢;have e5:=al.o.put ⟨id,.slice A9 q k9,.slice A2 op.length s2,⟨nl,op,⟨p0,p1,p2,p3,p4,p5⟩,a5⟩⟩ H.o.2.2.1 bv ee ax hD;have e6:ag (λb=>b=mb\/b=lb) w w6:=by
     refine bL ((ag.B5 dk.o).trans (ax.C3 λb e=>.inr e)) ac.B7 λb hb e=>?_;omega
    exact⟨⟨_,_,_,e5.only ac bu.o.2.2⟩,e6⟩
structure NV(w0 w:World)(sv pv:Value)(x:Ld):Prop where
 D2:w.ownsRow w0.heap.size 66 2 sv x.D2.length (smps x.D2)
 C0:w.ownsRow w0.heap.size 62 5 pv x.C0.length (advs x.C0)
 below:M w0 w
def Az{w:World}{c:Cg}{fs:List Fe}(h:ig w lb (fs.map Fe.val)){s:ByteArray}(hs:s.size<=maxLen):
  (Instr.lookup 133 (.map (some lb)) (.string s) true).run prog w=.ok (.tuple #[ldV (dG fs s).sv (dG fs s).pv (dG fs s).x,.bool (eA fs s).isSome]) w:=by
 rw[h.look_ok hs,Bx,mu]
 cases eA fs s<;>rfl
def FO(c:Cg)(hc:c.ok)(mb lb:Nat)(fs:List Fe)(kv:List (Option (Nat×List Fe)))(cv:Value)(m:Mp)(h:cq w c mb lb fs kv cv m)(i:ByteArray)(hil:i.size<=maxLen):
  C 17 #[Z mb 0,.string i] w λe w'=>∃sv pv,e=.returned (.tuple #[ldV sv pv (dG fs i).x,.bool (eA fs i).isSome])/\NV w w' sv pv (dG fs i).x:=by
 have hs:=Cg.small hc;have j:=zh w (.cells #[.slice none 0 0,.slice none 0 0,I 0,I 0,I 0,I 0,I 0,I 0,.bool false] 53);have B:=Blk.A8 w 53 #[.slice none 0 0,.slice none 0 0,I 0,I 0,I 0,I 0,I 0,I 0,.bool false] rfl;have a:=h.up j;have HM:=Z1 (fg _ c mb lb fs kv cv m a);have P:=Az (c:=c) a.C1.map hil;have c4:=a.B0.cell 4;have k:=sK a.C1 i;have l:=mv a.C1 i;have D:=Z1 (λU hU=>CX U (dG fs i) hU (by have:=l.E5;omega) (by have:=l.C0;omega));have Q:=Z1 k;obtain⟨A1,s1,A2,s2,R,S⟩:=jl k;generalize T:(eA fs i).isSome=is at*;generalize dG fs i=X at*;obtain⟨aa,a9,ba,⟨L,N,⟨p0,p1,p2,p3,p4,p5⟩,ab⟩⟩:=X;simp only at R S;subst R S;simp only[ldV]at*;simp at c4;have z:=Z2 j B;obtain⟨n1,p⟩:∃n,n=L.length:=⟨_,rfl⟩;obtain⟨n2,q⟩:∃n,n=N.length:=⟨_,rfl⟩;rw[<-p,<-q]at P D;have A:=Z2 p q;clear h a j B k l hs T p q
 go_in
 go_wp2_with fail;generalize r:w.heap.size=v9 at*;have F:=Z1 r;clear r;generalize w.alloc (.cells #[.slice none 0 0,.slice none 0 0,I 0,I 0,I 0,I 0,I 0,I 0,.bool false] 53)=W at*;refine zY HM.o ?_
 go_wp2_with (refine zj gO (Blk.A8 W 53 (ldC (.slice none 0 0) (.slice none 0 0) .new) rfl) ?_;intro w3 s G;have b:=Z2 s (G.below (zh W _) (OA _));obtain⟨⟨t0,t1,t2,t3,t4,t5,t6,t7,t8⟩,_⟩:=eR s;clear s G)
 have f:gN w3 ⟨aa,.slice A1 L.length s1,.slice A2 N.length s2,⟨L,N,⟨p0,p1,p2,p3,p4,p5⟩,ab⟩⟩:=⟨aN Q.o.D2 b.o.2,Q.o.C0.later b.o.2⟩;rw[<-A.o.1,<-A.o.2]at f;have ae:=Z1 f;clear f t0 t1 t2 t3 t4 t5 t6 t7 t8;refine(D.o w3 ae.o).mono ?_;rintro e w4 ⟨sv,pv,rfl,t,u,v⟩;have d:=Z3 t u v;have H:=z.o.2.later (af b.o.2 t);have ag:=Z1 H;obtain⟨B1,k1,rfl,_,_⟩:=ak u;obtain⟨B2,k2,rfl,_,_⟩:=ak v;clear t u v H
 go_wp2_with (refine zj gO ag.o ?_;intro w9 ah y)
 have r:=F.o;have bb:=b.o.2.size;have bc:=z.o.2.lt;have ai:=af (by first|exact z.o.1|(have:Below _ _ _:=z.o.1;rw[<-F.o]at this;exact this)) (af b.o.2 d.o.1);refine OH (cx gO rfl ah rfl _ rfl) rfl ⟨_,_,rfl,?_,?_,y.below ai zO⟩
 ·have a:=y.B7.C8 d.o.2.1 λg O e=>p8 d.o.2.1 (show v9<_ by omega) (e▸O);rw[<-A.o.1];exact aP a zO
 ·have a:=y.B7.C8 d.o.2.2 λg O e=>p8 d.o.2.2 (show v9<_ by omega) (e▸O);rw[<-A.o.2];exact aP a zO
def Mc(p:Pl)(l:List Smp)(C0:List Adv)(A A2:Option Addr)(n c n2 c2:Nat)(w:World)(h:wg p l C0 A A2 n n2 w):
  C 84 #[p.val,.slice A n c,.slice A2 n2 c2] w (J (.tuple #[.agg (rt p l C0).arr,I (fW p l)]) w):=by
 by_cases a:fW p l=0
 ·refine(Mb p l C0 A A2 n c n2 c2 w h a).mono ?_;rintro e w' ⟨rfl,b⟩;refine⟨?_,b⟩;rw[a];unfold rt;rw[OB a]
 ·refine(Nq p l C0 A A2 n c n2 c2 w h a).mono ?_;rintro e w' ⟨rfl,b⟩;refine⟨?_,b⟩;unfold rt;rw[Oz a];rfl
end Go.Fw
namespace Go.Proofs
open Go.Shelf Go.Fw
def M1:Go.Shelf.Ren:=⟨λ|7=>60|10=>107|n=>n,λ|23=>133|26=>9|3=>53|28=>131|0=>0|27=>130|33=>208|4=>4|n=>n,λ|n=>n⟩
def flk:Go.Proofs.SlLaysZ.n7 prog M1:={
 mixed:=by kernel_rfl
 f7:=⟨f60.name,by decide,func60.trans (congrArg some (by kernel_rfl))⟩
 f10:=⟨f107.name,by decide,func107.trans (congrArg some (by kernel_rfl))⟩
 t0:=underlying0
 a0:=isAgg0
 z0:=sizeOf0
 v0:=zeroValue0
 t4:=underlying4
 a4:=isAgg4
 z4:=sizeOf4
 v4:=zeroValue4
 t23:=underlying133
 a23:=isAgg133
 z23:=sizeOf133
 v23:=zeroValue133
 t26:=underlying9
 a26:=isAgg9
 z26:=sizeOf9
 v26:=zeroValue9
 t27:=underlying130
 a27:=isAgg130
 z27:=sizeOf130
 v27:=zeroValue130
 t28:=underlying131
 a28:=isAgg131
 z28:=sizeOf131
 v28:=zeroValue131
 t33:=underlying208
 a33:=isAgg208
 z33:=sizeOf208
 v33:=zeroValue208}
def M2:Go.Shelf.Ren:=⟨λ|6=>59|8=>105|9=>106|11=>144|13=>146|12=>145|23=>187|24=>188|14=>178|15=>179|16=>180|17=>181|18=>182|19=>183|20=>184|21=>185|22=>186|25=>203|26=>204|27=>205|28=>206|29=>207|30=>208|31=>227|n=>n,λ|26=>9|28=>131|24=>46|0=>0|3=>3|37=>139|48=>153|50=>56|4=>4|40=>292|39=>291|45=>226|5=>5|9=>9|51=>319|55=>323|57=>339|58=>340|33=>208|n=>n,λ|n=>n⟩
def Tryz.fls:Go.Proofs.SlLaysZ.n6 prog M2:={
 mixed:=by kernel_rfl
 f6:=⟨f59.name,by decide,func59.trans (congrArg some (by kernel_rfl))⟩
 f8:=⟨f105.name,by decide,func105.trans (congrArg some (by kernel_rfl))⟩
 f11:=⟨f144.name,by decide,func144.trans (congrArg some (by kernel_rfl))⟩
 t0:=underlying0
 a0:=isAgg0
 z0:=sizeOf0
 v0:=zeroValue0
 t24:=underlying46
 a24:=isAgg46
 z24:=sizeOf46
 v24:=zeroValue46
 t26:=underlying9
 a26:=isAgg9
 z26:=sizeOf9
 v26:=zeroValue9
 t28:=underlying131
 a28:=isAgg131
 z28:=sizeOf131
 v28:=zeroValue131
 i26:=by kernel_rfl}
def O9:Go.Shelf.Ren:=⟨λ|6=>106|8=>146|9=>145|19=>187|20=>188|21=>178|22=>179|23=>180|24=>181|25=>182|26=>183|27=>184|28=>185|29=>186|36=>203|31=>204|32=>205|37=>206|38=>207|39=>208|41=>227|n=>n,λ|27=>46|29=>9|3=>3|32=>139|26=>46|0=>0|44=>153|46=>56|4=>4|36=>292|35=>291|41=>226|5=>5|9=>9|53=>319|57=>323|63=>339|64=>340|n=>n,λ|n=>n⟩
def flo:Go.Proofs.SlLaysM.n6 prog O9:={
 mixed:=by kernel_rfl
 f6:=⟨f106.name,by decide,func106.trans (congrArg some (by kernel_rfl))⟩
 f8:=func146.trans (congrArg some (by kernel_rfl))
 f9:=⟨f145.name,by decide,func145.trans (congrArg some (by kernel_rfl))⟩
 f19:=func187.trans (congrArg some (by kernel_rfl))
 f20:=func188.trans (congrArg some (by kernel_rfl))
 f21:=⟨f178.name,by decide,func178.trans (congrArg some (by kernel_rfl))⟩
 f22:=⟨f179.name,by decide,func179.trans (congrArg some (by kernel_rfl))⟩
 f23:=⟨f180.name,by decide,func180.trans (congrArg some (by kernel_rfl))⟩
 f24:=⟨f181.name,by decide,func181.trans (congrArg some (by kernel_rfl))⟩
 f25:=⟨f182.name,by decide,func182.trans (congrArg some (by kernel_rfl))⟩
 f26:=⟨f183.name,by decide,func183.trans (congrArg some (by kernel_rfl))⟩
 f27:=⟨f184.name,by decide,func184.trans (congrArg some (by kernel_rfl))⟩
 f28:=⟨f185.name,by decide,func185.trans (congrArg some (by kernel_rfl))⟩
 f29:=⟨f186.name,by decide,func186.trans (congrArg some (by kernel_rfl))⟩
 f31:=func204.trans (congrArg some (by kernel_rfl))
 f32:=func205.trans (congrArg some (by kernel_rfl))
 f36:=⟨f203.name,by decide,func203.trans (congrArg some (by kernel_rfl))⟩
 f37:=⟨f206.name,by decide,func206.trans (congrArg some (by kernel_rfl))⟩
 f38:=⟨f207.name,by decide,func207.trans (congrArg some (by kernel_rfl))⟩
 f39:=⟨f208.name,by decide,func208.trans (congrArg some (by kernel_rfl))⟩
 f41:=⟨f227.name,by decide,func227.trans (congrArg some (by kernel_rfl))⟩
 t0:=underlying0
 a0:=isAgg0
 z0:=sizeOf0
 v0:=zeroValue0
 t3:=underlying3
 a3:=isAgg3
 z3:=sizeOf3
 v3:=zeroValue3
 t4:=underlying4
 a4:=isAgg4
 z4:=sizeOf4
 v4:=zeroValue4
 t5:=underlying5
 a5:=isAgg5
 z5:=sizeOf5
 v5:=zeroValue5
 t9:=underlying9
 a9:=isAgg9
 z9:=sizeOf9
 v9:=zeroValue9
 t26:=underlying46
 a26:=isAgg46
 z26:=sizeOf46
 v26:=zeroValue46
 t27:=underlying46
 a27:=isAgg46
 z27:=sizeOf46
 v27:=zeroValue46
 t29:=underlying9
 a29:=isAgg9
 z29:=sizeOf9
 v29:=zeroValue9
 t32:=underlying139
 a32:=isAgg139
 z32:=sizeOf139
 v32:=zeroValue139
 t35:=underlying291
 a35:=isAgg291
 z35:=sizeOf291
 v35:=zeroValue291
 t36:=underlying292
 a36:=isAgg292
 z36:=sizeOf292
 v36:=zeroValue292
 t41:=underlying226
 a41:=isAgg226
 z41:=sizeOf226
 v41:=zeroValue226
 t44:=underlying153
 a44:=isAgg153
 z44:=sizeOf153
 v44:=zeroValue153
 t46:=underlying56
 a46:=isAgg56
 z46:=sizeOf56
 v46:=zeroValue56
 t53:=underlying319
 a53:=isAgg319
 z53:=sizeOf319
 v53:=zeroValue319
 t57:=underlying323
 a57:=isAgg323
 z57:=sizeOf323
 v57:=zeroValue323
 t63:=underlying339
 a63:=isAgg339
 z63:=sizeOf339
 v63:=zeroValue339
 t64:=underlying340
 a64:=isAgg340
 z64:=sizeOf340
 v64:=zeroValue340}
end Go.Proofs
namespace Go.Fw
open Go.RowKit open Go.Proofs hiding intOf
variable {w' w2:World}{P:Program}{ks:List K2}{i:ByteArray}{S S':Sto}{m:Mp}{g lb mb n bytes sp wp:Nat}{cs cs':Array Value}{L:Nat->Prop}{x:Cl}{ops:Array Oper}{rest:List Oper}{a:Act}{Q:Exit->Act->World->Prop}{cv z:Value}{A:Option Addr}{xs:List Value}{T:Nat->Tg}(w:World)(sv:Value)(s:ByteArray)(pv:Value)(l:List (Int×Int))(k:K2)(c b:Nat)
section
open Go.Maps Go.Sort Go.Shelf
def Nr(m:Nat):AnyZ.SortsIn prog M2 Fence.wide m:=
 ⟨λc d a f W g b e=>callsIn_wide.2 (AnyM.slices_Sort_string flo c d a f W g b e),
  λp a W=>callsIn_wide.2 (AnyM.slices_Sort_string_none flo p a W)⟩
def FU(mb:Option Nat)(w:World):C 60 #[.map mb] w λe w'=>
  e=.returned (.func (.func 107) #[] #[Z w.heap.size 0])/\w.alloc (.cells #[.map mb] 133)=w':=by
 go_in
 go_wp2;go_ret;exact⟨rfl,rfl⟩
def AB{H:Type}(nn:Nat)(D0:DataW H)(R:Value->Option (DataW H×List MemPlace))(w:World)(hown:w.ownsMap prog 9 R b nn D0)(hmax:Maps.size D0<=maxLen)(hbytes:Maps.size D0*16<=140737488355328):
  C 59 #[.func (.func 107) #[] #[Z w.heap.size 0]] (w.alloc (.cells #[.map (some b)] 133)) λe w'=>∃(v:Value) (ss:List (List UInt8)),e=.returned v/\ss.Perm (strKeys D0)/\
   w'.ownsRow (w.alloc (.cells #[.map (some b)] 133)).heap.size 9 1 v ss.length ((ss.mergeSort λx y=>decide (x<=y)).map encStr)/\(v=.slice none 0 0↔ss=[])/\Below (w.alloc (.cells #[.map (some b)] 133)).heap.size (w.alloc (.cells #[.map (some b)] 133)) w':=by
 have d:=hown.lt;have c:SeqGives Fence.wide 2 prog 107 #[Z w.heap.size 0] encStr (λss=>ss.Perm (strKeys D0)) (Maps.size D0) (w.alloc (.cells #[.map (some b)] 133)):=
  AnyZ.keys_gives (ρ:=M1) {flk with} Fence.wide _ trivial rfl zO w.heap.size b nn D0 _ zS zS (by
   obtain⟨f,a,g,h,i,j⟩:=hown;exact⟨f,a,(Qh _ _ b d).trans g,h,i,j⟩)
 exact callsIn_wide.1 (AnyZ.sorted_in Tryz.fls Fence.wide 5 trivial trivial trivial trivial rfl zO (Nr _) (enters_of func106 zR rfl) 107 #[Z w.heap.size 0] trivial (enters_of func107 zR rfl) _ _ hmax hbytes _ c)
def Ns:(⟨s.data.toList.toArray⟩:ByteArray)=s:=by cases s;simp
def Jz(c:Cg)(mb lb:Nat)(fs:List Fe)(kv:List (Option (Nat×List Fe)))(cv:Value)(m:Mp)(h:cq w c mb lb fs kv cv m)(hn:fs.length<=90000):
  C 16 #[Z mb 0] w λe w'=>∃(v:Value) (ids:List ByteArray),e=.returned v/\ids.Perm (fs.map (·.id))/\w'.ownsRow w.heap.size 9 1 v ids.length (ids.map Value.string)/\M w w':=by
 have r:=Z1 (fg w c mb lb fs kv cv m h);have z:=h.B0.cell 4;obtain⟨k,n,j⟩:=h.C1.map.own;have d:Maps.size (DataW.map k)=fs.length:=by
  have:=j.length_eq;simp at this;exact this
 have s:=Z1 (AB lb _ _ Rv w n (by rw[d];unfold maxLen;omega) (by rw[d];omega));have t:Hid ((strKeys (DataW.map k)).Perm (fs.map λf=>f.id.data.toList)):=Z1 (by
  have:=j.map λp=>strOf p.1;rw[Px,Px]at this;exact this)
 clear h n j d
 go_in
 go_wp2_with fail;refine zY r.o ?_;go_wp2_with fail;refine(FU _ w).mono ?_;rintro e A ⟨rfl,rfl⟩;go_wp2_with fail;refine s.o.mono ?_;rintro e B ⟨v,q,rfl,b,a,_,g⟩;have u:=Z3 b a g;clear b a g;go_wp2;go_ret;obtain⟨b,a,g⟩:=u.o;refine⟨v,(q.mergeSort λx y=>decide (x<=y)).map λl=>⟨l.toArray⟩,rfl,?_,?_,?_⟩
 ·have i:=((Sc q λx y=>decide (x<=y)).trans (b.trans t.o)).map λl=>(⟨l.toArray⟩:ByteArray);rw[Px]at i;refine i.trans (Rx (PD λf _=>Ns f.id))
 ·have i:=aP a (show w.heap.size<=_ by simp);rw[Pe,Rr,Px];exact i
 ·exact(zh w (.cells #[.map (some lb)] 133)).trans (g.mono zS)
end
def fD{w W w5:World}{c:Cg}(h:dJ W w5 c (ext T w.heap.size .free) sp m)(hr:Blk W (w.heap.size+1) 77 Rp.zero.arr):Blk w5 (w.heap.size+1) 77 Rp.zero.arr:=h.box hr (OW _)
def Gg(c:Cg)(hc:c.ok)(T:Nat->Tg)(sp:Nat)(m:Mp)(h:eH w c T sp m)(hl:m.B9.length<=90000)(x:Cl)(hx:x.ok):
  C 275 #[Z sp 0,x.val] w λe w'=>e=.returned (doM c m x).2.val/\dJ w w' c T sp (doM c m x).1:=by
 have hs:=Cg.small hc;have aw:=zh w (.cells x.arr 73);have a5:=ae aw (.cells Rp.zero.arr 77);have bj:=(Blk.A8 w 73 x.arr rfl).alloc (.cells Rp.zero.arr 77);have b2:=Blk.A8 (w.alloc (.cells x.arr 73)) 77 Rp.zero.arr (g:=w.heap.size+1) zS;have h0:=h.free a5;have ch:=Z1 (λW=>oy x hx.L7 W);obtain⟨kk,er,ba,bk,b3⟩:=rJ x.id hx.L7;have ci:=Z1 b3;have HK:=Z2 ba bk;have H:=Z5 hc hl hx hs h0;have r:=Z3 a5 bj b2;obtain⟨v,tp,lb,S,hS,hr⟩:=h0;have HS:=Z2 hS hr;have b4:0<S.rows.length:=by have:=hr.n;omega
 have bm:S.rows.length<=64:=by have:=hr.n;omega
 have cj:=Z1 (λV (hb:Below (w.alloc (.cells x.arr 73) |>.alloc (.cells Rp.zero.arr 77)).heap.size ((w.alloc (.cells x.arr 73)).alloc (.cells Rp.zero.arr 77)) V)=>hZ V c _ sp v tp lb S (hS.up hb) b4 bm);have ck:=Z1 (λV (hb:Below (w.alloc (.cells x.arr 73) |>.alloc (.cells Rp.zero.arr 77)).heap.size ((w.alloc (.cells x.arr 73)).alloc (.cells Rp.zero.arr 77)) V)=>ns V c hc _ sp v tp lb S (hS.up hb) hr.n kk ba);have bo:=hr.J4 hc kk;have ai:=Z1 bo;obtain⟨pp,bp⟩:∃pp,pp=S.rows[homeN c kk].p:=⟨_,rfl⟩;have cl:=Z1 (λV (hb:Below (w.alloc (.cells x.arr 73) |>.alloc (.cells Rp.zero.arr 77)).heap.size ((w.alloc (.cells x.arr 73)).alloc (.cells Rp.zero.arr 77)) V)=>show C 285 #[Z sp 0,.int .i64 (homeN c kk:Nat)] V (λe w'=>e=.returned (Z pp 0)/\V=w')from by
  subst bp;exact i8 V c _ sp v tp lb S (hS.up hb) bm (homeN c kk) bo)
 have bc:=Z1 bp;obtain⟨z,A⟩:=kk;obtain⟨xk,id,N,X,ha,a,b,cc,d,e0,f⟩:=x;unfold K2.val K2.arr at*;unfold Cl.val;simp only[Cl.arr,Rp.zero,Rp.arr,St.zero,St.arr,az]at*;obtain⟨⟨c0,c1,c2,c3,c4,c5⟩,c6,c7,c8,c9,cn⟩:=bh bj;clear h aw a5 bj b2 hl hx hs ba bk b3 hS hr b4 bm bo hc bp
 go_in
 go_wp2_with fail;generalize q:w.heap.size=v9 at*;generalize (w.alloc (.cells #[.int .i64 xk,.string id,.int .i64 N,.int .i64 X,.int .i64 ha,.int .i64 a,.int .i64 b,.int .i64 cc,.int .i64 d,.int .i64 e0,.int .i64 f] 73)).alloc (.cells #[.int .i64 0,.int .i64 0,.int .i64 0,.int .i64 0,.int .i64 0,.int .i64 0,.int .i64 0,.int .i64 0,.int .i64 0,.int .i64 0,.int .i64 0,.int .i64 0,.int .i64 0] 77)=W at*;have ac:=Z1 q;clear q;refine zm (ch.o _) λw1 aw=>?_;by_cases hz:aH ⟨xk,id,N,X,ha,a,b,cc,d,e0,f⟩≠0
 ·as_aux_lemma=>
   have B:Hid (doM c m ⟨xk,id,N,X,ha,a,b,cc,d,e0,f⟩=(m,.of (aH ⟨xk,id,N,X,ha,a,b,cc,d,e0,f⟩))):=Z1 (nP hz);have j:=H.o.2.2.2.2.same aw;have q:=ac.o;subst q;have l:=Z2 j (fD j r.o.2.2);generalize cq:aH ⟨xk,id,N,X,ha,a,b,cc,d,e0,f⟩=ce at*;have dw:(ce==0)=false:=by simpa using hz
   clear j hz aw cq;simp only[Rp.zero,Rp.arr,St.zero,St.arr,az]at l
   go_wp2_with (refine zj aA l.o.2 ?_;intro w6 D F)
   refine OH (au aA rfl D rfl _ rfl) rfl ⟨by rw[B.o];rfl,?_⟩;rw[B.o];exact l.o.1.D4 r.o.1 F (OW _) r.o.2.2.lt
 ·have hz:aH ⟨xk,id,N,X,ha,a,b,cc,d,e0,f⟩=0:=by simpa using hz
  have O:=Z1 hz;rw[hz];have bq:=Z1 aw;clear hz aw;go_wp2_with fail;refine zY (cj.o _ bq.o) ?_;have cr:=(bq.o.cell (p:=Y v9 1) r.o.2.1.lt).trans c1;go_wp2_with fail;refine zm (ci.o _) λw2 a5=>?_;have b5:=Z1 (af bq.o a5);clear a5 cr
  go_wp2_with (refine zj lj (cs:=#[.int .u64 z,.int .u64 A]) (Blk.A8 w2 58 #[.int .u64 0,.int .u64 0] rfl) ?_;intro w3 br b6;have bs:=Z2 (b6.below (ae b5.o _) b5.o.size) br;obtain⟨q0,q1⟩:=ao br;clear b6 br)
  refine zm (ck.o _ bs.o.1) λw4 bt=>?_;have y:=Z2 (af bs.o.1 bt) (bs.o.2.later bt);clear bt q0 q1;go_wp2_with fail;refine zY (cl.o _ y.o.1) ?_;obtain⟨⟨g0,g1,g2,g3,g4,g5⟩,g6,g7,g8,g9,dx⟩:=bh (r.o.2.1.later y.o.1);obtain⟨q0,q1⟩:=ao y.o.2;clear c0 c1 c2 c3 c4 c5 c6 c7 c8 c9 cn
  rcases uX O.o with G|G|G|G|G|G|G|G
  ·as_aux_lemma=>
    simp only at G;subst G;have R:=LS O.o rfl;have L:=HK.o.2 R.1;have k:=La (c:=c) (m:=m) O.o rfl;simp only at k L R;have U:=HS.o.1.up y.o.1;have P:=HS.o.2;have aj:=(P.row _ ai.o).C6 P.C6;have al:=xy P H.o.1 ⟨z,A⟩ ai.o;rw[<-L]at k;have ay:=IM _ c H.o.1 _ (homeN c ⟨z,A⟩) S.rows[homeN c ⟨z,A⟩].p S.rows[homeN c ⟨z,A⟩].mb S.rows[homeN c ⟨z,A⟩].C7 S.rows[homeN c ⟨z,A⟩].zs (U.F1 _ ai.o) aj (by have:=nO H.o.1 P _ ai.o;omega) ⟨z,A⟩ HK.o.1 N X R.2.1 R.2.2;rw[<-bc.o]at ay;have a0:=Z1 ay;have HZ:=Z6 k U P aj al R;clear R L k U P aj al ay;unfold K2.val K2.arr at a0;simp only at a0;go_wp2_with fail;refine a0.o.mono ?_;rintro e w5 (⟨s,rfl,a9⟩|⟨s,rfl,Q⟩)
    ·have B:Hid (doM c m ⟨1,id,N,X,ha,a,b,cc,d,e0,f⟩=(m,.of 6)):=Z1 (by rw[HZ.o.1,HZ.o.2.2.2.2.1.1 s]);have j:=H.o.2.2.2.2.same (af y.o.1 a9);clear a9 s;have q:=ac.o;subst q;have l:=Z2 j (fD j r.o.2.2);clear j;simp only[Rp.zero,Rp.arr,St.zero,St.arr,az]at l
     go_wp2_with (refine zj aA l.o.2 ?_;intro w6 D F)
     refine OH (au aA rfl D rfl _ rfl) rfl ⟨by rw[B.o];rfl,?_⟩;rw[B.o];exact l.o.1.D4 r.o.1 F (OW _) r.o.2.2.lt
    ·have B:Hid (doM c m ⟨1,id,N,X,ha,a,b,cc,d,e0,f⟩=({m with ls:=aR m.ls ⟨z,A⟩ (mg c (iU S.rows[homeN c ⟨z,A⟩].zs ⟨z,A⟩) N X)},.zero)):=Z1 (by rw[HZ.o.1,HZ.o.2.2.2.2.1.2 s];rfl);have a1:=Q;rw[bc.o]at a1;have j:=(HZ.o.2.1.put HZ.o.2.2.1 H.o.1 HK.o.1 ai.o (mS H.o.1 (sI HZ.o.2.2.2.1 _) ⟨HZ.o.2.2.2.2.2.2.1,H.o.2.2.1.tick.2⟩ ⟨HZ.o.2.2.2.2.2.2.2,H.o.2.2.1.value.2⟩) s a1).pre y.o.1;clear Q a1 s;have q:=ac.o;subst q;have l:=Z2 j (fD j r.o.2.2);clear j;simp only[Rp.zero,Rp.arr,St.zero,St.arr,az]at l
     go_wp2_with (refine zj aA l.o.2 ?_;intro w6 D F)
     refine OH (au aA rfl D rfl _ rfl) rfl ⟨by rw[B.o];rfl,?_⟩;rw[B.o];exact l.o.1.D4 r.o.1 F (OW _) r.o.2.2.lt
  ·as_aux_lemma=>
    simp only at G;subst G;have k:=Lb (c:=c) (m:=m) O.o rfl;simp only at k;have B:=Z1 k;clear k;have U:=HS.o.1.up y.o.1;obtain⟨A0,cp,rfl,_,_⟩:=ak U.row;have s0:=U.B0.cell 0;simp only[PV,PZ]at s0;obtain⟨n,hn⟩:∃n,n=S.rows.length:=⟨_,rfl⟩;have ds:n<=64:=by have h1:=HS.o.2.n;have h2:=H.o.2.2.2.1;omega
    rw[<-hn]at s0;have b7:=Z1 (gt.start (t:=N) U);have l:=Z1 hn;clear hn U;go_wp2;rw[<-l.o]at b7;go_loopw [51] (λiv wr=>∃(i:Nat),i<=n/\iv=.int .i64 i/\Hid (∃T' S',gt w4 wr c (ext T v9 .free) T' sp (.slice A0 n cp) tp lb S S' N i)) (λiv _=>n-(intOf iv).toNat)
    case atStart=>exact⟨0,OK _,rfl,⟨_,S,b7.o⟩⟩
    case round=>
     obtain⟨i,hi,rfl,HI⟩:=hrel;obtain⟨T',S',hM⟩:=HI.o;by_cases cw:i<n
     ·have bd:i<S.rows.length:=by have:=l.o;omega
      have be:i<S'.rows.length:=by have:=hM.n;omega
      have bu:=hM.G3.row;have b8:S'.rows.length=n:=by rw[hM.n];exact l.o.symm
      rw[b8]at bu;obtain⟨ad,u,rfl,_,hu,dz⟩:=(an.C4 bu).at_ cw;have cx:u=Z (S'.rows[i].p) 0:=by
       unfold gK at hu;rw[Pz,OL be]at hu
       simpa using hu.symm
      subst cx;have aj:=(HS.o.2.row i bd).C6 HS.o.2.C6;have bv:=hM.rest i bd be (OA _);have cy:=Z1 (Fd wr c (by have h2:=H.o.2.2.2.1;omega) T' i S'.rows[i].p S'.rows[i].mb S'.rows[i].C7 S'.rows[i].zs (hM.G3.F1 i be) (by rw[bv];exact aj) (by rw[bv];have:=nO H.o.1 HS.o.2 i bd;omega) N);have bw:=hM.B7.B0 (r.o.2.1.later y.o.1) (λe=>by rw[cC T _ (OA _)]at e;exact e);have t2:=bw.cell 2;have HM:=Z3 hM be bd;clear hM bu b8 hu aj bv bw g2;go_wp2_with fail;refine cy.o.mono ?_;rintro e w5 ⟨⟨d0,rfl⟩,hd⟩;have da:=Z1 (HM.o.1.next HS.o.2 HM.o.2.1 HM.o.2.2 hd);clear hd;go_wp2;go_roundw
      case rel=>exact⟨i+1,zO,by go_num,da⟩
      case measure=>simp[intOf];omega
     ·obtain rfl:i=n:=zO;have j:=(hM.end_ HS.o.2 (by have:=l.o;omega)).pre y.o.1;clear hM;have q:=ac.o;subst q;have bx:=Z2 j (fD j r.o.2.2);clear j;simp only[Rp.zero,Rp.arr,St.zero,St.arr,az]at bx
      go_wp2_with (refine zj aA bx.o.2 ?_;intro w6 D F)
      refine OH (au aA rfl D rfl _ rfl) rfl ⟨by rw[B.o];rfl,?_⟩;rw[B.o];exact bx.o.1.D4 r.o.1 F (OW _) r.o.2.2.lt
  ·as_aux_lemma=>
    simp only at G;subst G;have k:=Lc (c:=c) (m:=m) O.o rfl;have B:=Z1 k;have HC:=Z1 (Aw _ c H.o.1 _ sp m (H.o.2.2.2.2.up y.o.1) H.o.2.1);clear k;go_wp2_with fail;refine zm HC.o λw5 Q=>?_;have j:=Q.pre y.o.1;clear Q;unfold Rp.val;have ag:=dy (fa m);have av:(fa m).arr.size=13:=rfl;have ah:(fa m).val=.agg (fa m).arr:=rfl;have HV:=Z3 ag av ah;clear ag av ah;generalize (fa m).arr=rc at*;have q:=ac.o;subst q;have l:=Z2 j (fD j r.o.2.2);clear j;simp only[Rp.zero,Rp.arr,St.zero,St.arr,az]at l
    go_wp2_with (refine zj aA (hn:=HV.o.2.1) (h1:=HV.o.1) l.o.2 ?_;intro w6 D F)
    refine OH (au aA rfl D HV.o.2.1 _ rfl) rfl ⟨by rw[B.o,HV.o.2.2],?_⟩;rw[B.o];exact l.o.1.D4 r.o.1 F (OW _) r.o.2.2.lt
  ·as_aux_lemma=>
    simp only at G;subst G;have k:=Le (c:=c) (m:=m) O.o rfl;simp only at k;have B:=Z1 k;have HC:=Z1 (Ar _ c H.o.1 _ sp m (H.o.2.2.2.2.up y.o.1) H.o.2.1 ha H.o.2.2.1.handle);clear k;generalize findE m.B9 ha=fe at*;go_wp2_with fail;refine zm HC.o λw5 Q=>?_;have j:=Q.pre y.o.1;clear Q;have q:=ac.o;subst q;have l:=Z2 j (fD j r.o.2.2);clear j;simp only[Rp.zero,Rp.arr,St.zero,St.arr,az]at l
    go_wp2_with (refine zj aA l.o.2 ?_;intro w6 D F)
    refine OH (au aA rfl D rfl _ rfl) rfl ⟨by rw[B.o];rfl,?_⟩;rw[B.o];exact l.o.1.D4 r.o.1 F (OW _) r.o.2.2.lt
  ·as_aux_lemma=>
    simp only at G;subst G;have k:=Lf (c:=c) (m:=m) O.o rfl;have L:=HK.o.2 (FA O.o (.inl rfl));simp only at k L;rw[<-L]at k;have B:=Z1 k;have HC:=Z1 (As _ c H.o.1 _ sp m (H.o.2.2.2.2.up y.o.1) H.o.2.1 ha H.o.2.2.1.handle ⟨z,A⟩ N X H.o.2.2.1.tick H.o.2.2.1.value);clear k L;unfold K2.val K2.arr at HC;simp only at HC;go_wp2_with fail;refine zm HC.o λw5 Q=>?_;have j:=H.o.2.2.2.2.same (af y.o.1 Q);clear Q;unfold Rp.val;have ag:=dy (eF m ha ⟨z,A⟩ N X);have av:(eF m ha ⟨z,A⟩ N X).arr.size=13:=rfl;have ah:(eF m ha ⟨z,A⟩ N X).val=.agg (eF m ha ⟨z,A⟩ N X).arr:=rfl;have HV:=Z3 ag av ah;clear ag av ah;generalize (eF m ha ⟨z,A⟩ N X).arr=rc at*;have q:=ac.o;subst q;have l:=Z2 j (fD j r.o.2.2);clear j;simp only[Rp.zero,Rp.arr,St.zero,St.arr,az]at l
    go_wp2_with (refine zj aA (hn:=HV.o.2.1) (h1:=HV.o.1) l.o.2 ?_;intro w6 D F)
    refine OH (au aA rfl D HV.o.2.1 _ rfl) rfl ⟨by rw[B.o,HV.o.2.2],?_⟩;rw[B.o];exact l.o.1.D4 r.o.1 F (OW _) r.o.2.2.lt
  ·as_aux_lemma=>
    simp only at G;subst G;have R:=LT O.o rfl;have L:=HK.o.2 R.1;have k:=Lg (c:=c) (m:=m) O.o rfl;simp only at k L R;have U:=HS.o.1.up y.o.1;have P:=HS.o.2;have aj:=(P.row _ ai.o).C6 P.C6;have al:=xy P H.o.1 ⟨z,A⟩ ai.o;rw[<-L]at k;have ay:=IY _ c H.o.1 _ (homeN c ⟨z,A⟩) S.rows[homeN c ⟨z,A⟩].p S.rows[homeN c ⟨z,A⟩].mb S.rows[homeN c ⟨z,A⟩].C7 S.rows[homeN c ⟨z,A⟩].zs (U.F1 _ ai.o) aj (by have:=nO H.o.1 P _ ai.o;omega) ⟨z,A⟩ HK.o.1 ⟨a,b,cc,d,e0,f⟩ R.2;rw[<-bc.o]at ay;have a0:=Z1 ay;have HZ:=Z6 k U P aj al R;clear R L k U P aj al ay;unfold K2.val K2.arr Pl.val Pl.arr at a0;simp only at a0;go_wp2_with fail;refine a0.o.mono ?_;rintro e w5 (⟨s,rfl,a9⟩|⟨s,rfl,Q⟩)
    ·have B:Hid (doM c m ⟨6,id,N,X,ha,a,b,cc,d,e0,f⟩=(m,.of 6)):=Z1 (by rw[HZ.o.1,HZ.o.2.2.2.2.1.1 s]);have j:=H.o.2.2.2.2.same (af y.o.1 a9);clear a9 s;have q:=ac.o;subst q;have l:=Z2 j (fD j r.o.2.2);clear j;simp only[Rp.zero,Rp.arr,St.zero,St.arr,az]at l
     go_wp2_with (refine zj aA l.o.2 ?_;intro w6 D F)
     refine OH (au aA rfl D rfl _ rfl) rfl ⟨by rw[B.o];rfl,?_⟩;rw[B.o];exact l.o.1.D4 r.o.1 F (OW _) r.o.2.2.lt
    ·have B:Hid (doM c m ⟨6,id,N,X,ha,a,b,cc,d,e0,f⟩=({m with ls:=aR m.ls ⟨z,A⟩ (mh (iU S.rows[homeN c ⟨z,A⟩].zs ⟨z,A⟩) ⟨a,b,cc,d,e0,f⟩)},.zero)):=Z1 (by rw[HZ.o.1,HZ.o.2.2.2.2.1.2 s];rfl);have a1:=Q;rw[bc.o]at a1;have j:=(HZ.o.2.1.put HZ.o.2.2.1 H.o.1 HK.o.1 ai.o (rH (p:=⟨a,b,cc,d,e0,f⟩) (sI HZ.o.2.2.2.1 _) H.o.2.2.1.D8 HZ.o.2.2.2.2.2.2) s a1).pre y.o.1;clear Q a1 s;have q:=ac.o;subst q;have l:=Z2 j (fD j r.o.2.2);clear j;simp only[Rp.zero,Rp.arr,St.zero,St.arr,az]at l
     go_wp2_with (refine zj aA l.o.2 ?_;intro w6 D F)
     refine OH (au aA rfl D rfl _ rfl) rfl ⟨by rw[B.o];rfl,?_⟩;rw[B.o];exact l.o.1.D4 r.o.1 F (OW _) r.o.2.2.lt
  ·as_aux_lemma=>
    simp only at G;subst G;have k:=Lh (c:=c) (m:=m) O.o rfl;have L:=HK.o.2 (FA O.o (.inr rfl));simp only at k L;rw[<-L]at k;have B:=Z1 k;have HC:=Z1 (At _ c H.o.1 _ sp m (H.o.2.2.2.2.up y.o.1) ⟨z,A⟩ HK.o.1);clear k L;unfold K2.val K2.arr at HC;simp only at HC;go_wp2_with fail;refine zm HC.o λw5 Q=>?_;have j:=H.o.2.2.2.2.same (af y.o.1 Q);clear Q;unfold Rp.val;have ag:=dy (fE m ⟨z,A⟩);have av:(fE m ⟨z,A⟩).arr.size=13:=rfl;have ah:(fE m ⟨z,A⟩).val=.agg (fE m ⟨z,A⟩).arr:=rfl;have HV:=Z3 ag av ah;clear ag av ah;generalize (fE m ⟨z,A⟩).arr=rc at*;have q:=ac.o;subst q;have l:=Z2 j (fD j r.o.2.2);clear j;simp only[Rp.zero,Rp.arr,St.zero,St.arr,az]at l
    go_wp2_with (refine zj aA (hn:=HV.o.2.1) (h1:=HV.o.1) l.o.2 ?_;intro w6 D F)
    refine OH (au aA rfl D HV.o.2.1 _ rfl) rfl ⟨by rw[B.o,HV.o.2.2],?_⟩;rw[B.o];exact l.o.1.D4 r.o.1 F (OW _) r.o.2.2.lt
  ·as_aux_lemma=>
    simp only at G;subst G;have k:=CV (c:=c) (m:=m) O.o rfl;have B:=Z1 k;have HC:=Z1 (qO _ c H.o.1 _ sp m (H.o.2.2.2.2.up y.o.1));clear k;generalize gL m=fe at*;go_wp2_with fail;refine zm HC.o λw5 Q=>?_;have j:=Q.pre y.o.1;clear Q;have q:=ac.o;subst q;have l:=Z2 j (fD j r.o.2.2);clear j;simp only[Rp.zero,Rp.arr,St.zero,St.arr,az]at l
    go_wp2_with (refine zj aA l.o.2 ?_;intro w6 D F)
    refine OH (au aA rfl D rfl _ rfl) rfl ⟨by rw[B.o];rfl,?_⟩;rw[B.o];exact l.o.1.D4 r.o.1 F (OW _) r.o.2.2.lt
def MB:cE prog 166 253 (.pointer none) 1 8:=⟨underlying166,zR,rfl⟩
def Ka(c:Cg)(hc:c.ok)(rows:List Sr)(hn:rows.length=c.st)(hz:∀r∈rows,r.zs=[]):et c ⟨rows,[],false⟩ .new:=by
 refine⟨hn,λi h=>⟨λz a=>?_,?_⟩,Sh,(λe b=>by cases b),(λe b=>by cases b),λi=>OK _,rfl,rfl,λi=>.inr (.inr ⟨zS,by simp[Mp.new]⟩)⟩
 ·have:=hz _ (OR h);rw[this]at a
  cases a
 ·have:=hz _ (OR h);show(cH c [] i).Perm (lds rows[i].zs);rw[this];exact List.Perm.refl _
structure nS(w wr:World)(c:Cg)(T T':Nat->Tg)(sp:Nat)(v:Value)(tp lb:Nat)(rows:List Sr)(i:Nat):Prop where
 agree:∀b,b<w.heap.size->T' b=T b
 G3:bU wr c T' sp v tp lb ⟨rows,[],false⟩
 n:rows.length=i
 emp:∀r∈rows,r.zs=[]
 below:M w wr
 N5:w.heap.size<=sp
 own:∀g,v.ownBlock=some g->w.heap.size<=g
def nS.next{w wr w1 w3:World}{c:Cg}{T':Nat->Tg}{v v':Value}{tp:Nat}{rows:List Sr}{i p:Nat}(h:nS w wr c T T' sp v tp lb rows i)(hS:dm w1 c p mb 0 [])(hp:wr.heap.size<=p)(hm:wr.heap.size<=mb)(hb:M wr w1)
  (ho:w2.ownsRow w.heap.size 253 1 v' (i+1) (gK rows++[Z p 0]))(hg:w1.grownBy w2 v.ownBlock)(hK:ag (λb=>b=sp) w2 w3)(hbk:Blk w3 sp 169 #[v',Z tp 0,I 0,.bool false])
  (hsame:v'.ownBlock=v.ownBlock\/∀k,v'.ownBlock=some k->w1.heap.size<=k):∃T2,nS w w3 c T T2 sp v' tp lb (rows++[⟨p,mb,0,[]⟩]) (i+1):=by
 have Q:=hb.size;have D:=h.below.size;have o:=h.G3.ne;have x:=dl (ag.refl _ w1) hg (λ_ h=>h) λ_ h=>h;have q:=h.G3.row;have y:∀g,v.ownBlock=some g->g<wr.heap.size:=λg e=>(q.lt g e).2;have s:=h.G3.B0.lt;refine⟨λb=>if b<wr.heap.size then T' b else if b=p\/b=mb then .st i else .F2,?_⟩;have l:∀b,b<wr.heap.size->(if b<wr.heap.size then T' b else if b=p\/b=mb then .st i else .F2)=T' b:=λb hb=>OB hb;have a:ag (λb=>v.ownBlock=some b\/b=sp) wr w3:=(((ag.B5 hb).trans (x.C3 λb e=>.inl e)).trans (hK.C3 λb e=>.inr e));have H:=hS.ne;have A:∀b,wr.heap.size<=b->¬(v.ownBlock=some b):=λb hb e=>by have:=y b e;omega
 refine⟨λb hb=>(l b zO).trans (h.agree b hb),⟨hbk,?_,?_,(l _ s).trans h.G3.ts,(l _ h.G3.F2.B0.lt).trans h.G3.tt,(l _ h.G3.F2.map.lt).trans h.G3.tl,λg d=>?_,λj L=>?_,(λj e N=>by simp at N)⟩,by rw[OS,h.n];rfl,λr q=>?_,?_,h.N5,λg d=>(ho.lt g d).1⟩
 ·have O:gK (rows++[⟨p,mb,0,[]⟩])=gK rows++[Z p 0]:=by unfold gK;rw[QC];rfl
  have P:=hK.C8 ho λg d=>by
   rintro rfl
   rcases hsame with e|e
   ·exact o.2.2.2.1 (e▸d)
   ·have:=e g d;omega
  show w3.ownsRow 0 _ 1 v' (rows++[_]).length (gK (rows++[_]));rw[O,OS,h.n];exact aP P (OK _)
 ·exact h.G3.F2.B7 a (by rintro(e|e);exact o.2.2.2.2.1 e;exact o.1 e.symm) (by rintro(e|e);exact o.2.2.2.2.2 e;exact o.2.1 e.symm)
 ·rcases hsame with e|e
  ·rw[e]at d;rw[l g (y g d)];exact h.G3.tr g d
  ·have f:=e g d;rw[Oz zO];rw[Oz];rintro(rfl|rfl)
   ·have:=hS.lt.1;omega
   ·have:=hS.lt.2;omega
 ·by_cases e:j<rows.length
  ·have f:=h.G3.F1 j e;have t:(rows++[⟨p,mb,0,[]⟩])[j]=rows[j]:=PK e;show cL w3 c _ j (rows++[_])[j].p (rows++[_])[j].mb (rows++[_])[j].C7 (rows++[_])[j].zs;rw[t];have u:=h.emp _ (OR e);rw[show(⟨rows,[],false⟩:Sto).rows[j]=rows[j]from rfl]at f;rw[u]at f ⊢;have B:=f.at_.B7 a (by
    rintro(m|m)
    ·have:=h.G3.tr _ m;rw[f.tp]at this;cases this
    ·have:=f.tp;rw[m,h.G3.ts]at this;cases this) (by
    rintro(m|m)
    ·have:=h.G3.tr _ m;rw[f.tm]at this;cases this
    ·have:=f.tm;rw[m,h.G3.ts]at this;cases this)
   exact⟨B,(l _ f.at_.lt.1).trans f.tp,(l _ f.at_.lt.2).trans f.tm,λz u=>by cases u⟩
  ·have F:j=i:=by
    have:j<(rows++[(⟨p,mb,0,[]⟩:Sr)]).length:=L;rw[OS]at this;simp at this;have:=h.n;omega
   have t:(rows++[(⟨p,mb,0,[]⟩:Sr)])[j]?=some ⟨p,mb,0,[]⟩:=by
    rw[Ph zO,show j-rows.length=0 by have:=h.n;omega];rfl
   have m:=(OZ.1 t).2;show cL w3 c _ j (rows++[_])[j].p (rows++[_])[j].mb (rows++[_])[j].C7 (rows++[_])[j].zs;rw[m,F];have B:=(hS.B7 x (A p hp) (A mb hm)).B7 hK (λe=>by have t:p=sp:=e;have:=s;omega) (λe=>by have t:mb=sp:=e;have:=s;omega);refine⟨B,?_,?_,λz u=>by cases u⟩
   ·show(if p<wr.heap.size then T' p else if p=p\/p=mb then Tg.st i else .F2)=.st i;rw[Oz zO,OB (.inl rfl)]
   ·show(if mb<wr.heap.size then T' mb else if mb=p\/mb=mb then Tg.st i else .F2)=.st i;rw[Oz zO,OB (.inr rfl)]
 ·rcases Po.1 q with q|q
  ·exact h.emp r q
  ·rw[Py.1 q]
 ·refine⟨a.os.trans h.below.os,a.tape.trans h.below.tape,a.output.trans h.below.output,OJ D a.size,λb G=>(a.block b zO ?_).trans (h.below.block b G)⟩;rintro(e|e)
  ·have:=h.own b e;omega
  ·have:=h.N5;omega
def Ds(c:Cg)(hc:c.ok)(T:Nat->Tg):
  C 96 #[c.val] w λe w'=>∃T' sp,e=.returned (.tuple #[Z sp 0,I 0])/\eH w' c T' sp .new/\(∀b,b<w.heap.size->T' b=T b)/\w.heap.size<=sp/\M w w':=by
 have au:=zh w (.cells c.cells.toArray 23);have av:=Blk.A8 w 23 c.cells.toArray rfl;have hR:=λW=>gH c.st c.sa c.lo c.hi W;have hE:pu c.st c.sa c.lo c.hi=0:=by exact OB hc
 rw[hE]at hR;have HR:=Z3 hR au av;have HT:=Z1 (λW=>Jg W);have HN:=Z1 (λW=>Fb c hc W);have HC:=Z1 hc;have ba:=(Cg.small hc).2.1;obtain⟨s,O,P,Q⟩:=c;clear hR au av hE hc;unfold Cg.val at*;simp only[Cg.cells]at HR;simp only at ba
 go_in
 go_wp2_with fail;refine zm (HR.o.1 _) λw1 X=>?_;have aa:=Z2 (af HR.o.2.1 X) (HR.o.2.2.later X);clear X;go_wp2_with fail;refine(HT.o _).mono ?_;rintro e w2 ⟨x,lb,rfl,ht,bc,bd,t⟩;have z:=aa.o.2.later t;have k0:=(z.alloc (.cells #[.slice none 0 0,Z x 0,I 0,.bool false] 169)).cell 0;simp only[PV,PZ]at k0;have ac:=af aa.o.1 t;have aw:=ac.size;have ad:nS w (w2.alloc (.cells #[.slice none 0 0,Z x 0,I 0,.bool false] 169)) ⟨s,O,P,Q⟩ T (ext T w.heap.size .F2) w2.heap.size (.slice none 0 0) x lb [] 0:=by
  have b7:=aa.o.1.size;refine⟨λb hb=>br T _ hb,⟨Blk.A8 w2 _ _ rfl,Pn _ _ _ _,ht.up (ae (Oy _ _) _),cC T _ aw,cC T _ zO,cC T _ zO,(λg hg=>by simp[Value.ownBlock]at hg),(λi h=>absurd h (Nat.not_lt_zero _)),(λi e he=>by simp at he)⟩,rfl,(λr hr=>by cases hr),ae ac _,aw,λg hg=>by simp[Value.ownBlock]at hg⟩
 have HM:=Z2 ad (z.alloc (.cells #[.slice none 0 0,Z x 0,I 0,.bool false] 169));clear ad ht bc bd t z ac;go_wp2;generalize ax:w2.heap.size=sp at*;generalize w2.alloc (.cells #[.slice none 0 0,Z x 0,I 0,.bool false] 169)=V0 at*;have bg:=Z1 ax;clear ax k0;go_loopw [16] (λiv wr=>∃(i:Nat),i<=s/\iv=I i/\Hid (∃T' v d,nS w wr ⟨s,O,P,Q⟩ T T' sp v x lb d i/\Blk wr w.heap.size 23 #[I s,I O,I P,I Q])) (λiv _=>s-(intOf iv).toNat)
 case atStart=>exact⟨0,OK _,rfl,⟨_,_,[],HM.o⟩⟩
 case round=>
  clear HM;obtain⟨i,b8,rfl,HI⟩:=hrel;obtain⟨T',v,d,u,q⟩:=HI.o;by_cases b9:i<s
  ·have hn:=u.n;obtain⟨y,k⟩:∃f:Nat->Prop,∀g,f g↔v.ownBlock=some g:=⟨_,λ_=>Iff.rfl⟩;have bi:=Z1 k;have ah:¬y sp:=λe=>u.G3.ne.2.2.2.1 ((k _).1 e);have ai:¬y w.heap.size:=λe=>aB u.G3.row q zP ((k _).1 e);have l:=u.G3.row;rw[show(⟨d,[],false⟩:Sto).rows.length=i from hn]at l;have m:=u.G3.B0;obtain⟨Av,cv,rfl,_,_⟩:=ak l;have A:=Z4 u q l m;have a3:=m.lt;have b2:=q.lt;have c0:=m.cell 0;simp only[PV,PZ]at c0;clear k u l m hn q;have hS:=(ag.refl y wr).drew;go_wp2;refine bW 11 (S:=λV=>ag y wr V) zR zR hS ?_;simp only[OM,OO,ON,OQ];try simp only[zD,zE,Nat.reduceAdd,zG]
   refine zL ?_;refine zq 4 _ ?_ (hy:=λW hW=>by have q0:=(OI (a:=Y sp 0) (hW.block sp a3 ah)).trans c0;exact zf);refine zq 5 _ ?_ (hy:=λW hW=>by have hq:=hW.B0 A.o.2.1 ai;have q0:_=some (I s):=hq.cell 0;have q1:_=some (I O):=hq.cell 1;have q2:_=some (I P):=hq.cell 2;have q3:_=some (I Q):=hq.cell 3;exact zf);refine zo 6 λK hK=>?_;go_simp;refine(HN.o _).mono ?_;rintro e w3 ⟨p,mb,rfl,aj,hp,hm,t⟩;have D:=af (zi wr) t;have G:ag y wr w3:=ag.B5 D;have R:=Z4 aj hp hm D;clear aj hp hm t;refine zJ hK G ?_;refine zo 7 λK hK=>?_;go_simp;refine zJ hK (G.alloc _) ?_;refine zo 8 λK hK=>?_;try simp only[iZ]
   have H:w3.ownsRow w.heap.size 253 1 (.slice Av i cv) i (gK d):=by
    have h1:=aN A.o.2.2.1 R.o.2.2.2
    rcases h1.2 with⟨e1,e2⟩|⟨g,bq,bs,e1,e2,e3⟩
    ·exact⟨h1.1,.inl ⟨e1,e2⟩⟩
    ·exact⟨h1.1,.inr ⟨g,bq,bs,e1,A.o.1.own g (by rw[e1];rfl),e3⟩⟩
   refine iI (w:=w3) (n:=i) (xs:=gK d) (B:=w.heap.size) (v:=.slice Av i cv) MB zP (.tmp 22) (.tmp 25) rfl zF H (OJ A.o.1.below.size R.o.2.2.2.size) rfl zF rfl zV zO zU ?_;intro v' w' al am ay;have L:=dl G am (λ_ h=>h) λj hj=>(bi.o j).2 hj;have N:=L.B0 A.o.2.2.2 ah;obtain⟨A3,k3,rfl,_,_⟩:=ak al;have g0:=N.cell 0;have gf:=N.frozen 0;have F:=Z5 N al am ay (L.B0 A.o.2.1 ai);clear al am ay N;refine zJ hK L ?_;rw[bI];clear L hS G D H;go_wp2;have an:ag (λb=>b=sp) w' (w'.setCell (Y sp 0) (.slice A3 (i+1) k3)):=(ag.refl (λb=>b=sp) w').setCell (p:=Y sp 0) (.inl rfl) _;have az:∃T2 v rows',nS w (w'.setCell (Y sp 0) (.slice A3 (i+1) k3)) ⟨s,O,P,Q⟩ T T2 sp v x lb rows' (i+1)/\Blk (w'.setCell (Y sp 0) (.slice A3 (i+1) k3)) w.heap.size 23 #[I s,I O,I P,I Q]:=by
    obtain⟨T2,h2⟩:=A.o.1.next R.o.1 R.o.2.1 R.o.2.2.1 R.o.2.2.2 F.o.2.1 F.o.2.2.1 an (F.o.1.B4 0 _) F.o.2.2.2.1;exact⟨T2,_,_,h2,an.B0 F.o.2.2.2.2 (by have:=bg.o;intro e;exact fq F.o.2.2.2.2 F.o.1 zP e)⟩
   have bt:=Z1 az;clear az an;go_roundw
   case rel=>exact⟨i+1,zO,by go_num,bt⟩
   case measure=>simp[intOf];omega
  ·obtain rfl:i=s:=zO;have U:=Z1 u;clear u q;go_wp2
   go_ret2
   exact⟨T',sp,rfl,⟨v,x,lb,⟨d,[],false⟩,U.o.G3,Ka _ HC.o d U.o.n U.o.emp⟩,U.o.agree,U.o.N5,U.o.below⟩
section
variable {w w':World} {c:Cg} {T T':Nat→Tg} {L:Nat→Prop}
def eH.D1(h:eH w c T sp m)(hK:ag L w w')(hL:∀b,eE (T b)\/T b=.fz->¬L b)(hT:∀b,b<w.heap.size->T' b=T b):eH w' c T' sp m:=by
 obtain⟨v,t,u,S,h,x⟩:=h;have f:∀b,T b=.F2->¬L b:=λb e=>hL b (.inl (by rw[e];trivial));refine⟨v,t,u,S,⟨hK.B0 h.B0 (f _ h.ts),hK.C8 h.row λg a=>f _ (h.tr g a),h.F2.B7 hK (f _ h.tt) (f _ h.tl),(hT _ h.B0.lt).trans h.ts,(hT _ h.F2.B0.lt).trans h.tt,(hT _ h.F2.map.lt).trans h.tl,λg a=>(hT _ (h.row.lt g a).2).trans (h.tr g a),λi n=>?_,λi e y=>?_⟩,x⟩
 ·have d:=(h.F1 i n).tags (T':=T') hT;have l:∀z∈S.rows[i].zs,∀b,T b=z.2.tag z.1->¬L b:=λz j b e=>by
   unfold Nd.tag at e;split at e
   ·exact hL b (.inr e)
   ·exact hL b (.inl (by rw[e];trivial))
  have A:=(h.F1 i n).B7 hK (λb e=>hL b (.inl (by rw[e];trivial))) l;exact⟨A.at_,d.tp,d.tm,λz j=>by
   have o:=((h.F1 i n).nodes z j).more (G:=λb=>T b=z.2.tag z.1/\b<w.heap.size) λb p e=>⟨e,p⟩;exact(o.B7 hK λb e=>l z j b e.1).more λb _ e=>(hT b e.2).trans e.1⟩
 ·have d:=h.B9 i e y;have k:∀b,T b=.fz->¬L b:=λb e=>hL b (.inr e);obtain⟨B,q,r,s⟩:=d.ex;refine⟨⟨B,hK.B0 q (k _ d.tb),hK.C8 r λg a=>k _ (s g a),λg a=>(hT g (r.lt g a).2).trans (s g a)⟩,(hT _ q.lt).trans d.tb,λz j=>?_,d.sorted,d.D7⟩;have o:=(d.nodes z j).more (G:=λb=>T b=.fz/\b<w.heap.size) λb p e=>⟨e,p⟩;exact(o.B7 hK λb e=>k b e.1).more λb _ e=>(hT b e.2).trans e.1
structure Lm(w:World)(T:Nat->Tg)(lb:Nat)(lcs:Array Value)(sls:Nat->Value)(E4:Nat->Lk)(rs:List Rf):Prop where
 B0:Blk w lb 156 lcs
 tl:T lb=.lk rs.length
 at_:∀n,n<rs.length->bt w lb (n*3) 0 156 lcs (sls n) (E4 n)
 rel:∀n,n<rs.length->dX (E4 n) (rs.getD n .zero)
 tags:∀n,n<rs.length->∀b,(sls n).ownBlock=some b->T b=.lk n
def s6(w:World)(T:Nat->Tg)(lb:Nat)(rs:List Rf):Prop:=∃lcs sls E4,Lm w T lb lcs sls E4 rs
def s6.D1{rs:List Rf}(h:s6 w T lb rs)(hK:ag L w w')(hL:∀b n,T b=.lk n->¬L b)(hT:∀b,b<w.heap.size->(∃n,T b=.lk n)->T' b=T b):s6 w' T' lb rs:=by
 obtain⟨d,f,g,h⟩:=h;refine⟨d,f,g,hK.B0 h.B0 (hL _ _ h.tl),(hT _ h.B0.lt ⟨_,h.tl⟩).trans h.tl,λn c=>?_,h.rel,λn c b e=>?_⟩
 ·have a:=h.at_ n c;exact⟨hK.B0 a.B0 (hL _ _ h.tl),a.line.D3 λk i=>hK.block k (a.line.lt k i).2 (hL _ _ (h.tags n c k i)),a.r,a.m,a.s⟩
 ·have a:=h.at_ n c;exact(hT b (a.line.lt b e).2 ⟨_,h.tags n c b e⟩).trans (h.tags n c b e)
structure Nz(w:World)(T:Nat->Tg)(wp:Nat)(cs:Array Value)(sl al:Value)(l:Lk)(r:Rf)(zs:List Int):Prop where
 L6:cF w wp 6 0 165 cs sl al l zs
 rel:dX l r
 L4:∀b,sl.ownBlock=some b->T b=.ln
 R8:∀b,al.ownBlock=some b->T b=.al
def xZ(w:World)(T:Nat->Tg)(wp:Nat)(cs:Array Value)(r:Rf)(zs:List Int):Prop:=∃sl al l,Nz w T wp cs sl al l r zs
def xZ.D1{r:Rf}{zs:List Int}(h:xZ w T wp cs r zs)(hb:Blk w' wp 165 cs')(hc:∀j,6<=j->j<10->cs'[j]?=cs[j]?)(hK:ag L w w')(hL:∀b,T b=.ln\/T b=.al->¬L b)(hT:∀b,b<w.heap.size->T b=.ln\/T b=.al->T' b=T b):xZ w' T' wp cs' r zs:=by
 obtain⟨g,al,l,h⟩:=h;have d:=h.L6.lock.line;have f:=h.L6.B3;refine⟨g,al,l,⟨⟨hb,d.D3 λk c=>hK.block k (d.lt k c).2 (hL k (.inl (h.L4 k c))),(hc 6 zO zO).trans h.L6.lock.r,(hc 7 zO zO).trans h.L6.lock.m,(hc 8 zO zO).trans h.L6.lock.s⟩,f.D3 λk c=>hK.block k (f.lt k c).2 (hL k (.inr (h.R8 k c))),(hc 9 zO zO).trans h.L6.a⟩,h.rel,λb e=>(hT b (d.lt b e).2 (.inl (h.L4 b e))).trans (h.L4 b e),λb e=>(hT b (f.lt b e).2 (.inr (h.R8 b e))).trans (h.R8 b e)⟩
def WqT(w:World)(T:Nat->Tg)(wp:Nat)(cs:Array Value)(q:Qm):Prop:=gq w wp 10 165 cs (λb=>T b=.q) q
def WqT.D1{q:Qm}(h:WqT w T wp cs q)(hb:Blk w' wp 165 cs')(hc:∀j,10<=j->j<15->cs'[j]?=cs[j]?)(hK:ag L w w')(hL:∀b,T b=.q->¬L b)(hT:∀b,b<w.heap.size->T b=.q->T' b=T b):WqT w' T' wp cs' q:=by
 obtain⟨⟨u,v,f,b,a,p,k,c⟩,x,y,z⟩:=h;refine⟨⟨u,v,f,b,⟨hb,hK.C8 a.front λg e=>hL _ (k g e),hK.C8 a.back λg e=>hL _ (c g e),a.apart,(hc 10 zO zO).trans a.v0,(hc 11 zO zO).trans a.v1,a.ne⟩,p,λg e=>(hT g (a.front.lt g e).2 (k g e)).trans (k g e),λg e=>(hT g (a.back.lt g e).2 (c g e)).trans (c g e)⟩,(hc 14 zO zO).trans x,?_,z⟩
 rcases y with⟨l,m,n,i⟩|⟨d,r,l,m,n,i,o,s,t⟩
 ·exact .inl ⟨(hc 12 zO zO).trans l,(hc 13 zO zO).trans m,n,i⟩
 ·exact .inr ⟨d,r,(hc 12 zO zO).trans l,(hc 13 zO zO).trans m,n,(hT d s.lt i).trans i,(hT r t.lt o).trans o,aw.B7 s hK (hL _ i),aw.B7 t hK (hL _ o)⟩
def EvT(w:World)(T:Nat->Tg)(cs:Array Value)(l:List Vt):Prop:=∃v,cs[15]?=some v/\w.ownsRow 0 79 34 v l.length (vts l)/\∀b,v.ownBlock=some b->T b=.ev
def EvT.D1{l:List Vt}(h:EvT w T cs l)(hc:cs'[15]?=cs[15]?)(hK:ag L w w')(hL:∀b,T b=.ev->¬L b)(hT:∀b,b<w.heap.size->T b=.ev->T' b=T b):EvT w' T' cs' l:=by
 obtain⟨v,d,c,a⟩:=h;exact⟨v,hc.trans d,hK.C8 c λg f=>hL _ (a g f),λb e=>(hT b (c.lt b e).2 (a b e)).trans (a b e)⟩
end
def opC(o:Int×Int):List Value:=[I o.1,I o.2]
def d7(l:List (Int×Int)):List Value:=l.flatMap opC
def Dx(o:Int×Int):(opC o).length=2:=rfl
def yc(r:List (Int×Int)):d7 l++d7 r=d7 (l++r):=by simp[d7]
def Ke:∀u∈d7 l,u.oneCell'=true:=by
 intro u b;obtain⟨o,_,a⟩:=QU.1 b;simp[opC]at a
 rcases a with rfl|rfl<;>rfl
def Cg.I0{c:Cg}(hc:c.ok):(c.st:Int)<=64/\0<(c.st:Int):=by have:=Cg.small hc;omega
def s7:cE prog 194 250 (.agg #[I 0,I 0]) 2 16:=⟨underlying194,zR,rfl⟩
def mW{w:World}{t:TypeId}{c:Cg}(hb:Blk w g t c.cells.toArray):w.cell? (Y g 0)=some (I c.st)/\w.cell? (Y g 1)=some (I c.sa)/\w.cell? (Y g 2)=some (I c.lo)/\w.cell? (Y g 3)=some (I c.hi):=⟨hb.cell 0,hb.cell 1,hb.cell 2,hb.cell 3⟩
def ju(c:Cg)(hc:c.ok)(w:World):C 97 #[.agg #[I c.st,I c.sa,I c.lo,I c.hi]] w λe w'=>e=.returned (I ((c.st:Int)+1))/\M w w':=by
 have b:=Cg.I0 hc;have a:=Z1 (zh w (.cells #[I c.st,I c.sa,I c.lo,I c.hi] 23));obtain⟨st,sa,lo,hi⟩:=c;simp only at*;clear hc
 go_in
 go_wp2;go_ret;exact⟨rfl,a.o⟩
def mX(c:Cg)(w:World):C 175 #[.agg #[I c.st,I c.sa,I c.lo,I c.hi]] w (J (I (c.st:Int)) w):=by
 have a:=Z1 (zh w (.cells #[I c.st,I c.sa,I c.lo,I c.hi] 23));obtain⟨st,sa,lo,hi⟩:=c;simp only at*
 go_in
 go_wp2;go_ret;exact⟨rfl,a.o⟩
def pP(c:Cg)(hc:c.ok)(i:ByteArray)(hi:bd i=true)(w:World):C 173 #[.agg #[I c.st,I c.sa,I c.lo,I c.hi],.string i] w (J (I (i7 c i)) w):=by
 have a:=zh w (.cells c.cells.toArray 23);have f:=Blk.A8 w 23 c.cells.toArray rfl;have v:=Z1 (λW=>oA i W hi);have m:=Z1 (λW=>rI (av i) (c.st:Int) W (jh i (dn hi).2.1) (Cg.I6 hc));have n:i7 c i=gg (av i) c.st:=rfl;rw[<-n]at m;generalize i7 c i=B at*;generalize av i=x at*;obtain⟨y,z⟩:=x;have q:=Z2 a f;obtain⟨k,D,F,G⟩:=mW f;obtain⟨st,sa,lo,A⟩:=c;simp only[K2.val,K2.arr,Cg.cells]at*;clear a f n hc hi
 go_in
 go_wp2_with fail;refine zm (v.o _) λr a=>?_;have b:=q.o.2.later a;have s:=Z1 (af q.o.1 a);have k:=b.cell 0;simp at k;have l:=b.lt;clear b a
 go_wp2_with (refine zj lj (cs:=#[E y,E z]) (Blk.A8 r 58 #[E 0,E 0] rfl) ?_;intro H g h;have d:=h.below (zh r (.cells #[E 0,E 0] 58)) (OA _);have t:=Z2 d g;obtain⟨L,N⟩:=ao g;have O:=(OF d (p:=Y w.heap.size 0) l).trans k;clear h g d)
 refine zm (m.o _) λP j=>?_;have u:=Z1 (af s.o (af t.o.1 j));clear j;go_wp2;go_ret;exact⟨rfl,u.o⟩
def jo(a b:Int)(w:World):C 172 #[I a,I b] w λe w'=>∃v,e=.returned v/\aL 2 w w' 250 v 3 (d7 (bK a b)):=by
 go_in
 go_wp2;go_ret;refine⟨_,rfl,eI (Blk.A8 w _ _ rfl) (OA _) rfl (by simp[maxLen]),ae (Oy _ _) _⟩
def yd(c:Cg)(hc:c.ok)(kd:Int)(w:World):C 174 #[.agg #[I c.st,I c.sa,I c.lo,I c.hi],I kd] w λe w'=>∃v,e=.returned v/\aL 2 w w' 250 v c.st (d7 (dr c kd)):=by
 have D:=Cg.I0 hc;have d:=zh w (.cells c.cells.toArray 23);have a:=Blk.A8 w 23 c.cells.toArray rfl;have r:=Z2 d a;obtain⟨H,L,g,l⟩:=mW a;have s:Hid (∀k,k<=c.st->d7 ((dr c kd).take (k+1))=d7 ((dr c kd).take k)++if k<c.st then opC (kd,k)else[]):=Z1 (λk m=>by
  by_cases h:k<c.st
  ·rw[OB h];have t:k<(dr c kd).length:=by simp[dr,h]
   rw[OG t,<-yc];simp[dr,d7]
  ·rw[Oz h,OT (by simp[dr];omega),OT (by simp[dr];omega),PC])
 have u:Hid ((dr c kd).length=c.st):=Z1 (by simp[dr]);generalize dr c kd=x at*;obtain⟨st,sa,lo,F⟩:=c;simp only[Cg.cells]at*;clear d a hc
 go_in
 go_wp2;go_loopw [5,9] (λv i wr=>∃(k:Nat),k<=st/\i=I k/\∃(n:Option Addr) (g:Nat),v=.slice n k g/\Hid (aL 2 w wr 250 v k (d7 (x.take k)))) (λ_ i _=>st-(intOf i).toNat)
 case atStart=>exact⟨0,OK _,rfl,none,0,rfl,Z1 (by rw[OO];exact aL.L8 2 r.o.1 _)⟩
 case round=>
  obtain⟨k,m,rfl,n,g,rfl,b⟩:=hrel;by_cases p:k<st
  ·have G:(k:Int)<(st:Int):=zO;have j:=s.o k m;rw[OB p]at j;have y:=Z1 j;have z:k<=64:=zO;clear j
   go_wp2_with (at_builtin;go_must (refine bZ (w:=wr) s7 zP rfl (.tmp 12) (.tmp 16) rfl zF b.o.own b.o.le rfl zF rfl zV zO zU ?_);intro N w' f q)
   obtain⟨A,l,rfl,_,_⟩:=ak f;go_roundw
   case rel=>exact⟨k+1,zO,by go_num,A,l,rfl,Z1 (by rw[y.o];exact b.o.app q f)⟩
   case measure=>simp[intOf];omega
  ·obtain rfl:k=st:=zO;have B:=Z1 (OT (by rw[u.o];omega));go_wp2;go_ret;exact⟨_,rfl,by have:=b.o;rw[B.o]at this;exact this⟩
structure GIn(w:World)(c:Cg)(T:Nat->Tg)(wp:Nat)(g:Gs)(cs:Array Value)(sp lb:Nat):Prop where
 B0:Blk w wp 165 cs
 size:cs.size=16
 c0:cs[0]?=some (I c.st)
 c1:cs[1]?=some (I c.sa)
 c2:cs[2]?=some (I c.lo)
 c3:cs[3]?=some (I c.hi)
 c4:cs[4]?=some (Z sp 0)
 c5:cs[5]?=some (V lb 0 (c.st+1) (c.st+1))
 tw:T wp=.wld
 G3:eH w c T sp g.mp
 E4:s6 w T lb g.E4
 nl:g.E4.length=c.st+1
 ln:xZ w T wp cs g.ln g.B3
 wq:WqT w T wp cs g.q
 ev:EvT w T cs g.ev
def GAt(w:World)(c:Cg)(T:Nat->Tg)(wp:Nat)(g:Gs):Prop:=∃cs sp lb,GIn w c T wp g cs sp lb
def eN:Tg->Prop
 | .wld=>True
 | .lk _=>True
 | .ln=>True
 | .al=>True
 | .q=>True
 | .ev=>True
 |t=>eE t
def bj(w w':World)(c:Cg)(T:Nat->Tg)(wp:Nat)(g:Gs):Prop:=∃T',aW T T' w.heap.size/\GAt w' c T' wp g/\ag (λb=>eN (T b)) w w'
section
variable {w w' w'':World} {c:Cg} {T T':Nat→Tg} {wp sp lb:Nat} {g g':Gs} {cs:Array Value}
def GIn.up(h:GIn w c T wp g cs sp lb)(hb:M w w'):GIn w' c T wp g cs sp lb:=by
 have hK:ag (λ_=>False) w w':=ag.B5 hb;have a:=h.B0.later hb;exact⟨a,h.size,h.c0,h.c1,h.c2,h.c3,h.c4,h.c5,h.tw,h.G3.up hb,h.E4.D1 hK (λ_ _ _ e=>e) (λ_ _ _=>rfl),h.nl,h.ln.D1 a (λ_ _ _=>rfl) hK (λ_ _ e=>e) (λ_ _ _=>rfl),h.wq.D1 a (λ_ _ _=>rfl) hK (λ_ _ e=>e) (λ_ _ _=>rfl),h.ev.D1 rfl hK (λ_ _ e=>e) λ_ _ _=>rfl⟩
def GAt.up(h:GAt w c T wp g)(hb:M w w'):GAt w' c T wp g:=by
 obtain⟨a,b,d,h⟩:=h;exact⟨a,b,d,h.up hb⟩
def bj.trans(h1:aW T T' w.heap.size)(hK:ag (λb=>eN (T b)) w w')(h2:bj w' w'' c T' wp g'):bj w w'' c T wp g':=by
 obtain⟨d,f,g,h⟩:=h2;refine⟨d,h1.trans f hK.size,g,bL hK h λb i e=>?_⟩
 rcases h1 b i with a|⟨k,a,j⟩
 ·rwa [a]at e
 ·rw[a];trivial
def bj.after(hb:M w w')(h2:bj w' w'' c T wp g'):bj w w'' c T wp g':=bj.trans (aW.refl _ _) (ag.B5 hb) h2
end
def ye:cU prog 23 4:=⟨zR,zR,zR⟩
def gB(w:World)(c:Cg)(T:Nat->Tg)(wp:Nat)(g:Gs)(h:GAt w c T wp g):C 72 #[Z wp 0] w λe w'=>e=.returned (.bool true)/\w=w':=by
 obtain⟨a,b,d,h⟩:=h;have f:=(h.B0.cell 4).trans h.c4;clear h
 go_in
 go_wp2;go_ret;exact⟨rfl,rfl⟩
def kW(w:World)(c:Cg)(T:Nat->Tg)(wp:Nat)(g:Gs)(h:GAt w c T wp g):C 261 #[Z wp 0] w (J c.val w):=by
 have b:=zh w (.cells #[I 0,I 0,I 0,I 0] 23);have j:=Z1 (gB _ c T wp g (h.up b));obtain⟨p,q,r,h⟩:=h;have a:=h.B0.later b;have k:=(a.cell 0).trans h.c0;have l:=(a.cell 1).trans h.c1;have m:=(a.cell 2).trans h.c2;have n:=(a.cell 3).trans h.c3;have d:=Z2 b (Blk.A8 w 23 #[I 0,I 0,I 0,I 0] rfl);obtain⟨s,t,u,v⟩:=c;unfold Cg.val;simp only at k l m n;clear h b a
 go_in
 go_wp2_with fail;refine zY j.o ?_
 go_wp2_with (refine zj ye d.o.2 ?_;intro x f i)
 exact OH (au ye rfl f rfl _ rfl) rfl ⟨rfl,i.below d.o.1 (OA _)⟩
def oR(w:World)(c:Cg)(T:Nat->Tg)(wp:Nat)(g:Gs)(cs:Array Value)(sp lb:Nat)(h:GIn w c T wp g cs sp lb):C 30 #[Z wp 0] w λe w'=>e=.returned (Z sp 0)/\w=w':=by
 have a:=Z1 (gB _ c T wp g ⟨cs,sp,lb,h⟩);have b:=(h.B0.cell 4).trans h.c4;clear h
 go_in
 go_wp2_with fail;refine zY a.o ?_;go_wp2;go_ret;exact⟨rfl,rfl⟩
def gP(w:World)(c:Cg)(T:Nat->Tg)(wp:Nat)(g:Gs)(h:GAt w c T wp g):C 53 #[Z wp 0] w λe w'=>e=.returned (Z wp 10)/\w=w':=by
 have a:=Z1 (gB _ c T wp g h);clear h
 go_in
 go_wp2_with fail;refine zY a.o ?_;go_wp2;go_ret;exact⟨rfl,rfl⟩
def oS(w:World)(c:Cg)(hc:c.ok)(T:Nat->Tg)(wp:Nat)(g:Gs)(h:GAt w c T wp g):C 98 #[Z wp 0] w λe w'=>e=.returned (I ((c.st:Int)+2))/\w=w':=by
 have b:=Cg.I0 hc;have a:=Z1 (gB _ c T wp g h);obtain⟨d,f,i,h⟩:=h;have j:=(h.B0.cell 5).trans h.c5;clear h hc;generalize c.st=n at*
 go_in
 go_wp2_with fail;refine zY a.o ?_;go_wp2;go_ret;exact⟨aC zO,rfl⟩
def jZ(c:Cg)(wp lb:Nat)(n:Nat):Addr:=if n<c.st+1 then(Y lb (n*3))else(Y wp 6)
def pQ(w:World)(c:Cg)(hc:c.ok)(T:Nat->Tg)(wp:Nat)(g:Gs)(cs:Array Value)(sp lb:Nat)(h:GIn w c T wp g cs sp lb)(n:Nat)(hn:n<c.st+2):C 271 #[Z wp 0,I n] w λe w'=>e=.returned (.pointer (some (jZ c wp lb n)))/\w=w':=by
 have f:=Cg.I0 hc;have b:=Z1 (oS _ c hc T wp g ⟨cs,sp,lb,h⟩);have i:=(h.B0.cell 5).trans h.c5;have a:jZ c wp lb n=if n<c.st+1 then(Y lb (n*3))else(Y wp 6):=rfl
 rw[a];clear h hc a;generalize c.st=s at*;by_cases d:n<s+1
 ·rw[OB d];have j:((n:Int)==((s+1:Nat):Int))=false:=zT;have k:decide ((s:Int)+2<=(n:Int))=false:=zT
  go_in
  go_wp2_with fail;refine zY b.o ?_;go_wp2;go_ret;exact⟨rfl,rfl⟩
 ·rw[Oz d];obtain rfl:n=s+1:=zO
  go_in
  go_wp2_with fail;refine zY b.o ?_;go_wp2;go_ret;exact⟨rfl,rfl⟩
def mY(hz:aH x=0)(hk:x.k=1\/x.k=6\/x.k=7):bd x.id=true:=by
 unfold aH at hz
 cases h:bd x.id with
 |true=>rfl
 |false=>rcases hk with hk|hk|hk<;>simp[hk,h,idE]at hz
def ia(w:World)(l:List (Int×Int))(e:Ending)(w':World):Prop:=∃v,e=.returned v/\aL 2 w w' 250 v l.length (d7 l)
def Ki(c:Cg)(hc:c.ok)(x:Cl)(hx:x.ok)(hk:x.k=1)(hz:aH x=0)(w:World):C 138 #[.agg #[I c.st,I c.sa,I c.lo,I c.hi],x.val] w (ia w (cg c x)):=by
 have j:=zh w (.cells c.cells.toArray 23);have z:=ae j (.cells x.arr 73);have i:=(Blk.A8 w 23 c.cells.toArray rfl).alloc (.cells x.arr 73);have l:=Blk.A8 (w.alloc (.cells c.cells.toArray 23)) 73 x.arr (g:=w.heap.size+1) zS;have HB:=Z3 z i l;have bc:=Cg.I0 hc;have A:=mY hz zO;have HH:=Z1 (λW=>pP c hc x.id A W);have HL:=Z1 (λW=>ju c hc W);have B:cg c x=bK 3 (i7 c x.id)++[(3,(c.st:Int)+1),(6,0),(5,(c.st:Int)+1)]:=by unfold cg lineN;rw[OB zO]
 rw[B];generalize i7 c x.id=hm at*;clear B A;obtain⟨xk,id,tk,va,ha,a,b,cc,d,e0,f⟩:=x;simp only at hk;subst hk;obtain⟨st,sa,lo,aj⟩:=c;unfold Cl.val;simp only[Cl.arr,Cg.cells]at*;obtain⟨⟨g0,g1,g2,g3,g4,g5⟩,g6,g7,g8,g9,bd⟩:=bh l;have T:=i.cell 0;have X:=i.cell 1;have c2:=i.cell 2;have c3:=i.cell 3;have e:=i.lt;have ac:=l.lt;clear j z i l hz
 go_in
 go_upto_region 4 with fail
 generalize hV:(w.alloc (.cells #[I st,I sa,I lo,I aj] 23)).alloc (.cells #[I 1,.string id,I tk,I va,I ha,I a,I b,I cc,I d,I e0,I f] 73)=V at*;generalize D:w.heap.size=h at*;have al:=Z1 D;clear hV D;obtain⟨i0,r,F,G,H⟩:=info_parts s7.info;have y:=Z4 r F G H;clear r F G H;have hS:=(zi V);refine zH (S:=λU=>M V U) hS ?_;refine zQ 0 _ ?_ (hy:=λW hW=>by have q0:=(OF hW (p:=Y h 0) e).trans T;have q1:=(OF hW (p:=Y h 1) e).trans X;have q2:=(OF hW (p:=Y h 2) e).trans c2;have q3:=(OF hW (p:=Y h 3) e).trans c3;exact zf);refine zq 2 _ ?_ (hy:=λW hW=>by have q1:=(OF hW (p:=Y (h+1) 1) ac).trans g1;exact zf);refine zQ 5 _ ?_ (hy:=λW hW=>by have q0:=(OF hW (p:=Y h 0) e).trans T;have q1:=(OF hW (p:=Y h 1) e).trans X;have q2:=(OF hW (p:=Y h 2) e).trans c2;have q3:=(OF hW (p:=Y h 3) e).trans c3;exact zf);refine zq 9 _ ?_ (hy:=λW hW=>by have q0:=(OF hW (p:=Y h 0) e).trans T;have q1:=(OF hW (p:=Y h 1) e).trans X;have q2:=(OF hW (p:=Y h 2) e).trans c2;have q3:=(OF hW (p:=Y h 3) e).trans c3;exact zf);refine zo 3 λK hK=>?_;go_simp;refine zm (HH.o _) λw1 j=>?_;have m:=af hS j;refine zJ hK m ?_;refine zo 4 λK hK=>?_;go_simp;refine zX (jo 3 hm _) λv2 w2 n=>?_;obtain⟨A2,k2,rfl,_,_⟩:=ak n.own;have L:=af m n.below;refine zJ hK L ?_;refine zo 6 λK hK=>?_;go_simp;refine zm (HL.o _) λw3 s=>?_;have N:=af L s;have aq:=aN n.own s;refine zJ hK N ?_;refine zo 10 λK hK=>?_;go_simp;refine zm (HL.o _) λw4 t=>?_;have O:=af N t;have ar:=aN aq t;refine zJ hK O ?_;refine zo 12 λK hK=>?_;go_simp;have u:=ae O (.cells #[I 3,I ((st:Int)+1),I 6,I 0,I 5,I ((st:Int)+1)] 250);have P:=ar.alloc (.cells #[I 3,I ((st:Int)+1),I 6,I 0,I 5,I ((st:Int)+1)] 250);have au:=dD w4 250 #[I 3,I ((st:Int)+1),I 6,I 0,I 5,I ((st:Int)+1)] 2 3 w4.heap.size (w4.heap.size+1) rfl rfl rfl;refine zJ hK u ?_;refine zo 13 λK hK=>?_;refine dC _ (.tmp 14) (.tmp 22) 194 rfl w1.heap.size 250 i0 _ 2 16 underlying194 y.o.1 y.o.2.1 y.o.2.2.1 y.o.2.2.2 rfl zP (.slice A2 3 k2) 3 (d7 (bK 3 hm)) zF P _ _ 3 3 _ zF au zV zU zO (by have:=n.below.size;have:=s.size;have:=t.size;simp;omega) ?_;intro v7 w7 Q av _;obtain⟨A7,k7,rfl,_,_⟩:=ak Q;have R:=u.grown av u.size λq hq=>OJ m.size (P.lt q hq).1;refine zJ hK R ?_;go_wp2;go_ret;have h9:=al.o;have v:=HB.o.1;try rw[<-h9]at v
 exact⟨_,rfl,aP Q (OJ v.size m.size),af v R⟩
def Kj(c:Cg)(hc:c.ok)(x:Cl)(hx:x.ok)(hk:x.k=6)(hz:aH x=0)(w:World):C 138 #[.agg #[I c.st,I c.sa,I c.lo,I c.hi],x.val] w (ia w (cg c x)):=by
 have j:=zh w (.cells c.cells.toArray 23);have z:=ae j (.cells x.arr 73);have i:=(Blk.A8 w 23 c.cells.toArray rfl).alloc (.cells x.arr 73);have l:=Blk.A8 (w.alloc (.cells c.cells.toArray 23)) 73 x.arr (g:=w.heap.size+1) zS;have HB:=Z3 z i l;have bc:=Cg.I0 hc;have A:=mY hz zO;have HH:=Z1 (λW=>pP c hc x.id A W);have HL:=Z1 (λW=>ju c hc W);have B:cg c x=bK 3 (i7 c x.id)++[(3,(c.st:Int)+1),(6,0),(5,(c.st:Int)+1)]:=by unfold cg lineN;rw[OB zO]
 rw[B];generalize i7 c x.id=hm at*;clear B A;obtain⟨xk,id,tk,va,ha,a,b,cc,d,e0,f⟩:=x;simp only at hk;subst hk;obtain⟨st,sa,lo,aj⟩:=c;unfold Cl.val;simp only[Cl.arr,Cg.cells]at*;obtain⟨⟨g0,g1,g2,g3,g4,g5⟩,g6,g7,g8,g9,bd⟩:=bh l;have T:=i.cell 0;have X:=i.cell 1;have c2:=i.cell 2;have c3:=i.cell 3;have e:=i.lt;have ac:=l.lt;clear j z i l hz
 go_in
 go_upto_region 4 with fail
 generalize hV:(w.alloc (.cells #[I st,I sa,I lo,I aj] 23)).alloc (.cells #[I 6,.string id,I tk,I va,I ha,I a,I b,I cc,I d,I e0,I f] 73)=V at*;generalize D:w.heap.size=h at*;have al:=Z1 D;clear hV D;obtain⟨i0,r,F,G,H⟩:=info_parts s7.info;have y:=Z4 r F G H;clear r F G H;have hS:=(zi V);refine zH (S:=λU=>M V U) hS ?_;refine zQ 0 _ ?_ (hy:=λW hW=>by have q0:=(OF hW (p:=Y h 0) e).trans T;have q1:=(OF hW (p:=Y h 1) e).trans X;have q2:=(OF hW (p:=Y h 2) e).trans c2;have q3:=(OF hW (p:=Y h 3) e).trans c3;exact zf);refine zq 2 _ ?_ (hy:=λW hW=>by have q1:=(OF hW (p:=Y (h+1) 1) ac).trans g1;exact zf);refine zQ 5 _ ?_ (hy:=λW hW=>by have q0:=(OF hW (p:=Y h 0) e).trans T;have q1:=(OF hW (p:=Y h 1) e).trans X;have q2:=(OF hW (p:=Y h 2) e).trans c2;have q3:=(OF hW (p:=Y h 3) e).trans c3;exact zf);refine zq 9 _ ?_ (hy:=λW hW=>by have q0:=(OF hW (p:=Y h 0) e).trans T;have q1:=(OF hW (p:=Y h 1) e).trans X;have q2:=(OF hW (p:=Y h 2) e).trans c2;have q3:=(OF hW (p:=Y h 3) e).trans c3;exact zf);refine zo 3 λK hK=>?_;go_simp;refine zm (HH.o _) λw1 j=>?_;have m:=af hS j;refine zJ hK m ?_;refine zo 4 λK hK=>?_;go_simp;refine zX (jo 3 hm _) λv2 w2 n=>?_;obtain⟨A2,k2,rfl,_,_⟩:=ak n.own;have L:=af m n.below;refine zJ hK L ?_;refine zo 6 λK hK=>?_;go_simp;refine zm (HL.o _) λw3 s=>?_;have N:=af L s;have aq:=aN n.own s;refine zJ hK N ?_;refine zo 10 λK hK=>?_;go_simp;refine zm (HL.o _) λw4 t=>?_;have O:=af N t;have ar:=aN aq t;refine zJ hK O ?_;refine zo 12 λK hK=>?_;go_simp;have u:=ae O (.cells #[I 3,I ((st:Int)+1),I 6,I 0,I 5,I ((st:Int)+1)] 250);have P:=ar.alloc (.cells #[I 3,I ((st:Int)+1),I 6,I 0,I 5,I ((st:Int)+1)] 250);have au:=dD w4 250 #[I 3,I ((st:Int)+1),I 6,I 0,I 5,I ((st:Int)+1)] 2 3 w4.heap.size (w4.heap.size+1) rfl rfl rfl;refine zJ hK u ?_;refine zo 13 λK hK=>?_;refine dC _ (.tmp 14) (.tmp 22) 194 rfl w1.heap.size 250 i0 _ 2 16 underlying194 y.o.1 y.o.2.1 y.o.2.2.1 y.o.2.2.2 rfl zP (.slice A2 3 k2) 3 (d7 (bK 3 hm)) zF P _ _ 3 3 _ zF au zV zU zO (by have:=n.below.size;have:=s.size;have:=t.size;simp;omega) ?_;intro v7 w7 Q av _;obtain⟨A7,k7,rfl,_,_⟩:=ak Q;have R:=u.grown av u.size λq hq=>OJ m.size (P.lt q hq).1;refine zJ hK R ?_;go_wp2;go_ret;have h9:=al.o;have v:=HB.o.1;try rw[<-h9]at v
 exact⟨_,rfl,aP Q (OJ v.size m.size),af v R⟩
def Kk(c:Cg)(hc:c.ok)(x:Cl)(hx:x.ok)(hk:x.k=4)(hz:aH x=0)(w:World):C 138 #[.agg #[I c.st,I c.sa,I c.lo,I c.hi],x.val] w (ia w (cg c x)):=by
 have h:=zh w (.cells c.cells.toArray 23);have j:=ae h (.cells x.arr 73);have e:=(Blk.A8 w 23 c.cells.toArray rfl).alloc (.cells x.arr 73);have i:=Blk.A8 (w.alloc (.cells c.cells.toArray 23)) 73 x.arr (g:=w.heap.size+1) zS;have u:=Z3 j e i;have O:=Cg.I0 hc;have v:=Z1 (λW=>mX c W);have l:cg c x=bK 3 ((c.st:Int)):=by unfold cg;simp[hk,lineN]
 rw[l];clear l;obtain⟨Q,y,z,A,B,a,b,D,d,F,f⟩:=x;simp only at hk;subst hk;obtain⟨st,sa,lo,q⟩:=c;unfold Cl.val;simp only[Cl.arr,Cg.cells]at*;obtain⟨⟨R,S,T,U,X,g5⟩,g6,g7,g8,g9,P⟩:=bh i;have c0:=e.cell 0;have c1:=e.cell 1;have c2:=e.cell 2;have c3:=e.cell 3;have G:=e.lt;have H:=i.lt;clear h j e i hz
 go_in
 go_wp2_with fail;generalize L:(w.alloc (.cells #[I st,I sa,I lo,I q] 23)).alloc (.cells #[I 4,.string y,I z,I A,I B,I a,I b,I D,I d,I F,I f] 73)=V at*;generalize m:w.heap.size=v9 at*;have r:=Z1 m;clear L m;refine zm (v.o _) λw1 h=>?_;have s:=Z1 h;clear h;go_wp2_with fail;refine zX (jo 3 (st:Int) _) λv2 w2 n=>?_;have t:=Z1 n;clear n;go_wp2;go_ret;have N:=r.o;have p:=u.o.1;try rw[<-N]at p
 exact⟨_,rfl,t.o.lower (af p s.o)⟩
def Kl(c:Cg)(hc:c.ok)(x:Cl)(hx:x.ok)(hk:x.k=5)(hz:aH x=0)(w:World):C 138 #[.agg #[I c.st,I c.sa,I c.lo,I c.hi],x.val] w (ia w (cg c x)):=by
 have h:=zh w (.cells c.cells.toArray 23);have j:=ae h (.cells x.arr 73);have e:=(Blk.A8 w 23 c.cells.toArray rfl).alloc (.cells x.arr 73);have i:=Blk.A8 (w.alloc (.cells c.cells.toArray 23)) 73 x.arr (g:=w.heap.size+1) zS;have u:=Z3 j e i;have O:=Cg.I0 hc;have v:=Z1 (λW=>mX c W);have l:cg c x=bK 2 ((c.st:Int)):=by unfold cg;simp[hk,lineN]
 rw[l];clear l;obtain⟨Q,y,z,A,B,a,b,D,d,F,f⟩:=x;simp only at hk;subst hk;obtain⟨st,sa,lo,q⟩:=c;unfold Cl.val;simp only[Cl.arr,Cg.cells]at*;obtain⟨⟨R,S,T,U,X,g5⟩,g6,g7,g8,g9,P⟩:=bh i;have c0:=e.cell 0;have c1:=e.cell 1;have c2:=e.cell 2;have c3:=e.cell 3;have G:=e.lt;have H:=i.lt;clear h j e i hz
 go_in
 go_wp2_with fail;generalize L:(w.alloc (.cells #[I st,I sa,I lo,I q] 23)).alloc (.cells #[I 5,.string y,I z,I A,I B,I a,I b,I D,I d,I F,I f] 73)=V at*;generalize m:w.heap.size=v9 at*;have r:=Z1 m;clear L m;refine zm (v.o _) λw1 h=>?_;have s:=Z1 h;clear h;go_wp2_with fail;refine zX (jo 2 (st:Int) _) λv2 w2 n=>?_;have t:=Z1 n;clear n;go_wp2;go_ret;have N:=r.o;have p:=u.o.1;try rw[<-N]at p
 exact⟨_,rfl,t.o.lower (af p s.o)⟩
def Km(c:Cg)(hc:c.ok)(x:Cl)(hx:x.ok)(hk:x.k=8)(hz:aH x=0)(w:World):C 138 #[.agg #[I c.st,I c.sa,I c.lo,I c.hi],x.val] w (ia w (cg c x)):=by
 have h:=zh w (.cells c.cells.toArray 23);have j:=ae h (.cells x.arr 73);have e:=(Blk.A8 w 23 c.cells.toArray rfl).alloc (.cells x.arr 73);have i:=Blk.A8 (w.alloc (.cells c.cells.toArray 23)) 73 x.arr (g:=w.heap.size+1) zS;have u:=Z3 j e i;have O:=Cg.I0 hc;have v:=Z1 (λW=>ju c hc W);have l:cg c x=bK 3 ((c.st:Int)+1):=by unfold cg;simp[hk,lineN]
 rw[l];clear l;obtain⟨Q,y,z,A,B,a,b,D,d,F,f⟩:=x;simp only at hk;subst hk;obtain⟨st,sa,lo,q⟩:=c;unfold Cl.val;simp only[Cl.arr,Cg.cells]at*;obtain⟨⟨R,S,T,U,X,g5⟩,g6,g7,g8,g9,P⟩:=bh i;have c0:=e.cell 0;have c1:=e.cell 1;have c2:=e.cell 2;have c3:=e.cell 3;have G:=e.lt;have H:=i.lt;clear h j e i hz
 go_in
 go_wp2_with fail;generalize L:(w.alloc (.cells #[I st,I sa,I lo,I q] 23)).alloc (.cells #[I 8,.string y,I z,I A,I B,I a,I b,I D,I d,I F,I f] 73)=V at*;generalize m:w.heap.size=v9 at*;have r:=Z1 m;clear L m;refine zm (v.o _) λw1 h=>?_;have s:=Z1 h;clear h;go_wp2_with fail;refine zX (jo 3 ((st:Int)+1) _) λv2 w2 n=>?_;have t:=Z1 n;clear n;go_wp2;go_ret;have N:=r.o;have p:=u.o.1;try rw[<-N]at p
 exact⟨_,rfl,t.o.lower (af p s.o)⟩
def Kn(c:Cg)(hc:c.ok)(x:Cl)(hx:x.ok)(hk:x.k=7)(hz:aH x=0)(w:World):C 138 #[.agg #[I c.st,I c.sa,I c.lo,I c.hi],x.val] w (ia w (cg c x)):=by
 have h:=zh w (.cells c.cells.toArray 23);have j:=ae h (.cells x.arr 73);have e:=(Blk.A8 w 23 c.cells.toArray rfl).alloc (.cells x.arr 73);have i:=Blk.A8 (w.alloc (.cells c.cells.toArray 23)) 73 x.arr (g:=w.heap.size+1) zS;have v:=Z3 j e i;have Q:=Cg.I0 hc;have q:=mY hz zO;have y:=Z1 (λW=>pP c hc x.id q W);have l:cg c x=bK 2 (i7 c x.id):=by unfold cg;simp[hk,lineN]
 rw[l];generalize i7 c x.id=z at*;clear l;obtain⟨S,A,B,D,F,a,b,G,d,H,f⟩:=x;simp only at hk;subst hk;obtain⟨st,sa,lo,r⟩:=c;unfold Cl.val;simp only[Cl.arr,Cg.cells]at*;obtain⟨⟨T,U,X,g3,g4,g5⟩,g6,g7,g8,g9,R⟩:=bh i;have c0:=e.cell 0;have c1:=e.cell 1;have c2:=e.cell 2;have c3:=e.cell 3;have L:=e.lt;have N:=i.lt;clear h j e i hz
 go_in
 go_wp2_with fail;generalize O:(w.alloc (.cells #[I st,I sa,I lo,I r] 23)).alloc (.cells #[I 7,.string A,I B,I D,I F,I a,I b,I G,I d,I H,I f] 73)=V at*;generalize m:w.heap.size=v9 at*;have s:=Z1 m;clear O m;refine zm (y.o _) λw1 h=>?_;have t:=Z1 h;clear h;go_wp2_with fail;refine zX (jo 2 z _) λv2 w2 n=>?_;have u:=Z1 n;clear n;go_wp2;go_ret;have P:=s.o;have p:=v.o.1;try rw[<-P]at p
 exact⟨_,rfl,u.o.lower (af p t.o)⟩
def Tp:∀{fs:List Fe} {f:Fe},f∈fs->∃g,eA fs f.id=some g
 |a::r,f,h=>by
  unfold eA;by_cases e:a.id=f.id
  ·exact⟨a,by rw[OB e]⟩
  ·rw[Oz e]
   rcases Pj.1 h with rfl|h
   ·exact absurd rfl e
   ·exact Tp h
end Go.Fw
