/- Lemmas of this claim. Conditions: as each says. -/
import Derived.Test.YtpfmpaolgmoajaaGreatS13
set_option linter.unusedVariables false
set_option linter.unusedSimpArgs false
set_option maxHeartbeats 4000000
set_option maxRecDepth 20000
set_option linter.defProp false
open Go.Proofs.Tryz
namespace Go.Fw
open Go.RowKit open Go.Proofs hiding intOf
variable {w:World}{n p:Nat}{k:K2}{T:Nat->Tg}{C7 t:Int}{v:Value}{ks:List K2}(mb:Nat)(l:List Et)(i:Nat)(c:Cg)
def Fc{B k:Nat}{A:Option Addr}{l:List K2}(h:an w B 2 A n (cG l))(hn:n=l.length)(hk:k<l.length):
  ∃b o,A=some (Y b o)/\b<B/\w.cell? (Y b (o+k*2))=some (E l[k].hi)/\w.cell? (Y b (o+k*2+1))=some (E l[k].lo):=by
 obtain⟨b,o,rfl,c,a⟩:=h.elem (f:=K2.cells) (λ_=>rfl) zP hn hk;exact⟨b,o,rfl,c,a 0 _ rfl,a 1 _ rfl⟩
def ou(w w':World)(c:Cg)(T:Nat->Tg)(i p mb:Nat)(zs:List (K2×Nd))(t:Int):Prop:=
 ∃T' ver' zs',(∀b,b<w.heap.size->T' b=T b)/\cL w' c T' i p mb ver' zs'/\lds zs'=(lds zs).map (λe=>(e.1,eP t e.2))/\(∀z∈zs',z.2.x.C6 c)/\ag (λb=>T b=.st i\/∃k∈zs.map (·.1),T b=.nd k) w w'
def cL.L3{c:Cg}{i mb:Nat}{zs:List (K2×Nd)}(h:cL w c T i p mb C7 zs){z:Nd}(hz:ap zs k=some z):bC w c z.p z.x z.fz (λb=>T b=z.tag k/\b<w.heap.size):=(h.nodes _ (bR hz)).more λb a e=>⟨e,a⟩
def IZ{z:Nd}{b:Nat}(e:z.fz=false)(hb:T b=z.tag k/\b<n):T b=.nd k:=(by
 have a:=hb.1;unfold Nd.tag at a
 rwa [Oz (by rw[e];exact Rm)]at a)
def dh.box{w':World}{c:Cg}{fz:Bool}{F:Nat->Prop}{p':Nat}{x':Ld}(h:dh w w' c p fz F p' x'){v:Nat}{t:TypeId}{cs:Array Value}(hb:Blk w v t cs)(hv:¬F v):Blk w' v t cs:=by
 obtain⟨G,a,b,f,d⟩:=h;have g:=hb.lt;refine d.B0 hb λe=>?_
 cases fz with
 |false=>
       rcases(a rfl).2 _ e with e|e
       ·exact hv e
       ·omega
 |true=>have:=b rfl _ e;omega
def ec.start{w1:World}{c:Cg}{i mb:Nat}{zs:List (K2×Nd)}(h:cL w c T i p mb C7 zs)(hf:∀z∈zs,z.2.x.C6 c)(hm:aL 2 w w1 58 v ks.length (cG ks)):ec w w1 c T (ext T w.heap.size .free) i p mb C7 zs zs t ks 0 v:=by
 refine⟨λb a=>br T _ a,(h.tags λb a=>br T _ a).up hm.below,?_,hf,ag.B5 hm.below,hm.own,λg d=>cC T _ (hm.own.lt g d).1⟩;refine((List.map_id (lds zs)).symm).trans (PD λe f=>?_);simp[jR]
def ec.done{wr:World}{c:Cg}{T':Nat->Tg}{i mb:Nat}{zs zs':List (K2×Nd)}(h:ec w wr c T T' i p mb C7 zs zs' t ks ks.length v)(hk:∀k∈zs.map (·.1),k∈ks):ou w wr c T i p mb zs t:=by
 refine⟨T',C7,zs',h.agree,h.K7,?_,h.C6,h.B7⟩;rw[h.N7];refine PD λe a=>?_;have:e.1∈ks:=hk _ (by rw[<-mq];exact Pq a);simp[jR,this]
def Ja(l:List Smp)(t:Int):placeF l t<=l.length:=by
 unfold placeF;exact(List.takeWhile_sublist _).length_le
def Fd(w:World)(c:Cg)(hsa:c.sa<=500)(T:Nat->Tg)(i p mb:Nat)(C7:Int)(zs:List (K2×Nd))(h:cL w c T i p mb C7 zs)(hf:∀z∈zs,z.2.x.C6 c)(hn:zs.length<=10000)(t:Int):
  C 288 #[Z p 0,I t] w λe w'=>(∃tot,e=.returned (I tot))/\ou w w' c T i p mb zs t:=by
 have HK:=Z1 (qM w c p mb C7 zs h.at_ zO);have H:=Z4 h hf hn hsa;clear h hf hn hsa
 go_in
 go_wp2_with fail;refine HK.o.mono ?_;rintro e w1 ⟨vr,ys,rfl,hp,G⟩;obtain⟨j,Q⟩:∃j,j=qk ys:=⟨_,rfl⟩;have R:j.Perm (zs.map (·.1)):=by rw[Q];exact(Sc _ _).trans hp
 have l:ys.length=j.length:=by rw[Q];exact(Rr _).symm
 have av:=R.nodup_iff.2 H.o.1.at_.D7;rw[<-Q,l]at G;have aw:j.length<=10000:=by rw[R.length_eq,Pe];exact H.o.2.2.1
 have h0:ec w w1 c T _ i p mb C7 zs zs t j 0 vr:=ec.start H.o.1 H.o.2.1 G;obtain⟨A,cc,rfl,b8,_⟩:=ak G.own;obtain⟨n,U⟩:∃n,n=j.length:=⟨_,rfl⟩;rw[<-U]at h0;have bh:=Z1 h0;have s:=Z4 U R av aw;have b9:n<=10000:=zO;rw[<-U];clear h0 G l Q U R av hp aw HK;go_wp2;go_loopw [5,13] (λtv iv wr=>∃(k:Nat) (tot:Int) (L:Nat->Tg) (a:Int) (g:List (K2×Nd)),k<=n/\iv=I k/\tv=I tot/\Hid (ec w wr c T L i p mb a zs g t j k (.slice A n cc))) (λ_ iv _=>n-(intOf iv).toNat)
 case atStart=>exact⟨0,0,_,C7,zs,OK _,rfl,rfl,bh⟩
 case round=>
  obtain⟨k,tot,L,a,g,hk,rfl,rfl,f⟩:=hrel;by_cases ca:k<n
  ·have l:k<j.length:=by have:=s.o.1;omega
   have ae:=f.o.row;rw[<-s.o.1]at ae;have ag:=an.C4 ae;clear ae;obtain⟨b,o,rfl,cb,g0,g1⟩:=Fc ag s.o.1 l;have X:=s.o.2.1.mem_iff.1 (OR l);obtain⟨z,u⟩:=f.o.node X;obtain⟨d,ah⟩:∃d,d=j[k]:=⟨_,rfl⟩;rw[<-ah]at u X g0 g1;have ai:d.ok:=f.o.K7.at_.O2 (d,z) (bR u);have v:=f.o.C6 _ (bR u);have c0:=f.o.K7.at_.B0.cell 0;simp[qg]at c0;have ax:=f.o.K7.at_.lt;have az:∀W,dm W c p mb a g->(Instr.lookup 285 (.map (some mb)) (.agg #[E d.hi,E d.lo]) false).run prog W=.ok (Z z.p 0) W:=λW hW=>by
    have:=hW.map.look (k0:=d.hi) (k1:=d.lo) ai;rw[this,ji,u];rfl
   have y:=zh wr (.cells #[E d.hi,E d.lo] 58);have hx:=Blk.A8 wr 58 #[E d.hi,E d.lo] rfl;have a0:=λW hW=>Iz W c z.p z.x z.fz (λb=>L b=z.tag d/\b<wr.heap.size) hW (by have h1:z.x.D2.length<=c.sa:=v.E5;have:=H.o.2.2.2;omega) t;have aj:=λW hW=>EB W c H.o.2.2.2 z.p z.x z.fz (λb=>L b=z.tag d/\b<wr.heap.size) hW v.sorted v.E5 t;have HT:=Z3 (a0 _ ((f.o.K7.L3 u).up y.drew)) (aj _ ((f.o.K7.L3 u).up y.drew)) az;have hS:=And.intro hx.drew (f.o.K7.at_.up y.drew);have B:=Z6 u X ah ai y.drew hx.lt;have bk:=Z1 v.E5;have bl:Hid (g.length=zs.length):=Z1 (by have:=congrArg List.length f.o.keys_eq;simpa using this);obtain⟨k0,k1⟩:=d;simp only at*;clear ag u ah ai v X a0 aj y hx az;go_wp2;generalize a1:wr.heap.size=v9 at*;generalize bn:wr.alloc (.cells #[E k0,E k1] 58)=V9 at*;have a2:=Z1 a1;clear a1 bn;refine ay (S:=λV=>Blk V v9 58 #[E k0,E k1]/\dm V c p mb a g) zR hS ?_
   cases ho:nj z.x t with
   |false=>
    have HO:=Z1 ho;clear ho;simp only[zD,zE,Nat.reduceAdd,zG];refine zL ?_;refine zq 3 ?_ (λW hW=>?_) ?_;rotate_left
    ·have q0:_=some (Value.map (some mb)):=(hW.2.B0.cell 0);exact zf
    refine zq 4 ?_ (λW hW=>?_) ?_;rotate_left
    ·obtain⟨q0,q1⟩:=ao hW.1;exact zf
    refine zq 5 ?_ (λW hW=>?_) ?_;rotate_left
    ·have bo:=HT.o.2.2 _ hW.2;exact zf
    refine zL ?_;refine zo 7 λK hK=>?_;go_simp;refine zm (HT.o.1 HO.o) λw2 aa=>?_;have m:=And.intro (hS.1.later aa) (hS.2.up aa);have bp:=Z1 aa;clear aa;refine zJ hK m ?_;have q:=B.o.2.2.2.2.1;try rw[<-a2.o]at q
    have G:ec w w2 c T L i p mb a zs g t j (k+1) (.slice (some (Y b o)) n cc):=by
     have am:=B.o.2.2.1;have D:=B.o.1;rw[am]at D;exact f.o.same s.o.2.2.1 l D HO.o (af q bp.o)
    have HM:=Z1 G;clear G q hS m;go_wp2;go_roundw
    case rel=>exact⟨k+1,tot,L,a,g,zO,by go_num,rfl,HM⟩
    case measure=>simp[intOf];omega
   |true=>
    have HO:=Z1 ho;clear ho;have bb:=LG HO.o;have ax:=OJ (Ja z.x.D2 t) (by have h1:=bk.o;have h2:=H.o.2.2.2;omega);obtain⟨gn,ap⟩:∃gn,gn=placeF z.x.D2 t:=⟨_,rfl⟩;have a3:=Z1 (HT.o.2.1 HO.o);rw[<-ap]at a3 bb ax;have HG:=Z1 ap;clear ap;simp only[zD,zE,Nat.reduceAdd,zG];refine zL ?_;refine zq 3 ?_ (λW hW=>?_) ?_;rotate_left
    ·have q0:_=some (Value.map (some mb)):=(hW.2.B0.cell 0);exact zf
    refine zq 4 ?_ (λW hW=>?_) ?_;rotate_left
    ·obtain⟨q0,q1⟩:=ao hW.1;exact zf
    refine zq 5 ?_ (λW hW=>?_) ?_;rotate_left
    ·have bo:=HT.o.2.2 _ hW.2;exact zf
    refine zL ?_;refine zo 7 λK hK=>?_;go_simp;refine a3.o.mono ?_;rintro e w2 ⟨p',rfl,N⟩;have q:=B.o.2.2.2.2.1;try rw[<-a2.o]at q
    have O:=qi f.o.K7 q (F:=λb=>L b=z.tag ⟨k0,k1⟩/\b<v9) (λe b hb=>.inl (IZ e hb)) N;have m:=And.intro (N.box hS.1 λe=>by have:=e.2;omega) O.1;have bq:=Z1 O;clear O N q;refine zJ hK m ?_;have HK:=Z1 (mQ w2 c p mb a g m.2 ⟨k0,k1⟩ B.o.2.2.2.1 (by have h1:=bl.o;have h2:=H.o.2.2.1;omega) ⟨p',rx z.x t,false⟩);obtain⟨d0,d1⟩:=ao m.1;clear hS m;unfold K2.val K2.arr at HK;simp only at HK;have bu:0<(gn:Int):=zO;go_wp2_with fail;refine HK.o.mono ?_;rintro e w3 ⟨rfl,P,h4,a4⟩;have r:=bq.o.2 w3 P h4 a4;have hcut:∃T2 P aq,ec w w3 c T T2 i p mb P zs aq t j (k+1) (.slice (some (Y b o)) n cc):=by
     have am:=B.o.2.2.1;have D:=B.o.1;have ar:=B.o.2.1;rw[am]at D r ar;exact f.o.cut s.o.2.2.1 l ar D r
    obtain⟨T2,be,aq,hcut⟩:=hcut;have HM:=Z1 hcut;clear hcut h4 a4 r;go_wp2;go_roundw
    case rel=>exact⟨k+1,_,T2,be,aq,zO,by go_num,rfl,HM⟩
    case measure=>simp[intOf];omega
  ·obtain rfl:k=n:=zO;have hd:ou w wr c T i p mb zs t:=by
    have h0:=f.o;have e1:=s.o.1;exact ec.done (e1▸h0) λk hk=>s.o.2.1.mem_iff.2 hk
   have HD:=Z1 hd;clear hd;go_wp2;go_ret;exact⟨⟨_,rfl⟩,HD.o⟩
def ents(l:List Et):List Value:=l.flatMap Et.cells
def uN(a:Et):ents l++a.cells=ents (l++[a]):=by simp[ents]
def Jb:∀u∈ents l,u.oneCell'=true:=by
 intro u b;obtain⟨x,_,a⟩:=QU.1 b;simp[Et.cells]at a
 rcases a with rfl|rfl|rfl<;>rfl
def eZ(S:List K2)(z:K2×Nd):K2×Nd:=(z.1,if z.1∈S then{z.2 with fz:=true} else z.2)
def gr(T:Nat->Tg)(n:Nat)(S:List K2):Nat->Tg:=λb=>if n<=b then .free else match T b with
 | .nd k=>if k∈S then .fz else .nd k
 |t=>t
def mr(T:Nat->Tg){n b:Nat}(S:List K2)(h:n<=b):gr T n S b=.free:=OB h
def eq(T:Nat->Tg){n b:Nat}(S:List K2)(h:b<n)(hk:∀k,T b≠.nd k):gr T n S b=T b:=by
 unfold gr;rw[Oz zO];split
 ·rename_i k e;exact absurd e (hk k)
 ·rfl
def gZ(T:Nat->Tg){n b:Nat}{k:K2}(S:List K2)(h:b<n)(hk:T b=.nd k):gr T n S b=if k∈S then .fz else .nd k:=by
 unfold gr;rw[Oz zO,hk]
def kw{T:Nat->Tg}{n b:Nat}{S:List K2}{g:Tg}(h:gr T n S b=g)(hg:g≠.free):b<n/\((∃k,T b=.nd k/\k∈S/\g=.fz)\/(T b=g/\∀k,g=.nd k->k∉S)):=by
 by_cases c:b<n
 ·refine⟨c,?_⟩
  cases hT:T b with
  |nd k=>
   rw[gZ T S c hT]at h;by_cases a:k∈S
   ·rw[OB a]at h;exact .inl ⟨k,rfl,a,h.symm⟩
   ·rw[Oz a]at h;refine .inr ⟨h,λd e=>?_⟩;rw[<-h]at e;injection e with e;exact e▸a
  |_=>
   rw[eq T S c (by rw[hT];intro k e;cases e),hT]at h;exact .inr ⟨h,λd e=>by rw[e]at h;cases h⟩
 ·rw[mr T S zO]at h;exact absurd h.symm hg
def Nd.O6(z:Nd):Nd:={z with fz:=true}
def nr(zs:List (K2×Nd))(k:K2):Et:=⟨k,((ap zs k).map (·.p)).getD 0⟩
def xm(w:World)(c:Cg)(p:Nat)(x:Ld)(fz:Bool)(F:Nat->Prop)(h:bC w c p x fz F):
  C 318 #[Z p 0] w λe w'=>e=.returned (Z p 0)/\bC w' c p x true F/\ag (λj=>fz=false/\j=p) w w':=by
 have d:=Z1 (fX w F c p x fz h);obtain⟨a,f,g,i,k,l,r,h⟩:=h;have n:=h.F9;have q:=h.B0.frozen 10;have H:=Z1 h;clear h
 go_in
 go_wp2_with fail;refine d.o.mono ?_;rintro e s ⟨rfl,rfl⟩;go_wp2;go_ret;have hK:ag (λj=>j=p) w (w.setCell (Y p 10) (.bool true)):=(ag.refl (λj=>j=p) w).setCell (p:=Y p 10) (.inl rfl) _;have b:=H.o.B0.B4 10 (.bool true);refine⟨rfl,⟨a,f,g,i,k,l,r,H.o.D3 hK b rfl rfl⟩,?_⟩
 cases fz with
 |false=>exact hK.C3 λj e=>⟨rfl,e⟩
 |true=>
  refine⟨hK.os,hK.tape,hK.output,hK.size,λj m _=>?_⟩;by_cases e:j=p
  ·subst e;exact b.trans H.o.B0.symm
  ·exact hK.block j m e
structure jS(w wr:World)(c:Cg)(T:Nat->Tg)(i p mb:Nat)(C7:Int)(zs:List (K2×Nd))(ks:List K2)(j:Nat):Prop where
 K7:cL wr c (gr T w.heap.size (ks.take j)) i p mb C7 (zs.map (eZ (ks.take j)))
 B7:ag (λb=>∃k∈zs.map (·.1),T b=.nd k) w wr
section
variable {w wr W W':World} {c:Cg} {T:Nat→Tg} {i p mb:Nat} {C7:Int} {zs:List (K2×Nd)} {ks:List K2} {j:Nat} {z:Nd}
def jS.start(h:cL w c T i p mb C7 zs)(hb:M w wr):jS w wr c T i p mb C7 zs ks 0:=by
 refine⟨?_,ag.B5 hb⟩;have d:zs.map (eZ (ks.take 0))=zs:=by
  refine Eq.trans (PD λe f=>?_) (List.map_id zs);simp[eZ]
 rw[d];refine(h.tags λb hb=>?_).up hb;by_cases a:∃k,T b=.nd k
 ·obtain⟨k,a⟩:=a;rw[gZ T _ hb a,a];simp
 ·exact eq T _ hb λk e=>a ⟨k,e⟩
def uO(hnd:ks.Nodup)(hj:j<ks.length):ks[j]∉ks.take j:=λh=>by
 have a:=OG hj;have b:=a▸(List.take_sublist (j+1) ks).nodup hnd;have c:=Qa.1 b;exact c.2.2 _ h _ (Py.2 rfl) rfl
def jj(hj:j<ks.length):k∈ks.take (j+1)↔k∈ks.take j\/k=ks[j]:=by
 have a:=OG hj;rw[a,Po,Py]
def jS.node(h:jS w wr c T i p mb C7 zs ks j)(hnd:ks.Nodup)(hj:j<ks.length)(hz:ap zs ks[j]=some z):bC wr c z.p z.x z.fz (λb=>gr T w.heap.size (ks.take j) b=z.tag ks[j]):=by
 have a:=h.K7.nodes _ (Pq (f:=eZ (ks.take j)) (bR hz));unfold eZ at a;rw[Oz (uO hnd hj)]at a;exact a
def jS.next(h:jS w wr c T i p mb C7 zs ks j)(hd:cw zs)(hnd:ks.Nodup)(hj:j<ks.length)(hz:ap zs ks[j]=some z)(hN:bC W' c z.p z.x true λb=>gr T w.heap.size (ks.take j) b=z.tag ks[j])(hK:ag (λb=>z.fz=false/\b=z.p) wr W'):
  jS w W' c T i p mb C7 zs ks (j+1):=by
 have N:=uO hnd hj;have O:=h.node hnd hj hz;have t:z.fz=false->z.p<w.heap.size/\T z.p=.nd ks[j]:=λe=>by
  have P:=O.own;have q:z.tag ks[j]=.nd ks[j]:=by unfold Nd.tag;rw[Oz (by rw[e];exact Rm)]
  rw[q]at P;obtain⟨g,m⟩:=kw P (by intro e;cases e)
  rcases m with⟨k,_,_,a⟩|⟨m,_⟩
  ·cases a
  ·exact⟨g,m⟩
 have F:∀b,b<w.heap.size->(∀k,T b≠.nd k)->¬(z.fz=false/\b=z.p):=λb d l e=>by
  obtain⟨u,rfl⟩:=e;exact l _ (t u).2
 obtain⟨Q,q2⟩:=kw h.K7.tp (by intro e;cases e);obtain⟨R,q4⟩:=kw h.K7.tm (by intro e;cases e);have G:T p=.st i:=by
  rcases q2 with⟨_,_,_,e⟩|⟨e,_⟩
  ·cases e
  ·exact e
 have H:T mb=.st i:=by
  rcases q4 with⟨_,_,_,e⟩|⟨e,_⟩
  ·cases e
  ·exact e
 have S:=F p Q (λk e=>by rw[G]at e;cases e);have U:=F mb R (λk e=>by rw[H]at e;cases e);refine⟨⟨?_,?_,?_,λy hy=>?_⟩,bL h.B7 hK λb d e=>?_⟩
 ·have X:=h.K7.at_.B7 hK S U;have u:iT (zs.map (eZ (ks.take (j+1))))=iT (zs.map (eZ (ks.take j))):=by
   unfold iT;rw[Px,Px];refine PD λe _=>?_;simp only[Function.comp,eZ];congr 2;split<;>split<;>rfl
  exact⟨X.B0,by rw[u];exact X.map⟩
 ·rw[eq T _ Q (λk e=>by rw[G]at e;cases e),G]
 ·rw[eq T _ R (λk e=>by rw[H]at e;cases e),H]
 ·obtain⟨e,he,rfl⟩:=Pa.1 hy;by_cases l:e.1=ks[j]
  ·have ab:e.2=z:=by
    have q:=im hd (x:=ks[j]) (v:=e.2) (by rw[<-l];exact he);rw[hz]at q;injection q with q;exact q.symm
   have L:eZ (ks.take (j+1)) e=(ks[j],z.O6):=by
    unfold eZ;rw[OB ((jj hj).2 (.inr l)),ab,l];rfl
   rw[L];refine hN.more λb d A=>?_;have B:Nd.tag z.O6 ks[j]=.fz:=rfl;show gr T w.heap.size (ks.take (j+1)) b=_;rw[B];have ac:b<w.heap.size/\((∃k,T b=.nd k/\k∈ks.take (j+1))\/T b=.fz):=by
    obtain⟨g,m⟩:=kw A (by unfold Nd.tag;split<;>(intro e;cases e));refine⟨g,?_⟩
    rcases m with⟨k,a,n,_⟩|⟨a,_⟩
    ·exact .inl ⟨k,a,(jj hj).2 (.inl n)⟩
    ·unfold Nd.tag at a;split at a
     ·exact .inr a
     ·exact .inl ⟨_,a,(jj hj).2 (.inr rfl)⟩
   obtain⟨g,⟨k,a,n⟩|a⟩:=ac
   ·rw[gZ T _ g a,OB n]
   ·rw[eq T _ g (by rw[a];intro k e;cases e),a]
  ·have L:eZ (ks.take (j+1)) e=eZ (ks.take j) e:=by
    unfold eZ;congr 1;by_cases r:e.1∈ks.take j
    ·rw[OB ((jj hj).2 (.inl r)),OB r]
    ·rw[Oz (λh=>((jj hj).1 h).elim r l),Oz r]
   rw[L];have hm:=h.K7.nodes _ (Pq (f:=eZ (ks.take j)) he);have ad:∀b,gr T w.heap.size (ks.take j) b=(eZ (ks.take j) e).2.tag (eZ (ks.take j) e).1->¬(z.fz=false/\b=z.p):=λb d A=>by
    obtain⟨B,rfl⟩:=A;have D:=t B;rw[gZ T _ D.1 D.2,Oz N]at d;unfold Nd.tag at d;split at d
    ·cases d
    ·injection d with d;exact l d.symm
   refine(hm.B7 hK ad).more λb d A=>?_;obtain⟨g,m⟩:=kw A (by unfold Nd.tag;split<;>(intro e;cases e))
   rcases m with⟨k,a,n,D⟩|⟨a,n⟩
   ·rw[gZ T _ g a,OB ((jj hj).2 (.inl n)),D]
   ·by_cases s:∃k,T b=.nd k
    ·obtain⟨k,s⟩:=s;have o:=a.symm.trans s;have r:=n k o;have ae:k≠ks[j]:=λB=>by
      unfold Nd.tag at o;split at o
      ·cases o
      ·injection o with o;exact l (o.trans B)
     rw[gZ T _ g s,Oz (λh=>((jj hj).1 h).elim r ae),<-s,a]
    ·rw[eq T _ g (λk e=>s ⟨k,e⟩),a]
 ·obtain⟨u,rfl⟩:=e;exact⟨ks[j],Pq (f:=(·.1)) (bR hz),(t u).2⟩
end
def Bt:cE prog 170 224 (.agg #[E 0,E 0,.pointer none]) 3 24:=⟨underlying170,zR,rfl⟩
def uP{B B' s s' n':Nat}{e e':TypeId}{v':Value}{xs xs':List Value}(h:w.ownsRow B e s v n xs)(h':w.ownsRow B' e' s' v' n' xs')(hne:e≠e'):∀g,v.ownBlock=some g->some g≠v'.ownBlock:=by
 intro g b a
 rcases h'.2 with⟨rfl,_⟩|⟨c,f,i,rfl,_,d,_⟩
 ·cases a
 ·have:g=c:=by simpa[Value.ownBlock]using a
  subst this;exact aB h d hne b
def tR(w wr:World)(c:Cg)(T:Nat->Tg)(i p mb:Nat)(C7:Int)(zs:List (K2×Nd))(ks:List K2)(v vo:Value)(k:Nat):Prop:=
 jS w wr c T i p mb C7 zs ks k/\wr.ownsRow w.heap.size 58 2 v ks.length (cG ks)/\wr.ownsRow w.heap.size 224 3 vo k (ents ((ks.take k).map (nr zs)))
def Am(w:World)(c:Cg)(T:Nat->Tg)(i p mb:Nat)(C7:Int)(zs:List (K2×Nd))(h:cL w c T i p mb C7 zs)(hn:zs.length<=10000):
  C 306 #[Z p 0] w λe w'=>∃ks v,ks.Perm (zs.map (·.1))/\e=.returned v/\jS w w' c T i p mb C7 zs ks ks.length/\w'.ownsRow w.heap.size 224 3 v ks.length (ents (ks.map (nr zs))):=by
 have HK:=Z1 (qM w c p mb C7 zs h.at_ zO);have H:=Z2 h hn;clear h hn
 go_in
 go_wp2_with fail;refine HK.o.mono ?_;rintro e w1 ⟨vr,ys,rfl,hp,hm⟩;obtain⟨ks,U⟩:∃ks,ks=qk ys:=⟨_,rfl⟩;have X:ks.Perm (zs.map (·.1)):=by rw[U];exact(Sc _ _).trans hp
 have q:ys.length=ks.length:=by rw[U];exact(Rr _).symm
 have a6:=X.nodup_iff.2 H.o.1.at_.D7;rw[<-U,q]at hm;have a7:ks.length<=10000:=by rw[X.length_eq,Pe];exact H.o.2
 have F:tR w w1 c T i p mb C7 zs ks vr (.slice none 0 0) 0:=⟨jS.start H.o.1 hm.below,hm.own,Pn _ _ _ _⟩;obtain⟨A,cc,rfl,cl,_⟩:=ak hm.own;obtain⟨n,aa⟩:∃n,n=ks.length:=⟨_,rfl⟩;have cm:n<=10000:=zO;rw[<-aa]at F;have bv:=Z1 F;have G:=Z4 aa X a6 a7;rw[<-aa];clear F hm q U aa X a6 hp a7 HK;go_wp2;go_loopw [3,9] (λov iv wr=>∃(k:Nat),k<=n/\iv=I k/\Hid (tR w wr c T i p mb C7 zs ks (.slice A n cc) ov k)) (λ_ iv _=>n-(intOf iv).toNat)
 case atStart=>exact⟨0,OK _,rfl,bv⟩
 case round=>
  obtain⟨k,hk,rfl,f⟩:=hrel;by_cases cn:k<n
  ·have q:k<ks.length:=by have:=G.o.1;omega
   have aj:=f.o.2.1;rw[<-G.o.1]at aj;have al:=an.C4 aj;clear aj;obtain⟨b,o,rfl,cp,g0,g1⟩:=Fc al G.o.1 q;have ab:=G.o.2.1.mem_iff.1 (OR q);obtain⟨z,t⟩:=Rd.1 (gY.2 ab);obtain⟨a,r⟩:∃a,a=ks[k]:=⟨_,rfl⟩;rw[<-r]at t ab g0 g1;have am:a.ok:=H.o.1.at_.O2 (a,z) (bR t);have l:=f.o.1.node G.o.2.2.1 q (by rw[<-r];exact t);rw[<-r]at l;have a8:∀W,dm W c p mb C7 (zs.map (eZ (ks.take k)))->(Instr.lookup 285 (.map (some mb)) (.agg #[E a.hi,E a.lo]) false).run prog W=.ok (Z z.p 0) W:=λW hW=>by
    have:=hW.map.look (k0:=a.hi) (k1:=a.lo) am;have e:ap (zs.map (eZ (ks.take k))) a=some (eZ (ks.take k) (a,z)).2:=by
     have:=rv zs (λk' z'=>(eZ (ks.take k) (k',z')).2) a;rw[t]at this;exact this
    rw[this,ji,e];have e2:(eZ (ks.take k) (a,z)).2.p=z.p:=by unfold eZ;simp only;split<;>rfl
    simp only[PT,Qd,e2]
   have ac:=zh wr (.cells #[E a.hi,E a.lo] 58);have hx:=Blk.A8 wr 58 #[E a.hi,E a.lo] rfl;have a9:=xm _ c z.p z.x z.fz _ (l.up ac.drew);have HF:=Z2 a9 a8;have N:=Z2 (show Blk (wr.alloc (.cells #[E a.hi,E a.lo] 58)) wr.heap.size 58 #[E a.hi,E a.lo]from hx) (f.o.1.K7.at_.up ac);have s:Et.cells (nr zs a)=[E a.hi,E a.lo,Z z.p 0]:=by
    unfold nr Et.cells;rw[t];rfl
   have HZ:=Z7 t ab r am ac.drew hx.lt s;have ba:z.fz=false->z.p<w.heap.size:=λe=>by
    have m:=l.own;have D:z.tag a=.nd a:=by unfold Nd.tag;rw[Oz (by rw[e];exact Rm)]
    rw[D]at m;exact(kw m (by intro e;cases e)).1
   have aq:=Z1 ba;have ar:z.p≠p/\z.p≠mb:=by
    have m:=l.own;have ht:z.tag a≠.st i:=by unfold Nd.tag;split<;>(intro e;cases e)
    exact⟨λe=>ht (by rw[<-m,e];exact f.o.1.K7.tp),λe=>ht (by rw[<-m,e];exact f.o.1.K7.tm)⟩
   have au:=Z1 ar;have bb:=f.o.1.B7.size;have bc:=Z1 bb;obtain⟨k0,k1⟩:=a;simp only at*;obtain⟨Ao,co,rfl,_,_⟩:=ak f.o.2.2;clear al t r am ab ac hx a8 a9 l s ba ar bb;go_wp2;generalize bd:wr.heap.size=v9 at*;generalize bz:wr.alloc (.cells #[E k0,E k1] 58)=V9 at*;have O:=Z1 bd;clear bd bz;have HS:=N;have hS:ag (λj=>(z.fz=false/\j=z.p)\/(Value.slice Ao k co).ownBlock=some j) V9 V9.drew:=(ag.refl _ V9).drew;refine ay (S:=λV=>ag (λj=>(z.fz=false/\j=z.p)\/(Value.slice Ao k co).ownBlock=some j) V9 V) zR hS ?_;have be:∀j,(j=v9\/j=p\/j=mb)->¬((z.fz=false/\j=z.p)\/(Value.slice Ao k co).ownBlock=some j):=by
    rintro j hj (⟨e1,e2⟩|e)
    ·have m:=aq.o e1;have D:=O.o;have h3:=bc.o
     rcases hj with rfl|rfl|rfl
     ·omega
     ·exact au.o.1 e2.symm
     ·exact au.o.2 e2.symm
    ·have m:=f.o.2.2.lt j e;have D:=O.o;have h3:=H.o.1.at_.lt
     rcases hj with rfl|rfl|rfl<;>omega
   have u:=Z1 be;clear be;simp only[zD,zE,Nat.reduceAdd,zG];refine zL ?_;refine zq 1 ?_ (λW hW=>?_) ?_;rotate_left
   ·obtain⟨q0,q1⟩:=ao (hW.B0 N.o.1 (u.o _ (.inl rfl)));exact zf
   refine zL ?_;refine zq 5 ?_ (λW hW=>?_) ?_;rotate_left
   ·have q0:_=some (Value.map (some mb)):=((N.o.2.B7 hW (u.o _ (.inr (.inl rfl))) (u.o _ (.inr (.inr rfl)))).B0.cell 0);exact zf
   refine zq 6 ?_ (λW hW=>?_) ?_;rotate_left
   ·obtain⟨q0,q1⟩:=ao (hW.B0 N.o.1 (u.o _ (.inl rfl)));exact zf
   refine zq 7 ?_ (λW hW=>?_) ?_;rotate_left
   ·have cq:=HF.o.2 _ (N.o.2.B7 hW (u.o _ (.inr (.inl rfl))) (u.o _ (.inr (.inr rfl))));exact zf
   refine zo 8 λK hK=>?_;go_simp;refine Calls.mono HF.o.1 ?_;rintro e w2 ⟨rfl,P,av⟩;have ad:=hS.trans (av.C3 λj e=>.inl e);have H2:=Z2 P av;clear P av;refine zJ hK ad ?_;refine zo 10 λK hK=>?_;go_simp;refine zJ hK (ad.alloc _) ?_;refine zo 11 λK hK=>?_;try simp only[iZ]
   have a5:w2.ownsRow w.heap.size 224 3 (.slice Ao k co) k (ents ((ks.take k).map (nr zs))):=by
    have F:=f.o.2.2;have Q:=HZ.o.2.2.2.2.1;try rw[<-O.o]at Q
    refine H2.o.2.C8 ((ag.B5 (L:=λ_=>False) Q).C8 F λ_ _ e=>e) λg d e=>?_;have:=(F.lt g d).1;have m:=aq.o e.1;have D:=e.2;omega
   refine iI (w:=w2) (n:=k) (xs:=ents ((ks.take k).map (nr zs))) (B:=w.heap.size) (v:=.slice Ao k co) Bt zP (.tmp 13) (.tmp 23) rfl zF a5 (OJ bc.o (by have m:=HZ.o.2.2.2.2.1.size;have D:=H2.o.2.size;have h3:=O.o;omega)) rfl zF rfl zV zO zU ?_;intro v' w' bf aw bg;have bh:=dl ad aw (λ_ h=>h) λj hj=>.inr hj;have H4:=Z3 bf aw bg;clear bf aw bg;refine zJ hK bh ?_;have ax:tR w w' c T i p mb C7 zs ks (.slice (some (Y b o)) n cc) v' (k+1):=by
    have r:=HZ.o.2.2.1;have t:=HZ.o.1;have bi:=H2.o.1;have s:=HZ.o.2.2.2.2.2.2;rw[r]at t bi s;have R:=f.o.2.1;have Q:=HZ.o.2.2.2.2.1;try rw[<-O.o]at Q
    have bj:=(ag.B5 Q).trans H2.o.2;have bk:=f.o.1.next H.o.1.at_.D7 G.o.2.2.1 q t bi bj;have b2:=uP R f.o.2.2 zP;have az:∀g,(Value.slice Ao k co).ownBlock=some g->w.heap.size<=g:=λg d=>(f.o.2.2.lt g d).1;have b3:=H4.o.2.1;have a0:=dl (ag.refl _ w2) b3 (λ_ h=>h) λ_ h=>h;refine⟨⟨?_,?_⟩,?_,?_⟩
    ·refine bk.K7.B7 a0 (λg d e=>?_) λy _ g d e=>?_
     ·rw[mr T _ (az g e)]at d
      cases d
     ·rw[mr T _ (az g e)]at d;unfold Nd.tag at d;split at d<;>cases d
    ·exact bL bk.B7 a0 λg d e=>by have:=az g e;omega
    ·refine(bj.C8 R λg d e=>?_) |> λF=>a0.C8 F λg d e=>b2 g d e.symm;have m:=(R.lt g d).1;have D:=aq.o e.1;have h3:=e.2;omega
    ·have h5:=H4.o.1;have hs:=OG q;rw[hs,QC,Pi,Qs,<-uN,s];exact h5
   have b4:=Z1 ax;clear ax bh ad hS HS;go_wp2;go_roundw
   case rel=>exact⟨k+1,zO,by go_num,b4⟩
   case measure=>simp[intOf];omega
  ·obtain rfl:k=n:=zO;have hd:=f.o;have HD:=Z1 hd;clear hd;go_wp2;go_ret;have e1:=G.o.1;have m:=HD.o;rw[e1]at m;have D:=m.2.2;rw[PO]at D;exact⟨ks,_,G.o.2.1,rfl,m.1,D⟩
end Go.Fw
