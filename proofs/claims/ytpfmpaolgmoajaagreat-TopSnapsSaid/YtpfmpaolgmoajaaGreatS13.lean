/- Lemmas of this claim. Conditions: as each says. -/
import Derived.Test.YtpfmpaolgmoajaaGreatS11
import Derived.Test.YtpfmpaolgmoajaaGreatS12
import Derived.Shelf.SlIter.Keys
import Derived.Shelf.SlSortCmp.NoneTotal
set_option linter.unusedVariables false
set_option linter.unusedSimpArgs false
set_option maxHeartbeats 4000000
set_option maxRecDepth 20000
set_option linter.defProp false
open Go.Proofs.Tryz
namespace Go.Fw
open Go.RowKit open Go.Proofs hiding intOf
variable {L:Nat->Prop}{ops:Array Oper}{rest:List Oper}{a:Act}{Q:Exit->Act->World->Prop}{x:Ld}{B p mb p':Nat}{C7 t:Int}{w1 w2:World}(w:World)(gf:Nat)(w':World)(lb:Array Value)(l:List K2)(S:Nat->Prop)(u n k:Nat)(c:Cg)(W:World)(Sp:List K2->Prop)(N:Nat)(Kp:World->World->Prop)(A:Option Addr)
inductive Tg where
 |free
 |st (i:Nat)
 |nd (k:K2)
 |fz
 |F2
 |wld
 |lk (n:Nat)
 |ln
 |al
 |q
 |ev
 |cl (i:Nat)
 |wk (i:Nat)
 |eng
 deriving DecidableEq
def ext(T:Nat->Tg)(n:Nat)(g:Tg):Nat->Tg:=λk=>if k<n then T k else g
def br(T:Nat->Tg){n k:Nat}(g:Tg)(h:k<n):ext T n g k=T k:=OB h
def cC(T:Nat->Tg){n k:Nat}(g:Tg)(h:n<=k):ext T n g k=g:=Oz zO
structure Nd where
 p:Nat
 x:Ld
 fz:Bool
def Nd.tag(z:Nd)(k:K2):Tg:=if z.fz=true then .fz else .nd k
def iT(zs:List (K2×Nd)):List (K2×Value):=zs.map λz=>(z.1,Z z.2.p 0)
def ji(zs:List (K2×Nd))(k:K2):ap (iT zs) k=(ap zs k).map λz=>Z z.p 0:=rv zs (λ_ z=>Z z.p 0) k
def nm(zs:List (K2×Nd)):(iT zs).length=zs.length:=by simp[iT]
def xb(zs:List (K2×Nd))(k:K2)(z:Nd):aR (iT zs) k (Z z.p 0)=iT (aR zs k z):=by
 induction zs with
 |nil=>rfl
 |cons e r ih=>
  obtain⟨j,y⟩:=e;simp only[iT,Pi,aR]at ih ⊢;by_cases h:j=k
  ·simp[h]
  ·simp[h,ih]
abbrev iq(w:World)(b:Nat)(l:List (K2×Value)):Prop:=aw prog 58 lO K2.ok w b l
def iq.drew{w:World}{b:Nat}{l:List (K2×Value)}(h:iq w b l):iq w.drew b l:=aw.D3 h rfl
def uH(w:World):(zeroValue 173).run prog w=.ok (.pointer none) w:=zR
def iq.look{w:World}{b:Nat}{l:List (K2×Value)}(h:iq w b l){k0 k1:Int}(hk:K2.ok ⟨k0,k1⟩):
  (Instr.lookup 285 (.map (some b)) (.agg #[E k0,E k1]) false).run prog w=.ok ((ap l ⟨k0,k1⟩).getD (.pointer none)) w:=
 aw.look h jO underlying285 (uH w) hk
def iq.look_ok{w:World}{b:Nat}{l:List (K2×Value)}(h:iq w b l){k0 k1:Int}(hk:K2.ok ⟨k0,k1⟩):
  (Instr.lookup 285 (.map (some b)) (.agg #[E k0,E k1]) true).run prog w=.ok (.tuple #[(ap l ⟨k0,k1⟩).getD (.pointer none),.bool (ap l ⟨k0,k1⟩).isSome]) w:=
 aw.look_ok h jO underlying285 (uH w) hk
def qg(c:Cg)(mb:Nat)(C7:Int):Array Value:=#[.map (some mb),I c.st,I c.sa,I c.lo,I c.hi,I C7]
structure dm(w:World)(c:Cg)(p mb:Nat)(C7:Int)(zs:List (K2×Nd)):Prop where
 B0:Blk w p 287 (qg c mb C7)
 map:iq w mb (iT zs)
structure cL(w:World)(c:Cg)(T:Nat->Tg)(i p mb:Nat)(C7:Int)(zs:List (K2×Nd)):Prop where
 at_:dm w c p mb C7 zs
 tp:T p=.st i
 tm:T mb=.st i
 nodes:∀z∈zs,bC w c z.2.p z.2.x z.2.fz (λb=>T b=z.2.tag z.1)
section
variable {w w':World} {c:Cg} {T:Nat→Tg} {i p mb:Nat} {C7:Int} {zs:List (K2×Nd)}
def dm.lt(h:dm w c p mb C7 zs):p<w.heap.size/\mb<w.heap.size:=⟨h.B0.lt,h.map.lt⟩
def dm.ne(h:dm w c p mb C7 zs):p≠mb:=Pc (aw.C9 h.map h.B0)
def dm.B7(h:dm w c p mb C7 zs)(hK:ag L w w')(h1:¬L p)(h2:¬L mb):dm w' c p mb C7 zs:=⟨hK.B0 h.B0 h1,aw.B7 h.map hK h2⟩
def dm.up(h:dm w c p mb C7 zs)(hb:M w w'):dm w' c p mb C7 zs:=h.B7 (L:=λ_=>False) (ag.B5 hb) id id
def cL.B7(h:cL w c T i p mb C7 zs)(hK:ag L w w')(h1:∀b,T b=.st i->¬L b)(h2:∀z∈zs,∀b,T b=z.2.tag z.1->¬L b):cL w' c T i p mb C7 zs:=
 ⟨h.at_.B7 hK (h1 _ h.tp) (h1 _ h.tm),h.tp,h.tm,λz a=>(h.nodes z a).B7 hK (h2 z a)⟩
def cL.up(h:cL w c T i p mb C7 zs)(hb:M w w'):cL w' c T i p mb C7 zs:=h.B7 (L:=λ_=>False) (ag.B5 hb) (λ_ _ e=>e) λ_ _ _ _ e=>e
def cL.tags{T':Nat->Tg}(h:cL w c T i p mb C7 zs)(hT:∀b,b<w.heap.size->T' b=T b):cL w c T' i p mb C7 zs:=
 ⟨h.at_,(hT _ h.at_.lt.1).trans h.tp,(hT _ h.at_.lt.2).trans h.tm,λz a=>(h.nodes z a).more λb d e=>(hT b d).trans e⟩
end
def mP(w:World)(c:Cg)(p mb:Nat)(C7:Int)(zs:List (K2×Nd))(h:dm w c p mb C7 zs):C 300 #[Z p 0] w λe w'=>e=.returned (.bool true)/\w=w':=by
 have a:w.cell? (Y p 0)=some (.map (some mb)):=h.B0.cell 0;have b:∀w,(binOp .neq 285 (.map (some mb)) (.map none)).run prog w=.ok (.bool true) w:=λw=>zR;clear h
 go_in
 go_wp2;go_ret;exact⟨rfl,rfl⟩
def rE(w:World)(c:Cg)(p mb:Nat)(C7:Int)(zs:List (K2×Nd))(h:dm w c p mb C7 zs)(k:K2)(hk:k.ok):
  Calls prog 311 #[.pointer (some ⟨p,0,none⟩),k.val] w λe w'=>e=.returned ((ap (iT zs) k).getD (.pointer none))/\Below w.heap.size w w':=by
 have a:=zh w (.cells #[.int .u64 k.hi,.int .u64 k.lo] 58);have f:=Blk.A8 w 58 #[.int .u64 k.hi,.int .u64 k.lo] rfl;have b:=h.up a;have j:=Z1 (mP _ c p mb C7 zs b);have l:=b.B0.cell 0;simp[qg]at l;obtain⟨m,n⟩:=k;have q:=(iq.drew b.map).look hk;have g:=Z2 a f;unfold K2.val K2.arr;simp only at*;clear h b a f
 go_in
 go_wp2_with fail;refine j.o.mono ?_;rintro e r ⟨rfl,rfl⟩;generalize d:w.heap.size=s at*;generalize w.alloc (.cells #[.int .u64 m,.int .u64 n] 58)=V at*;have i:=Z1 d;clear d;obtain⟨t,u⟩:=ao g.o.2;go_wp2;refine cM (by kernel_rfl) (by kernel_rfl) ?_;repeat still_step
 refine wpStill_nil ?_;go_wp2;go_ret;exact⟨rfl,i.o▸g.o.1.drew⟩
def mQ(w:World)(c:Cg)(p mb:Nat)(C7:Int)(zs:List (K2×Nd))(h:dm w c p mb C7 zs)(k:K2)(hk:k.ok)(hn:zs.length<=100000)(z:Nd):
  C 303 #[Z p 0,k.val,Z z.p 0] w λe w'=>e=.returned (.tuple #[])/\∃ver',dm w' c p mb ver' (aR zs k z)/\ag (λb=>b=p\/b=mb) w w':=by
 have f:=zh w (.cells #[E k.hi,E k.lo] 58);have s:=Blk.A8 w 58 #[E k.hi,E k.lo] rfl;have n:=h.up f;have F:=n.B0.cell 0;simp[qg]at F;have j:=h.lt;obtain⟨t,u⟩:=k;have a:=Z5 f s n j hk;unfold K2.val K2.arr;simp only at*;clear h n f s j hk
 go_in
 go_wp2;generalize l:w.heap.size=H at*;generalize w.alloc (.cells #[E t,E u] 58)=V at*;have x:=Z1 l;clear l;obtain⟨L,N⟩:=ao a.o.2.1;refine zb 6 ?_;repeat still_step
 refine wpStill_nil ?_;refine cZ rfl _ _ _ 285 173 rfl jO underlying285 ⟨t,u⟩ a.o.2.2.2.2 (Z z.p 0) rfl rfl rfl (iq.drew a.o.2.2.1.map) (by rw[nm];exact hn) ?_;intro q g i y;rw[xb]at g;have d:=i.B0 a.o.2.2.1.B0.drew a.o.2.2.1.ne;have G:=d.cell 5;have O:=d.frozen 5;simp[qg]at G;have r:=Z3 g i d;clear g i y d;go_wp2;have A:=a.o.2.2.1.ne;have B:=r.o.2.2.B4 5 (I (wrap64 (C7+1)));have m:ag (λb=>b=p) q (q.setCell (Y p 5) (I (wrap64 (C7+1)))):=(ag.refl (λb=>b=p) q).setCell (p:=Y p 5) (.inl rfl) _;have D:=a.o.1;try rw[<-x.o]at D
 exact Pf (v:=.tuple #[]) (by simp[results,results303,go_sem]) rfl ⟨rfl,_,⟨B,aw.B7 r.o.1 m (Pc A)⟩,((ag.B5 D).drew.trans (r.o.2.1.C3 λb e=>.inr e)).trans (m.C3 λb e=>.inl e)⟩
section
open Go.Maps Go.Sort Go.Shelf
section
variable {F:Fence} {n:Nat} {P:Program} {k:TypeId} {κ:Type} {enc:κ→Lit} {val:κ→Value} {E3:κ→Prop} {w:World} {b:Nat} {l:List (κ×Value)}
def rG{o:Oper}(hg:o.guard=none)(m:Operand)(t e:TypeId)(hop:o.op=Op.range t m)
  (K:gp P k enc val E3)(ht:P.underlying t=some (.map k e))(hm:a.eval m=.map (some b))(h:aw P k enc E3 w b l)
  (hK:∀w',dx P k enc E3 w' b w.heap.size l (l.map (·.1)) l.length->M w w'->w'.heap.size=w.heap.size+1->wpListIn F n P ops Q rest (a.put o.dst (Z w.heap.size 0)) w'):
  wpListIn F n P ops Q (o::rest) a w:=by
 refine wpListIn_plain hg λq f=>?_;obtain⟨w',d,i,j,p⟩:=h.range K ht;unfold Oper.wpIn;refine⟨?_,?_⟩
 ·simp[Oper.about,hop]
 ·rw[Oper.semAt_plain F _ _ (by rw[hop];intro c g;cases g)];simp[execOp,hop,hm,d,Result.andThen];exact f _ _ (hK w' i j p)
def sE[DecidableEq κ]{o:Oper}{r cnt:Nat}{todo:List κ}(hg:o.guard=none)(it:Operand)(hop:o.op=Op.next it false)
  (K:gp P k enc val E3)(hval:∀v x,E3 x->keyOf P k v=some (enc x)->v=val x)(hit:a.eval it=Z r 0)(h:dx P k enc E3 w b r l todo cnt)
  (hDone:todo=[]->wpListIn F n P ops Q rest (a.put o.dst (.tuple #[.bool false])) w)
  (hMore:∀x v w' cnt',x∈todo->ap l x=some v->dx P k enc E3 w' b r l (todo.erase x) cnt'->cnt'<cnt->ag (λj=>j=r) w w'->w'.heap.size=w.heap.size->(Instr.entry (Z r 0)).run P w'=.ok (.tuple #[val x,v]) w'->
   wpListIn F n P ops Q rest (a.put o.dst (.tuple #[.bool true,val x,v])) w'):
  wpListIn F n P ops Q (o::rest) a w:=by
 refine wpListIn_plain hg λy e=>?_;unfold Oper.wpIn;refine⟨by simp[Oper.about,hop],?_⟩;rw[Oper.semAt_plain F _ _ (by rw[hop];intro c f;cases f)]
 rcases h.next K hval o.type with⟨g,d⟩|⟨x,v,w',cnt',i,m,d,p,q,s,t,u⟩
 ·simp[execOp,hop,hit,d,Result.andThen];exact e _ _ (hDone g)
 ·simp[execOp,hop,hit,d,Result.andThen];exact e _ _ (hMore x v w' cnt' i m p q s t u)
end
end
def ET(mb:Option Nat)(w:World):C 316 #[.map mb] w λe w'=>
  e=.returned (.func (.func 324) #[] #[Z w.heap.size 0])/\w.alloc (.cells #[.map mb] 285)=w':=by
 go_in
 go_wp2;go_ret;exact⟨rfl,rfl⟩
section
open Go.Maps Go.Sort Go.Shelf
set_option maxRecDepth 100000
attribute [local go_sem] Oper.semAt_some
def Nj(v:Value)(x:K2)(hx:x.ok)(h:keyOf prog 58 v=some (lO x)):v=x.val:=qf.inj h (nI x hx)
def EU(hn:1<=n)(l Bm b tb:Nat)(zs:List (K2×Value))(J Jx:List K2->World->Prop)(W:World)(hJ:AbidesFrom W.heap.size J)
  (hY:∀pre x W1,J pre W1->pre.length<zs.length->YieldAt Fence.wide (n-1) prog l #[x.val] W1 λe W'=>
   (e=.returned (.bool true)/\J (pre++[x]) W'/\KeepsWalks W1 W')\/(e=.returned (.bool false)/\Jx (pre++[x]) W'))
  (hm:Blk W Bm tb #[.map (some b)])(hown:iq W b zs)(h0:J [] W):
  CallsIn Fence.wide n prog 324 #[.func (.yield l) #[] #[],Z Bm 0] W λe W'=>(∃v,e=.returned v)/\
   ((∃ys,ys.Perm (zs.map (·.1))/\J ys W')\/∃pre,Jx pre W'):=by
 have R:=hm.cell 0;refine callsIn_of_wp func324 rfl trivial ?_ rfl;simp only[ntmps324,OD,OC,OE,Nat.reduceAdd,Nat.reduceSub,Qu,Qv,QJ,QD,QA,PY];simp at R
 gi_wp2_with (first
  |(gi_at_range;refine rG rfl _ 285 173 rfl jO underlying285 rfl hown ?_;intro w0 L g an)
  |gi_in)
 go_frame
 gi_loopw [3] (λ_ wr=>∃(a:List K2) (B:Nat) (c:List K2),dx prog 58 lO K2.ok wr b W.heap.size zs a B/\(c++a).Perm (zs.map (·.1))/\J c wr)
  (λ_ wr=>wr.rangeLeft b W.heap.size)
 case atStart=>
  exact⟨_,_,[],L,.refl _,hJ [] W w0 none h0 ⟨g.os,g.tape,g.output,g.size,λj m _=>g.block j m⟩ (λr e=>by cases e)⟩
 case round=>
  obtain⟨a,B,c,p,A,D⟩:=hrel
  gi_wp2_with (first
   |(gi_at_next;refine sE rfl _ rfl jO (λv x q h=>Nj v x q h) rfl p ?_ ?_)
   |gi_in)
  ·intro h0;gi_wp2
   go_end0
   subst h0;exact⟨⟨_,rfl⟩,.inl ⟨c,by simpa using A,D⟩⟩
  ·intro x v k s q hv t S f T ao;have u:c.length<zs.length:=by
    have N:=A.length_eq;have U:=List.length_pos_of_mem q;simp at N;omega
   have F:((c++[x])++a.erase x).Perm (zs.map (·.1)):=by
    refine List.Perm.trans ?_ A;rw[Pv];exact List.Perm.append_left c (List.perm_cons_erase q).symm
   have G:∃o:Obj,wr.heap[W.heap.size]?=some o/\o.isWalk=true:=by
    obtain⟨_,_,h,_⟩:=p.own;exact h.iter_walk
   have H:=hJ c wr k (some W.heap.size) D ⟨f.os,f.tape,f.output,f.size,λj m X=>f.block j m λe=>X (by rw[e])⟩ (λr e=>by cases e;exact⟨OA _,G⟩);obtain⟨w,y⟩:=x;have d:M k (k.alloc (.cells #[E w,E y] 58)):=ae (Oy _ _) _;have i:=hJ c k (k.alloc (.cells #[E w,E y] 58)) none H ⟨d.os,d.tape,d.output,d.size,λj m _=>d.block j m⟩ (λr e=>by cases e);obtain⟨fn,af,aa,ag,hy,ab⟩:=hY c ⟨w,y⟩ _ i u;have O:=Z3 F (t.up d) S;unfold K2.val K2.arr at*;simp only at*;clear u F G H A T q t f i d;gi_wp2;refine ab.mono ?_;rintro e W3 (⟨rfl,i,ac⟩|⟨rfl,P⟩)
   ·gi_wp2;have z:dx prog 58 lO K2.ok W3 b W.heap.size zs (a.erase ⟨w,y⟩) s:=by
     obtain⟨⟨es,Q,N,U⟩,h3,h4,h5,h6⟩:=O.o.2.1;exact⟨⟨es,Q,N.of_walks ac,U⟩,h3,h4,h5,h6⟩
    go_roundw
    case rel=>exact⟨_,s,c++[⟨w,y⟩],z,O.o.1,i⟩
    case measure=>rw[z.left_eq,p.left_eq];exact O.o.2.2
   ·gi_wp2;refine OH (Pb rfl _ _ _) rfl ?_;exact⟨⟨_,rfl⟩,.inr ⟨_,P⟩⟩
end
section
open Go.Maps Go.Sort Go.Shelf
set_option maxRecDepth 100000
attribute [local go_sem] Oper.semAt_some
def Aj(hn:1<=n)(Bm b tb:Nat)(zs:List (K2×Value))(w:World)(hm:Blk w Bm tb #[.map (some b)])(hown:iq w b zs):
  SeqStopsK Fence.wide n prog 324 #[Z Bm 0] (λx:K2=>#[x.val]) KeepsWalks (λys=>ys.Perm (zs.map (·.1))) (λ_=>True) zs.length w:=λl J c W hW d _ f g=>
 (EU n hn l Bm b tb zs J c W d f (hm.later hW) (aw.up hown hW) g).mono
  λe k ⟨i,h⟩=>⟨i,h.imp id λ⟨a,j⟩=>⟨a,trivial,j⟩⟩
def IP(lb:Array Value)(gf:Nat)(B vb:Nat)(x:K2):Act:={tmps:=#[.slice none 0 0,.func (.func gf) #[] lb,Z B 0,undef,.slice none 0 0,Z vb 0,.func (.func gf) #[] lb,x.val,undef,undef,undef,undef,undef],defers:=[]}
def EV(S Sp:List K2->Prop)(N:Nat)(w:World)(hN:N<=100000)(eg:∀args w,(callFunc gf args).run prog w=.ok (.enter gf args) w)
  (hKt:∀{A B C:World},Kp A B->Kp B C->Kp A C)(hKb:∀(W:World) (l:Nat) (o o':Obj),w.heap.size+1<=l->W.heap[l]?=some o->o.isCells=false->o.isWalk=false->Kp W (W.putObj l o'))
  (hKo:∀W W',M w W->Below w.heap.size W W'->KeepsOthers W W'->Kp W W')
  (hst:SeqStopsK Fence.wide 2 prog gf lb (λx:K2=>#[x.val]) Kp S Sp N (w.alloc (.cells #[.slice none 0 0] 36))):
  Calls prog 176 #[.slice none 0 0,.func (.func gf) #[] lb] w λe w'=>∃v ys,e=.returned v/\S ys/\aL 2 w w' 58 v ys.length (cG ys):=by
 obtain⟨i0,hi,ac,ad,ae⟩:=info_parts tM.info;refine(callsIn_wide (n:=3)).1 ?_;refine callsIn_of_wp_marks func176 rfl trivial ?_ rfl;simp only[ntmps176,OD,OC,OE,Nat.reduceAdd,Nat.reduceSub,Qu,Qv,QJ,QD,QA,PY];gi_wp2;have bO:=Boxed.new w 36 (.slice none 0 0);have af:M w (w.alloc (.cells #[.slice none 0 0] 36)):=(Oy _ w).alloc (OA _) _;refine wpIn_rangeFunc_ownH rfl zP (gf:=gf) (lb:=lb) rfl trivial eg
  hst (λh k=>hKt h k) (λW l o o' hl T t U=>hKb W l o o' (by simpa using hl) T t U) (Oy _ _) (λ_=>rfl)
  (λa W=>(∃v,Boxed W w.heap.size 36 v/\W.ownsRow w.heap.size 58 2 v a.length (cG a)/\True)/\M w W)
  (λ_ _ _=>False)
  (OwnFrom.and (Own.from (holdsRow_own w.heap.size w.heap.size 36 58 2 (λ(a:List K2)=>a.length) (λa=>cG a) λ_ _=>True) _) (ownFrom_below (OA _) zS))
  (λ_ _ _ _ _ hs _ _=>hs)
  ⟨⟨_,bO,Pn _ _ _ _,trivial⟩,af⟩
  (λx X W=>∃p,w.heap.size<p/\Blk W p 58 x.arr/\X=IP lb gf w.heap.size p x) ?ax ?assign ?body ?done ?stop
 case ax=>
  rintro x X s W W' a3 ⟨p,T,t,U⟩ hg hr;refine⟨p,T,(hg.block p t.lt λe=>?_).trans t,U⟩;obtain⟨_,o,F,hc⟩:=hr p e.symm;rw[show W.heap[p]?=_ from t]at F;injection F with F;subst F
  cases hc
 case assign=>
  rintro l a ⟨f,g⟩ W K ⟨⟨v,q,d,_⟩,b⟩ hK;unfold K2.val K2.arr;simp only;have ag:=b.size;have L:Below w.heap.size W (W.alloc (.cells #[E f,E g] 58)):=(Oy _ W).alloc ag _;have ah:=q.lt;have HZ:=hK (IP lb gf w.heap.size W.heap.size ⟨f,g⟩) (W.alloc (.cells #[E f,E g] 58)) ((KeepsOthers.alloc W _).from _) (hKo _ _ b L (KeepsOthers.alloc W _)) ⟨⟨v,q.alloc _,d.alloc _,trivial⟩,b.trans L⟩ ⟨W.heap.size,ah,Blk.A8 W 58 _ rfl,rfl⟩;have HZ:=Z1 HZ;clear hK;gi_wp2;exact HZ.o
 case body=>
  rintro l a ⟨f,g⟩ X W _ _ ⟨⟨v,q,d,_⟩,b⟩ ⟨p,a4,O,rfl⟩ a5;unfold IP K2.val K2.arr;simp only;have hc:=q.cell;obtain⟨d0,d1⟩:=ao O;have a6:a.length<100000:=zO;obtain⟨Av,cv,rfl,_,_⟩:=ak d;have y:∀(j:Nat) (u:Value),[E f,E g][j]?=some u->(W.alloc (.cells #[E f,E g] 58)).cell? (((Y W.heap.size 0):Addr).add j)=some u:=by
   intro j u i;have hb:=Blk.A8 W 58 #[E f,E g] rfl
   match j,i with
   |0,i=>injection i with i;subst i;exact hb.cell 0
   |1,i=>injection i with i;subst i;exact hb.cell 1
   |j+2,i=>simp at i
  have a7:=O.lt
  gi_wp2_with (gi_at_builtin;refine wpListIn_append_own _ rfl _ _ 36 rfl w.heap.size 58 i0 (.agg #[E 0,E 0]) 2 16 tM.under hi ac ad ae rfl zP _ _ _ rfl (d.alloc _) (Y W.heap.size 0) 1 1 [E f,E g] rfl rfl y zV zU zO (by have:=b.size;simp;omega) ?_;intro v' G r H _;obtain⟨z,m,rfl⟩:=ownsRow_succ r;obtain⟨P,aj,al,Q,R⟩:=q.appended zP d b.size (OA _) r H;have a8:=P.cell;have a9:=P.frozen)
  have am:cG (a++[⟨f,g⟩])=cG a++[E f,E g]:=by simp[cG,K2.cells]
  have an:(G.setCell (Y w.heap.size 0) (V z 0 (a.length+1) m)).ownsRow w.heap.size 58 2 (V z 0 (a.length+1) m) (a++[(⟨f,g⟩:K2)]).length (cG (a++[⟨f,g⟩])):=by
   rw[am,OS];exact al
  have hI:(∃v,Boxed (G.setCell (Y w.heap.size 0) (V z 0 (a.length+1) m)) w.heap.size 36 v/\(G.setCell (Y w.heap.size 0) (V z 0 (a.length+1) m)).ownsRow w.heap.size 58 2 v (a++[(⟨f,g⟩:K2)]).length (cG (a++[⟨f,g⟩])))/\M w (G.setCell (Y w.heap.size 0) (V z 0 (a.length+1) m)):=⟨⟨_,aj,an⟩,b.trans R⟩;exact⟨Q.from _,hKo _ _ b R Q,hI⟩
 case done=>
  rintro D ys W hD hS ⟨⟨v,q,d,_⟩,b⟩ hK;have hc:=q.cell;have HS:=Z1 hS;gi_wp2;refine⟨zS,.inl ⟨_,_,rfl,run_takeDeferred hK,?_⟩⟩;exact⟨_,results_tmp rfl _ _ _,v,ys,rfl,HS.o,ownsRow_putObj d _ hK rfl,b.trans (belowK_b (w:=w) (OA _) W D _ _ (by simp at hD;omega) hK rfl rfl)⟩
 case stop=>
  rintro D c a W _ _ h _;exact h.elim
def xe(S Sp:List K2->Prop)(N:Nat)(w:World)(hN:N<=100000)(eg:∀args w,(callFunc gf args).run prog w=.ok (.enter gf args) w)
  (hKt:∀{A B C:World},Kp A B->Kp B C->Kp A C)(hKb:∀(W:World) (l:Nat) (o o':Obj),w.heap.size+1<=l->W.heap[l]?=some o->o.isCells=false->o.isWalk=false->Kp W (W.putObj l o'))
  (hKo:∀W W',M w W->Below w.heap.size W W'->KeepsOthers W W'->Kp W W')
  (hst:SeqStopsK Fence.wide 2 prog gf lb (λx:K2=>#[x.val]) Kp S Sp N (w.alloc (.cells #[.slice none 0 0] 36))):
  Calls prog 142 #[.func (.func gf) #[] lb] w λe w'=>∃v ys,e=.returned v/\S ys/\aL 2 w w' 58 v ys.length (cG ys):=by
 have d:=Z1 (EV gf lb Kp S Sp N w hN eg hKt hKb hKo hst);clear hst hKo hKb hKt eg
 go_in
 go_wp2_with fail;refine d.o.mono ?_;rintro e w' ⟨v,ys,rfl,a,b⟩;have c:=Z2 a b;clear b a;go_wp2;go_ret;exact⟨v,ys,rfl,c.o.1,c.o.2⟩
def xf(Bm b tb:Nat)(zs:List (K2×Value))(w:World)(hn:zs.length<=100000)(hm:Blk w Bm tb #[.map (some b)])(hown:iq w b zs):
  C 142 #[.func (.func 324) #[] #[Z Bm 0]] w λe w'=>∃v ys,e=.returned v/\ys.Perm (zs.map (·.1))/\aL 2 w w' 58 v ys.length (cG ys):=
 xe _ _ KeepsWalks _ _ zs.length w hn (enters_of func324 zR rfl) (λh k=>h.trans k) (λW l o a _ c _ d=>KeepsWalks.putObj a c d)
  (λ_ _ _ _ h=>h.walks) (Aj 2 zP Bm b tb zs _ (hm.alloc _) (aw.up hown ((Oy _ w).alloc (OA _) _)))
end
end Go.Fw
namespace Go.Proofs
open Go.Shelf Go.Fw
def O4:Go.Shelf.Ren:=⟨λ|6=>158|15=>146|14=>194|28=>187|29=>188|20=>212|21=>213|22=>214|23=>215|24=>216|25=>217|26=>218|27=>219|46=>232|47=>204|48=>205|49=>233|50=>234|57=>238|n=>n,λ|22=>36|24=>58|25=>228|3=>3|39=>139|0=>0|53=>153|55=>56|4=>4|46=>292|45=>291|50=>226|5=>5|9=>9|66=>319|70=>323|76=>339|77=>340|n=>n,λ|n=>n⟩
def lsk:Go.Proofs.SlLaysF0.n6 prog O4:={
 mixed:=by kernel_rfl
 f6:=⟨f158.name,by decide,func158.trans (congrArg some (by kernel_rfl))⟩
 f14:=⟨f194.name,by decide,func194.trans (congrArg some (by kernel_rfl))⟩
 f15:=func146.trans (congrArg some (by kernel_rfl))
 f20:=⟨f212.name,by decide,func212.trans (congrArg some (by kernel_rfl))⟩
 f21:=⟨f213.name,by decide,func213.trans (congrArg some (by kernel_rfl))⟩
 f22:=⟨f214.name,by decide,func214.trans (congrArg some (by kernel_rfl))⟩
 f23:=⟨f215.name,by decide,func215.trans (congrArg some (by kernel_rfl))⟩
 f24:=⟨f216.name,by decide,func216.trans (congrArg some (by kernel_rfl))⟩
 f25:=⟨f217.name,by decide,func217.trans (congrArg some (by kernel_rfl))⟩
 f26:=⟨f218.name,by decide,func218.trans (congrArg some (by kernel_rfl))⟩
 f27:=⟨f219.name,by decide,func219.trans (congrArg some (by kernel_rfl))⟩
 f28:=func187.trans (congrArg some (by kernel_rfl))
 f29:=func188.trans (congrArg some (by kernel_rfl))
 f46:=⟨f232.name,by decide,func232.trans (congrArg some (by kernel_rfl))⟩
 f47:=func204.trans (congrArg some (by kernel_rfl))
 f48:=func205.trans (congrArg some (by kernel_rfl))
 f49:=⟨f233.name,by decide,func233.trans (congrArg some (by kernel_rfl))⟩
 f50:=⟨f234.name,by decide,func234.trans (congrArg some (by kernel_rfl))⟩
 f57:=⟨f238.name,by decide,func238.trans (congrArg some (by kernel_rfl))⟩
 t0:=underlying0
 a0:=isAgg0
 z0:=sizeOf0
 v0:=zeroValue0
 t3:=underlying3
 a3:=isAgg3
 z3:=sizeOf3
 v3:=zeroValue3
 t4:=underlying4
 a4:=isAgg4
 z4:=sizeOf4
 v4:=zeroValue4
 t5:=underlying5
 a5:=isAgg5
 z5:=sizeOf5
 v5:=zeroValue5
 t9:=underlying9
 a9:=isAgg9
 z9:=sizeOf9
 v9:=zeroValue9
 t22:=underlying36
 a22:=isAgg36
 z22:=sizeOf36
 v22:=zeroValue36
 t25:=underlying228
 a25:=isAgg228
 z25:=sizeOf228
 v25:=zeroValue228
 t39:=underlying139
 a39:=isAgg139
 z39:=sizeOf139
 v39:=zeroValue139
 t45:=underlying291
 a45:=isAgg291
 z45:=sizeOf291
 v45:=zeroValue291
 t46:=underlying292
 a46:=isAgg292
 z46:=sizeOf292
 v46:=zeroValue292
 t50:=underlying226
 a50:=isAgg226
 z50:=sizeOf226
 v50:=zeroValue226
 t53:=underlying153
 a53:=isAgg153
 z53:=sizeOf153
 v53:=zeroValue153
 t55:=underlying56
 a55:=isAgg56
 z55:=sizeOf56
 v55:=zeroValue56
 t66:=underlying319
 a66:=isAgg319
 z66:=sizeOf319
 v66:=zeroValue319
 t70:=underlying323
 a70:=isAgg323
 z70:=sizeOf323
 v70:=zeroValue323
 t76:=underlying339
 a76:=isAgg339
 z76:=sizeOf339
 v76:=zeroValue339
 t77:=underlying340
 a77:=isAgg340
 z77:=sizeOf340
 v77:=zeroValue340}
end Go.Proofs
namespace Go.Fw
open Go.RowKit open Go.Proofs hiding intOf
variable {L:Nat->Prop}{ops:Array Oper}{rest:List Oper}{a:Act}{Q:Exit->Act->World->Prop}{x:Ld}{B p mb p':Nat}{C7 t:Int}{w1 w2:World}(w:World)(gf:Nat)(w':World)(lb:Array Value)(l:List K2)(S:Nat->Prop)(u n k:Nat)(c:Cg)(W:World)(Sp:List K2->Prop)(N:Nat)(Kp:World->World->Prop)(A:Option Addr)
section
open Go.Maps Go.Sort Go.Shelf
set_option maxRecDepth 100000
def CC(p:Option Addr)(cap:Nat)(fv:Value)(w:World):C 158 #[.slice p 0 cap,fv] w λe w'=>e=.returned (.tuple #[])/\w'=w:=
 AnyF.slices_SortFunc_none lsk p cap fv w
end
section
open Go.Sort
def qk(l:List K2):List K2:=l.mergeSort λx y=>!(ltOf bM) y x
def nK(x y:K2):ltOf bM x y=decide (x.hi<y.hi\/(x.hi=y.hi/\x.lo<y.lo)):=by
 unfold ltOf bM;by_cases h:x=y
 ·subst h;simp
 ·by_cases a:x.hi<y.hi\/(x.hi=y.hi/\x.lo<y.lo)<;>simp[h,a]
def ot:SWO (ltOf bM):=by
 refine⟨λx=>?_,λx y z=>?_,λx y z=>?_⟩<;>simp only[nK,decide_eq_true_eq,decide_eq_false_iff_not]<;>omega
def IT(x y:K2)(h1:ltOf bM x y=false)(h2:ltOf bM y x=false):x=y:=by
 simp only[nK,decide_eq_false_iff_not]at h1 h2;obtain⟨a,b⟩:=x;obtain⟨c,d⟩:=y;simp only at h1 h2;have e:a=c:=zO;have f:b=d:=zO;rw[e,f]
end
section
open Go.Maps Go.Sort Go.Shelf
set_option maxRecDepth 100000
def EX(B g c:Nat)(l:List K2)(w:World)(h:w.ownsRow B 58 2 (V g 0 l.length c) l.length (cG l))(hpos:0<l.length)(hn:l.length<=100000):
  C 158 #[V g 0 l.length c,.func (.func 124) #[] #[]] w λe w'=>e=.returned (.tuple #[])/\
   w'.ownsRow B 58 2 (V g 0 l.length c) l.length (cG (qk l))/\ag (λj=>j=g) w w':=by
 obtain⟨b,d⟩:=pz (enc:=K2.cells) (k:=2) (λ_=>rfl) h rfl hpos;refine(AnyQ.slices_SortFunc_total lsk 2 (λw=>zR) (λw=>zR) K2.cells (λ_=>rfl) (λx v a=>by simp[K2.cells]at a;rcases a with rfl|rfl<;>rfl) bM ot 124 #[] g 0 c l.toArray w (enters_of func124 zR rfl) (λm f i _ x y=>uL x y _) b d zT IT).mono ?_;rintro e w' ⟨rfl,n,f,rfl⟩;exact⟨rfl,oq (enc:=K2.cells) (k:=2) (λ_=>rfl) h rfl (Rr _) hpos⟩
end
section
open Go.Maps Go.Sort Go.Shelf
set_option maxRecDepth 100000
def Ak(Bm b tb:Nat)(zs:List (K2×Value))(w:World)(hn:zs.length<=100000)(hm:Blk w Bm tb #[.map (some b)])(hown:iq w b zs):
  C 315 #[.func (.func 324) #[] #[Z Bm 0],.func (.func 124) #[] #[]] w λe w'=>∃v ys,e=.returned v/\ys.Perm (zs.map (·.1))/\aL 2 w w' 58 v ys.length (cG (qk ys)):=by
 have p:=Z1 (xf Bm b tb zs w hn hm hown);clear hm hown
 go_in
 go_wp2_with fail;refine p.o.mono ?_;rintro e q ⟨v,ys,rfl,f,a⟩;have j:=f.length_eq;rw[Pe]at j
 cases ys with
 |nil=>
  obtain⟨A,c,rfl,_,_,_⟩:=a.form;have d:=Z2 f a;clear f a j;simp only[OE]at*;go_wp2_with fail;refine zl (CC A c _ _) ?_;go_wp2;go_ret;exact⟨_,[],rfl,d.o.1,by simpa[qk]using d.o.2⟩
 |cons y r=>
  obtain⟨g,c,rfl,_,_⟩:=a.own.form (RC _);have s:=Z1 (EX w.heap.size g c (y::r) q a.own (RC _) zO);have d:=Z2 f a;clear f a j;generalize h:(y::r).length=n at*;have t:=Z1 h;clear h;go_wp2_with fail;refine s.o.mono ?_;rintro e x ⟨rfl,l,hK⟩;have m:=Z2 l hK;clear l hK;go_wp2;go_ret;refine⟨_,y::r,rfl,d.o.1,?_⟩;rw[t.o];have i:=d.o.2.below;have u:=(d.o.2.own.lt g rfl).1;exact⟨m.o.1,i.trans (m.o.2.below (B:=w.heap.size) i.size λk e=>zO)⟩
end
def To{w:World}{n k b o:Nat}{l:List K2}(h:an w B 2 (some (Y b o)) n (cG l))(hk:k<l.length):
  w.cell? (Y b (o+k*2))=some (E l[k].hi)/\w.cell? (Y b (o+k*2+1))=some (E l[k].lo):=by
 obtain⟨c,d,e,f,a⟩:=h.elem K2.C2 zP (Tm h) hk
 cases e
 exact⟨a 0 _ rfl,a 1 _ rfl⟩
section
open Go.Maps
def Tl(c n:Nat)(w:World)(hr:an w w.heap.size 2 A n (cG l))(hn:n<=100000)(hd:l.Nodup):
  C 159 #[.slice A n c] w (J (.slice A n c) w):=by
 have h:=Tm hr;by_cases L:n<2
 ·have p:((n:Int)<2):=zO;clear hr
  go_in
  go_wp2;go_ret;exact⟨rfl,Oy _ _⟩
 ·have p:¬((n:Int)<2):=zO;obtain⟨b,o,rfl,z,g⟩:=hr.J6 (k:=0) zP zO;have q:=Z1 hr;have r:=Z2 h hd;clear hr g h hd
  go_in
  go_wp2;go_loopw [3] (λi wr=>∃(k:Nat),1<=k/\k<=n/\i=I k/\M w wr) (λi _=>n-(intOf i).toNat)
  case atStart=>exact⟨1,zO,zO,rfl,Oy _ _⟩
  case round=>
   obtain⟨k,B,N,rfl,a⟩:=hrel;have s:=Z1 a;by_cases D:k<n
   ·obtain⟨j,m⟩:∃j,k=j+1:=⟨k-1,zO⟩;have d:k<l.length:=by have:=r.o.1;omega
    have f:j<l.length:=zO;obtain⟨O,P⟩:=To (q.o.up a) d;obtain⟨Q,R⟩:=To (q.o.up a) f;have t:=qj l[k].hi l[k].lo l[j].hi l[j].lo;have u:(l[k].hi==l[j].hi&&l[k].lo==l[j].lo)=false:=by
     have v:l[j]≠l[k]:=λe=>Qq.1 r.o.2 j k f d zO e
     cases hqq:(l[k].hi==l[j].hi&&l[k].lo==l[j].lo)with
     |false=>rfl
     |true=>
      simp at hqq;refine(v ?_).elim
      cases hx:l[j]
      cases hy:l[k]
      rw[hx,hy]at hqq;simp at hqq;rw[hqq.1,hqq.2]
    rw[u]at t;have F:((k:Int)-1)=(j:Int):=zO;have G:j<n:=zO;have H:IntKind.i64.wrap (j:Int)=(j:Int):=IntWalk.i64_in _ ⟨zO,zO⟩;generalize l[k]=x at*;generalize l[j]=y at*;have S:=Z1 m;clear u m d f a;go_wp2;refine cM zR zR ?_;repeat still_step
    refine wpStill_nil ?_;go_wp2;go_roundw
    case rel=>exact⟨k+1,zO,zO,by go_num,s.o.drew⟩
    case measure=>simp[intOf];omega
   ·obtain rfl:k=n:=zO;clear a;go_wp2;go_ret;exact⟨rfl,s.o⟩
def Tw(c n:Nat)(w:World)(hr:an w w.heap.size 2 A n (cG l))(hn:n<=100000)(hd:l.Nodup):
  C 121 #[.slice A n c] w λe w'=>∃A' c',e=.returned (.slice A' n c')/\M w w':=by
 have p:=Tm hr;have G:=Z1 (NS (cG l) A c n w hr (IG l) hn);have H:=Z1 hd;have q:=Z1 p;clear hr hd p
 go_in
 go_wp2_with fail;refine G.o.mono ?_;rintro e L ⟨v,rfl,a⟩;obtain rfl:n=l.length:=q.o;clear q
 cases l with
 |nil=>
  obtain⟨x,i,rfl,_,_,_⟩:=a.form;have j:=Z1 a;clear a;simp only[OE]at*;go_wp2_with fail;refine(CC x i _ _).mono ?_;rintro e f ⟨rfl,rfl⟩;have b:an f f.heap.size 2 x 0 (cG []):=⟨by simp[cG],λh=>absurd h zO⟩;have m:=Z1 (Tl [] x i 0 f b zO Sh);clear b;go_wp2_with fail;refine m.o.mono ?_;rintro e N ⟨rfl,d⟩;have z:=Z1 d;clear d;go_wp2;go_ret;exact⟨_,_,rfl,af j.o.below z.o⟩
 |cons y r=>
  obtain⟨g,i,rfl,_,_⟩:=a.own.form (RC _);have O:=Z1 (EX w.heap.size g i (y::r) L a.own (RC _) hn);have j:=Z1 a;clear a;generalize s:(y::r).length=n at*;have P:=Z1 s;clear s;go_wp2_with fail;refine O.o.mono ?_;rintro e f ⟨rfl,D,hK⟩;have F:=(j.o.own.lt g rfl).1;have t:M w f:=j.o.below.trans (hK.below (B:=w.heap.size) j.o.below.size λk e=>zO);have b:=an.C4 D;have u:(qk (y::r)).Nodup:=(List.Perm.nodup_iff (Sc _ _)).2 H.o;have m:=Z1 (Tl (qk (y::r)) _ i n f b hn u);have Q:=Z1 t;clear b u D hK t F;go_wp2_with fail;refine m.o.mono ?_;rintro e N ⟨rfl,d⟩;have z:=Z1 d;clear d;go_wp2;go_ret;rw[P.o];exact⟨_,_,rfl,af Q.o z.o⟩
end
section
open Go.Sort
structure Et where
 k:K2
 p:Nat
instance:Inhabited Et:=⟨⟨⟨0,0⟩,0⟩⟩
def Et.cells(x:Et):List Value:=[E x.k.hi,E x.k.lo,Z x.p 0]
def bY(x y:Et):Int:=bM x.k y.k
def Bs(x y:Et):ltOf bY x y=ltOf bM x.k y.k:=rfl
def gJ:SWO (ltOf bY):=⟨λx=>ot.irrefl x.k,λx y z=>ot.trans x.k y.k z.k,λx y z=>ot.ntrans x.k y.k z.k⟩
end
section
open Go.Shelf Go.Sort Go.Lib
set_option maxRecDepth 1000000
abbrev no(k:Nat)(w0:World)(B0 off:Nat)(d0:Array Et):Prop:=RowK Et.cells k w0 B0 off d0
abbrev SE(k:Nat)(w0:World)(B0 off:Nat)(d:Array Et)(w:World):Prop:=SWK Et.cells k w0 B0 off d w
def LJ(zE:∀w,(Go.sizeOf 224).run prog w=.ok k w)(w0:World)(B0 off cap g:Nat)(cb:Array Value)(N0:Nat)(d0 d:Array Et)(R:no k w0 B0 off d0)(hs:d0.size=N0)(hsd:d.size=N0)(hsz:N0<4611686018427387904)(a b n:Nat)(w:World)(S:SE k w0 B0 off d w)(hab:a+n<=b)(hb:b+n<=N0):
  C 336 #[V B0 off N0 cap,I a,I b,I n,.func (.func g) #[] cb] w λe w'=>e=.returned (.tuple #[])/\∃d',SE k w0 B0 off d' w'/\(∀t,d'[t]! =iJ (λt=>d[t]!) a b n t)/\∀lo hi,lo<=a->b+n<=hi->hi<=N0->PermIn lo hi d d':=by
 have v:=S;clear S
 go_in
 go_wp2;go_loopg [10] n (λz s wr=>∃(i:Nat) (c:Array Et),s=I i/\i<=n/\n-i<=z/\c.size=N0/\Aside (SWK Et.cells k w0 B0 off c wr)/\Hid ((∀t,c[t]! =iJ (λt=>d[t]!) a b i t)/\∀lo hi,lo<=a->b+n<=hi->hi<=N0->PermIn lo hi d c))
 case atStart=>exact⟨0,d,rfl,OK _,OA _,hsd,v,⟨λt=>(EN _ _ _ _).symm,λlo hi _ _ _=>permIn_refl _ _ _⟩⟩
 case round=>
  clear v;obtain⟨i,c,rfl,U,X,x,f,p⟩:=hrel;by_cases aa:i<n
  ·have A:(i:Int)<(n:Int):=zO;go_wp2_with fail;have B:((a:Int)+(i:Int)).toNat=a+i:=zO;have D:(0:Int)<=(a:Int)+(i:Int):=zO;have F:(a:Int)+(i:Int)<(N0:Int):=zO;have G:IntKind.i64.wrap ((a:Int)+(i:Int))=(a:Int)+(i:Int):=by rw[OX];omega
   have H:((b:Int)+(i:Int)).toNat=b+i:=zO;have L:(0:Int)<=(b:Int)+(i:Int):=zO;have N:(b:Int)+(i:Int)<(N0:Int):=zO;have O:IntKind.i64.wrap ((b:Int)+(i:Int))=(b:Int)+(i:Int):=by rw[OX];omega
   have q:=f.o.swapped R (a+i) (b+i) zO zO;have j:=f.o.ld1 R zO prog (a+i) zO;have l:=f.o.ld1 R zO prog (b+i) zO;have m:=f.o.st1 R zO prog (a+i) zO c[b+i]!;have h:=f.o.st2 R zO prog (a+i) (b+i) zO zO c[b+i]! c[a+i]!;have r:(Et.cells c[a+i]!).length=k:=R.hk _;have u:(Et.cells c[b+i]!).length=k:=R.hk _;generalize Et.cells c[a+i]! =cI44 at q j h r;generalize Et.cells c[b+i]! =cJ44 at q l m h u;clear f;have y:prog.follows Departure.mixedOrders=true:=zR;have aE:∀w,(isAgg 224).run prog w=.ok true w:=λw=>zR;go_wp2_with fail
   go_big_region_o
   clear j l m h;generalize (wr.drew.setCells B0 (off+(a+i)*k) cJ44).setCells B0 (off+(b+i)*k) cI44=w2 at q ⊢;go_wp2
   go_roundg (n-(i+1))
   case measure=>omega
   case rel=>
    refine⟨i+1,swp c (a+i) (b+i),by go_num,zO,OA _,by rw[size_swp];exact x,q,⟨EQ zO zO p.o.1,λlo hi P Q T=>permIn_trans _ _ _ _ _ (p.o.2 lo hi P Q T) (swp_permIn _ _ _ _ _ zO zO zO zO zO)⟩⟩
  ·obtain rfl:i=n:=zO;go_wp2
   go_end0
   exact⟨rfl,c,f.o,p.o.1,p.o.2⟩
def LK(zE:∀w,(Go.sizeOf 224).run prog w=.ok k w)(w0:World)(B0 off cap g:Nat)(cb:Array Value)(N0:Nat)(d0 d:Array Et)(R:no k w0 B0 off d0)(hs:d0.size=N0)(hsd:d.size=N0)(hsz:N0<4611686018427387904)(a m b:Nat)(w:World)(S:SE k w0 B0 off d w)(ham:a<m)(hmb:m<b)(hb:b<=N0):
  C 335 #[V B0 off N0 cap,I a,I m,I b,.func (.func g) #[] cb] w λe w'=>e=.returned (.tuple #[])/\∃d',SE k w0 B0 off d' w'/\(∀t,d'[t]! =fw (λt=>d[t]!) a m b t)/\∀lo hi,lo<=a->b<=hi->hi<=N0->PermIn lo hi d d':=by
 have D:=S;have Q:=Z1 (λ(p:Array Et) (h:p.size=N0)=>LJ k zE w0 B0 off cap g cb N0 d0 p R hs h hsz);clear S
 go_in
 go_wp2;go_loopg [10,11] (b-a) (λT U X wr=>∃(i j:Nat) (p:Array Et),U=I i/\X=I j/\0<i/\0<j/\a+i<=m/\m+j<=b/\i+j<=T/\p.size=N0/\Aside (SWK Et.cells k w0 B0 off p wr)/\Hid ((∀t,fw (λt=>p[t]!) (m-i) m (m+j) t=fw (λt=>d[t]!) a m b t)/\∀lo hi,lo<=a->b<=hi->hi<=N0->PermIn lo hi d p))
 case atStart=>
  refine⟨m-a,b-m,d,by go_num,by go_num,zO,zO,zO,zO,zO,hsd,D,⟨λt=>?_,λlo hi _ _ _=>permIn_refl _ _ _⟩⟩;rw[show m-(m-a)=a by omega,show m+(b-m)=b by omega]
 case round=>
  clear D;obtain⟨i,j,p,rfl,rfl,F,G,H,L,aa,u,z,s⟩:=hrel;have l:=λ(a b n:Nat) (wx:World)=>Q.o p u a b n wx;have e1:IntKind.i64.wrap ((m:Int)-(i:Int))=((m-i:Nat):Int):=by rw[OX];omega
  have ab:wrap64 ((m:Int)-(i:Int))=((m-i:Nat):Int):=by unfold wrap64;omega
  by_cases N:j<i
  ·have A:(j:Int)<(i:Int):=zO;have B:((i:Int)==(j:Int))=false:=zT;have v:=Z1 (l (m-i) m j wr z.o zO zO);clear l;go_wp2_with fail;refine v.o.mono ?_;rintro e O ⟨rfl,d',q,c,r⟩;have f:=Z3 q c r;clear q c r;go_wp2
   go_roundg (i-j+j)
   case measure=>omega
   case rel=>
    refine⟨i-j,j,d',by go_num,rfl,zO,G,zO,L,zO,(f.o.2.2 a b zO zO zO).1.trans u,f.o.1,⟨λt=>?_,λlo hi x c y=>permIn_trans _ _ _ _ _ (s.o.2 lo hi x c y) (f.o.2.2 lo hi zO zO zO)⟩⟩;rw[<-s.o.1,uK f.o.2.1,show m-(i-j)=m-i+j by omega];exact IN _ N zO t
  ·by_cases P:i<j
   ·have A:¬(j:Int)<(i:Int):=zO;have B:((i:Int)==(j:Int))=false:=zT;have v:=Z1 (l (m-i) (m+j-i) i wr z.o zO zO);have e2:(m:Int)+(j:Int)-(i:Int)=((m+j-i:Nat):Int):=zO;clear l;go_wp2_with fail;refine v.o.mono ?_;rintro e O ⟨rfl,d',q,c,r⟩;have f:=Z3 q c r;clear q c r;go_wp2
    go_roundg (i+(j-i))
    case measure=>omega
    case rel=>
     refine⟨i,j-i,d',rfl,by go_num,F,zO,H,zO,zO,(f.o.2.2 a b zO zO zO).1.trans u,f.o.1,⟨λt=>?_,λlo hi x c y=>permIn_trans _ _ _ _ _ (s.o.2 lo hi x c y) (f.o.2.2 lo hi zO zO zO)⟩⟩;rw[<-s.o.1,uK f.o.2.1,show m+(j-i)=m+j-i by omega];exact EO _ P zO t
   ·obtain rfl:i=j:=zO;have v:=Z1 (l (m-i) m i wr z.o zO zO);clear l;go_wp2_with fail;refine v.o.mono ?_;rintro e O ⟨rfl,d',q,c,r⟩;have f:=Z3 q c r;clear q c r;go_wp2
    go_end0
    refine⟨rfl,d',f.o.1,λt=>?_,λlo hi x c y=>permIn_trans _ _ _ _ _ (s.o.2 lo hi x c y) (f.o.2.2 lo hi zO zO zO)⟩;rw[<-s.o.1,f.o.2.1];exact Ni _ zO t
end
def xc(w w':World)(c:Cg)(zs:List (K2×Nd))(k:K2)(e:Ending):Prop:=
 Below w.heap.size w w'/\((∃z,ap zs k=some z/\e=.returned (.tuple #[.pointer (some ⟨z.p,0,none⟩),.int .i64 0]))\/
  (ap zs k=none/\c.lo<=zs.length/\e=.returned (.tuple #[.pointer none,.int .i64 6]))\/
  (ap zs k=none/\zs.length<c.lo/\∃p,e=.returned (.tuple #[.pointer (some ⟨p,0,none⟩),.int .i64 0])/\bC w' c p .new false λb=>w.heap.size<=b))
def uI(hc:c.ok)(p mb:Nat)(C7:Int)(zs:List (K2×Nd))(h:dm w c p mb C7 zs)(k:K2)(hk:k.ok):
  C 301 #[Z p 0,k.val] w λe w'=>xc w w' c zs k e:=by
 have f:=zh w (.cells #[E k.hi,E k.lo] 58);have v:=Blk.A8 w 58 #[E k.hi,E k.lo] rfl;have a:=h.up f;have H:=a.B0.cell 0;have L:=a.B0.cell 1;have N:=a.B0.cell 2;have O:=a.B0.cell 3;have P:=a.B0.cell 4;simp[qg]at H L N O P;obtain⟨x,y⟩:=k;have r:=(iq.drew a.map).look_ok hk;rw[ji]at r;have s:=aw.len (iq.drew (iq.drew a.map)) underlying285 3;rw[nm]at s;have A:=Z1 (λW=>wS c hc W);have i:=Z2 f v;obtain⟨S,T,t,U⟩:=c;unfold K2.val K2.arr;unfold Cg.val at A;simp only at*;clear h a f v hc
 go_in
 go_wp2;generalize m:w.heap.size=X at*;generalize w.alloc (.cells #[E x,E y] 58)=V at*;have g:=Z1 m;clear m;obtain⟨d0,d1⟩:=ao i.o.2;refine cM zR zR ?_;repeat still_step
 refine wpStill_nil ?_
 cases hg:ap zs (⟨x,y⟩:K2)with
 |some z=>
  have j:=Z1 hg;simp only[hg,PT,Qd,Rl]at r ⊢;clear hg;go_wp2
  go_ret2
  exact⟨g.o▸i.o.1.drew,.inl ⟨z,j.o,rfl⟩⟩
 |none=>
  have j:=Z1 hg;simp only[hg,QH,QV,RE]at r ⊢;clear hg;go_wp2;refine cM zR zR ?_;repeat still_step
  refine wpStill_nil ?_;by_cases d:t<=zs.length
  ·have B:((t:Int)<=(zs.length:Int)):=zO;have u:=Z1 d;clear d;go_wp2
   go_ret2
   exact⟨g.o▸i.o.1.drew.drew,.inr (.inl ⟨j.o,u.o,rfl⟩)⟩
  ·have B:¬((t:Int)<=(zs.length:Int)):=zO;have u:=Z1 d;clear d;go_wp2_with fail;refine(A.o _).mono ?_;rintro e w2 ⟨Q,rfl,D,n⟩;have l:=i.o.1;try rw[<-g.o]at l
   have q:=l.size;have F:=Z2 (D.more (G:=λb=>w.heap.size<=b) λb _ e=>OJ q e) (af l.drew.drew n);clear D n l q;go_wp2
   go_ret2
   have R:=u.o;exact⟨F.o.2,.inr (.inr ⟨j.o,by simp only;omega,Q,rfl,F.o.1⟩)⟩
def dm.D7{w:World}{c:Cg}{zs:List (K2×Nd)}(h:dm w c p mb C7 zs):cw zs:=by
 have:=h.map.D7;unfold cw iT at*
 rwa [Px]at this
def dm.O2{w:World}{c:Cg}{zs:List (K2×Nd)}(h:dm w c p mb C7 zs):∀z∈zs,z.1.ok:=λz a=>h.map.E3 (z.1,Z z.2.p 0) (Pa.2 ⟨z,a,rfl⟩)
def nJ(w w':World)(c:Cg)(T:Nat->Tg)(i p mb:Nat)(zs:List (K2×Nd))(k:K2)(x:Ld):Prop:=
 ∃T' ver' p',(∀b,b<w.heap.size->T' b=T b)/\cL w' c T' i p mb ver' (aR zs k ⟨p',x,false⟩)/\ag (λb=>T b=.st i\/T b=.nd k) w w'
def kt{α:Type}{l:List (K2×α)}(hd:cw l){k:K2}{v:α}{e:K2×α}(h:e∈aR l k v):e=(k,v)\/(e∈l/\e.1≠k):=by
 have:=(io hd k v).mem_iff.1 h
 rcases Pj.1 this with e|e
 ·exact .inl e
 ·have:=Pp.1 e;exact .inr ⟨this.1,by simpa using this.2⟩
def qi{w:World}{c:Cg}{T:Nat->Tg}{i:Nat}{zs:List (K2×Nd)}{k:K2}{p0:Nat}{fz:Bool}{F:Nat->Prop}{x':Ld}(h:cL w c T i p mb C7 zs)(hb:M w w1)
  (hF:fz=false->∀b,F b->T b=.nd k\/w.heap.size<=b)(hN:dh w1 w2 c p0 fz F p' x'):
  dm w2 c p mb C7 zs/\∀w3 ver',dm w3 c p mb ver' (aR zs k ⟨p',x',false⟩)->ag (λb=>b=p\/b=mb) w2 w3->nJ w w3 c T i p mb zs k x':=by
 obtain⟨G,v,x,y,d⟩:=hN;have A:=hb.size;have j:∀b,G b->T b=.nd k\/w.heap.size<=b:=λb e=>by
  cases fz with
  |false=>
        rcases(v rfl).2 b e with e|e
        ·exact hF rfl b e
        ·exact .inr zO
  |true=>exact .inr (OJ A (x rfl b e))
 have a:=h.at_.lt;have B:¬G p:=λe=>by
  rcases j _ e with e|e
  ·rw[h.tp]at e;cases e
  ·omega
 have D:¬G mb:=λe=>by
  rcases j _ e with e|e
  ·rw[h.tm]at e;cases e
  ·omega
 refine⟨(h.at_.up hb).B7 d B D,λw3 ver' H hK=>?_⟩;refine⟨ext T w.heap.size (.nd k),ver',p',λb e=>br T _ e,⟨H,(br T _ a.1).trans h.tp,(br T _ a.2).trans h.tm,λz n=>?_⟩,?_⟩
 ·have m:∀b,T b=.st i->b<w.heap.size->∀g,ext T w.heap.size (.nd k) b=g->g=.st i:=λb e hb g L=>by rw[<-L,br T _ hb,e]
  rcases kt h.at_.D7 n with rfl|⟨n,q⟩
  ·refine(y.more (G:=λb=>ext T w.heap.size (.nd k) b=.nd k) λb _ e=>?_).B7 hK λb e=>?_
   ·by_cases a:b<w.heap.size
    ·rw[br T _ a]
     rcases j b e with e|e
     ·exact e
     ·omega
    ·exact cC T _ zO
   ·rintro(rfl|rfl)
    ·have:=m b h.tp a.1 _ e;cases this
    ·have:=m b h.tm a.2 _ e;cases this
  ·have l:=h.nodes z n;have o:∀b,T b=z.2.tag z.1->T b≠.nd k/\T b≠.st i:=λb e=>by
    rw[e];unfold Nd.tag;split
    ·exact⟨(by intro e;cases e),by intro e;cases e⟩
    ·exact⟨λe=>q (by injection e),by intro e;cases e⟩
   have r:=l.more (G:=λb=>T b=z.2.tag z.1/\b<w.heap.size) λb hb e=>⟨e,hb⟩;have s:=(r.up hb).B7 d λb e N=>by
    rcases j b N with t|t
    ·exact(o b e.1).1 t
    ·omega
   have u:=s.B7 hK λb e=>by
    rintro(rfl|rfl)
    ·exact(o _ e.1).2 h.tp
    ·exact(o _ e.1).2 h.tm
   exact u.more λb _ e=>(br T _ e.2).trans e.1
 ·have O:ag (λb=>T b=.st i\/T b=.nd k) w w1:=ag.B5 hb;refine⟨(hK.os.trans d.os).trans hb.os,(hK.tape.trans d.tape).trans hb.tape,(hK.output.trans d.output).trans hb.output,OJ hb.size (OJ d.size hK.size),λb f l=>?_⟩;refine((hK.block b (OV f (OJ hb.size d.size)) ?_).trans (d.block b (OV f hb.size) ?_)).trans (hb.block b f)
  ·rintro(rfl|rfl)
   ·exact l (.inl h.tp)
   ·exact l (.inl h.tm)
  ·intro e
   rcases j b e with e|e
   ·exact l (.inr e)
   ·omega
def iU(zs:List (K2×Nd))(k:K2):Ld:=((ap zs k).map (·.x)).getD .new
def kO(c:Cg)(zs:List (K2×Nd))(k:K2):Prop:=ap zs k=none/\c.lo<=zs.length
def IL:ea Ld.new.D2/\Ld.new.D2.length<=c.sa:=⟨List.Pairwise.nil,OK _⟩
def sD{w V:World}{c:Cg}{T:Nat->Tg}{i:Nat}{zs:List (K2×Nd)}{k:K2}{e:Ending}(h:cL w c T i p mb C7 zs)(hb:M w V)(hr:xc V w2 c zs k e):
  (kO c zs k/\e=.returned (.tuple #[.pointer none,I 6])/\M w w2)\/
  ∃p0 fz F,e=.returned (.tuple #[Z p0 0,I 0])/\¬kO c zs k/\bC w2 c p0 (iU zs k) fz F/\(fz=false->∀b,F b->(T b=.nd k/\b<w.heap.size)\/V.heap.size<=b)/\M w w2:=by
 obtain⟨l,hr⟩:=hr;have d:=af hb l;have o:=hb.size
 rcases hr with⟨z,a,f⟩|⟨a,f,g⟩|⟨a,f,p0,g,n⟩
 ·refine .inr ⟨z.p,z.fz,λb=>T b=z.tag k/\b<w.heap.size,f,λe=>absurd (a.symm.trans e.1) zS,?_,λe b m=>?_,d⟩
  ·unfold iU;rw[a];exact((h.nodes (k,z) (bR a)).more λb hb e=>⟨e,hb⟩).up d
  ·left
   have j:=m.1;unfold Nd.tag at j;rw[Oz (by rw[e];exact Rm)]at j;exact⟨j,m.2⟩
 ·exact .inl ⟨⟨a,f⟩,g,d⟩
 ·refine .inr ⟨p0,false,λb=>V.heap.size<=b,g,λe=>by have:=e.2;omega,?_,λ_ b hb=>.inr hb,d⟩;unfold iU;rw[a];exact n
def uJ{c:Cg}{zs:List (K2×Nd)}(hf:∀z∈zs,z.2.x.C6 c)(k:K2):ea (iU zs k).D2/\(iU zs k).D2.length<=c.sa:=by
 unfold iU
 cases h:ap zs k with
 |none=>exact IL c
 |some z=>exact⟨(hf _ (bR h)).sorted,(hf _ (bR h)).E5⟩
def IM(hc:c.ok)(T:Nat->Tg)(i p mb:Nat)(C7:Int)(zs:List (K2×Nd))(h:cL w c T i p mb C7 zs)(hf:∀z∈zs,z.2.x.C6 c)(hn:zs.length<=99999)(k:K2)(hk:k.ok)(t v:Int)(ht:0<=t)(hv:0<=v):
  C 287 #[Z p 0,k.val,I t,I v] w λe w'=>
   (kO c zs k/\e=.returned (I 6)/\M w w')\/(¬kO c zs k/\e=.returned (I 0)/\nJ w w' c T i p mb zs k (mg c (iU zs k) t v)):=by
 have s:=zh w (.cells #[E k.hi,E k.lo] 58);have N:=Blk.A8 w 58 #[E k.hi,E k.lo] rfl;have d:=h.at_.up s;have O:=λW=>iC t v W;rw[show bG t v=0 by unfold bG;rw[Oz zO,Oz zO]]at O;have HR:=Z1 O;have HM:=Z1 (mP _ c p mb C7 zs d);have HO:=Z1 (uI _ c hc p mb C7 zs d k hk);have H:=Z5 h hf hn hk hc;have S:=Z2 ht hv;obtain⟨u,y⟩:=k;have A:=Z2 s N;obtain⟨U,X⟩:=ao N;unfold K2.val K2.arr at*;simp only at*;clear h d s N hf O hk hc ht hv
 go_in
 go_wp2_with fail;refine(HR.o _).mono ?_;rintro e w1 ⟨rfl,rfl⟩;generalize m:w.heap.size=f at*;generalize w.alloc (.cells #[E u,E y] 58)=V at*;have B:=Z1 m;clear m;go_wp2_with fail;refine HM.o.mono ?_;rintro e w1 ⟨rfl,rfl⟩;go_wp2_with fail;refine HO.o.mono ?_;rintro e w2 r;have n:=A.o.1;try rw[<-B.o]at n
 rcases sD H.o.1 n r with⟨d,rfl,g⟩|⟨p0,fz,F,rfl,d,q,hF,g⟩
 ·have j:=Z2 d g;clear r d g n;go_wp2;go_ret;exact .inl ⟨j.o.1,rfl,j.o.2⟩
 ·have hf:=uJ H.o.2.1 ⟨u,y⟩;have HP:=Z1 (Ix w2 c H.o.2.2.2.2 p0 _ fz F q hf.1 hf.2 t v S.o.1 S.o.2);have e0:=(r.1.cell (p:=Y f 0) A.o.2.lt).trans U;have e1:=(r.1.cell (p:=Y f 1) A.o.2.lt).trans X;have j:=Z4 d hF g r.1.size;clear r d hF g n q hf U X;go_wp2_with fail;refine HP.o.mono ?_;rintro e P ⟨p',rfl,l⟩;have ae:=A.o.1.size;have hv:=A.o.2.lt;have m:=B.o;have Q:=qi H.o.1 j.o.2.2.1 (λe b hb=>(j.o.2.1 e b hb).imp And.left λe=>zO) l;obtain⟨f0,f1⟩:P.cell? (Y f 0)=some (E u)/\P.cell? (Y f 1)=some (E y):=by
   obtain⟨G,g1,g2,g3,g4⟩:=l;have D:=OV hv j.o.2.2.2;have hg:¬G f:=λe=>by
    cases fz with
    |false=>
     rcases(g1 rfl).2 _ e with e|e
     ·rcases j.o.2.1 rfl _ e with e|e<;>omega
     ·omega
    |true=>have:=g2 rfl _ e;omega
   exact⟨(OI (a:=Y f 0) (g4.block f D hg)).trans e0,(OI (a:=Y f 1) (g4.block f D hg)).trans e1⟩
  have HK:=Z2 (mQ P c p mb C7 zs Q.1 ⟨u,y⟩ H.o.2.2.2.1 (by have:=H.o.2.2.1;omega) ⟨p',mg c (iU zs ⟨u,y⟩) t v,false⟩) Q.2;clear ae hv m Q e0 e1 l;go_wp2_with fail;refine HK.o.1.mono ?_;rintro e w4 ⟨rfl,R,h4,L⟩;have HZ:=Z1 (HK.o.2 w4 R h4 L);clear h4 L;go_wp2;go_ret;exact .inr ⟨j.o.1,rfl,HZ.o⟩
def Two(v u:Nat)(k0 k1 x1 x2 x3 x4 x5:Int)(W:World):Prop:=Blk W v 58 #[E k0,E k1]/\Blk W u 62 #[I x1,I x2,I x3,I x4,I x5]
def CE(hc:c.ok)(T:Nat->Tg)(i p mb:Nat)(C7:Int)(zs:List (K2×Nd))(h:cL w c T i p mb C7 zs)(hf:∀z∈zs,z.2.x.C6 c)(hn:zs.length<=99999)(k:K2)(hk:k.ok)(a:Adv)(z:Nd)(hg:ap zs k=some z):
  C 353 #[Z p 0,k.val,a.val] w λe w'=>e=.returned (I 0)/\nJ w w' c T i p mb zs k (jI c z.x a):=by
 have ai:c.sa<=500:=by
  unfold Cg.ok cA at hc;simp only[OY,decide_eq_true_eq]at hc;omega
 have aj:z.x.D2.length<=c.sa:=(hf _ (bR hg)).E5;have L:=zh w (.cells #[E k.hi,E k.lo] 58);have N:=Blk.A8 w 58 #[E k.hi,E k.lo] rfl;have O:bC w c z.p z.x z.fz (λb=>T b=z.tag k/\b<w.heap.size):=(h.nodes _ (bR hg)).more (G:=λb=>T b=z.tag k/\b<w.heap.size) λb B e=>⟨e,B⟩;obtain⟨f,j,l,m,n⟩:=a;have d:=ae L (.cells #[I f,I j,I l,I m,I n] 62);have hx:=N.alloc (.cells #[I f,I j,I l,I m,I n] 62);have hy:=Blk.A8 (w.alloc (.cells #[E k.hi,E k.lo] 58)) 62 #[I f,I j,I l,I m,I n] (g:=w.heap.size+1) zS;have hS:=Z1 (rE _ c p mb C7 zs (h.at_.up d) k hk);rw[ji,hg]at hS;obtain⟨d0,d1⟩:=ao hx;have HP:=Z1 (λW (hW:bC W c z.p z.x z.fz λb=>T b=z.tag k/\b<w.heap.size)=>EA W c z.p z.x z.fz _ hW zO ⟨f,j,l,m,n⟩);obtain⟨r,s⟩:=k;have HB:=Z2 d (show Two w.heap.size (w.heap.size+1) r s f j l m n _ from⟨hx,hy⟩);have H:=Z4 h O hn hk;unfold K2.val K2.arr at*;unfold Adv.val at*;simp only[PT,Qd]at*;clear h L d N hx hy hg hk aj ai O hn hc hf
 go_in
 go_wp2_with fail;refine zm hS.o λD u=>?_;have A:Two w.heap.size (w.heap.size+1) r s f j l m n D.drew:=⟨(HB.o.2.1.later u).drew,(HB.o.2.2.later u).drew⟩;have P:=af HB.o.1 u;have Q:=A.1.lt;have R:=A.2.lt;have HE:=Z3 P Q R;clear u P d0 d1 Q R;generalize U:w.heap.size=q at*;have X:=Z1 U;clear U;go_wp2;refine zH (S:=λV=>Two q (q+1) r s f j l m n V) A ?_;refine zq 1 ?_ (λW hW=>?_) ?_;rotate_left
 ·obtain⟨q0,q1⟩:=ao hW.1;exact zf
 refine zL ?_;refine zq 3 ?_ (λW hW=>?_) ?_;rotate_left
 ·obtain⟨q0,q1,q2,q3,q4⟩:=eO hW.2;exact zf
 refine zo 4 λK hK=>?_;go_simp;have d:=HE.o.1;try rw[<-X.o]at d
 refine(HP.o D.drew (H.o.2.1.up d.drew)).mono ?_;rintro e w2 ⟨p',rfl,t⟩;have hm:=qi H.o.1 d.drew (F:=λb=>T b=z.tag ⟨r,s⟩/\b<q) (λe b B=>.inl (by
  have h0:=B.1;unfold Nd.tag at h0
  rwa [Oz (by rw[e];exact Rm)]at h0)) t
 have v:Two q (q+1) r s f j l m n w2:=by
  obtain⟨G,g1,g2,g3,g4⟩:=t;have l1:=HE.o.2.1;have l2:=HE.o.2.2;have hs:D.drew.heap.size=D.heap.size:=rfl;have hg:∀b,b=q\/b=q+1->¬G b:=λb B e=>by
   cases hz:z.fz with
   |false=>
    rcases(g1 hz).2 _ e with e|e
    ·have:=e.2;omega
    ·omega
   |true=>have:=g2 hz _ e;omega
  exact⟨g4.B0 A.1 (hg _ (.inl rfl)),g4.B0 A.2 (hg _ (.inr rfl))⟩
 refine zJ hK v ?_;refine zo 5 λK hK=>?_;go_simp;refine(mQ w2 c p mb C7 zs hm.1 ⟨r,s⟩ H.o.2.2.2 (by have:=H.o.2.2.1;omega) ⟨p',jI c z.x ⟨f,j,l,m,n⟩,false⟩).mono ?_;rintro e w3 ⟨rfl,ah,h4,y⟩;have aa:Two q (q+1) r s f j l m n w3:=by
  have hl:=H.o.1.at_.lt;have hv:=X.o;exact⟨y.B0 v.1 zO,y.B0 v.2 zO⟩
 refine zJ hK aa ?_;have hq:=hm.2 w3 ah h4 y;have HQ:=Z1 hq;clear hq hm h4 y v aa t;go_wp2;go_ret;exact⟨rfl,HQ.o⟩
def tQ(v u:Nat)(k0 k1 q0 q1 q2 q3 q4 q5:Int)(W:World):Prop:=Blk W v 58 #[E k0,E k1]/\Blk W u 51 #[I q0,I q1,I q2,I q3,I q4,I q5]
def dh.fresh{w:World}{c:Cg}(h:dh w1 w2 c p false (λb=>B<=b) p' x)(hB:B<=w1.heap.size):Below B w1 w2:=by
 obtain⟨G,a,f,g,d⟩:=h;exact d.below hB λb e=>by rcases(a rfl).2 b e with e|e<;>omega
def IY(hc:c.ok)(T:Nat->Tg)(i p mb:Nat)(C7:Int)(zs:List (K2×Nd))(h:cL w c T i p mb C7 zs)(hf:∀z∈zs,z.2.x.C6 c)(hn:zs.length<=99999)(k:K2)(hk:k.ok)(q:Pl)(hq:q.right=true):
  C 292 #[Z p 0,k.val,q.val] w λe w'=>
   (kO c zs k/\e=.returned (I 6)/\M w w')\/(¬kO c zs k/\e=.returned (I 0)/\nJ w w' c T i p mb zs k (mh (iU zs k) q)):=by
 have ah:c.sa<=500:=by
  unfold Cg.ok cA at hc;simp only[OY,decide_eq_true_eq]at hc;omega
 have ai:=zh w (.cells #[E k.hi,E k.lo] 58);have aj:=Blk.A8 w 58 #[E k.hi,E k.lo] rfl;have HS:=Z1 (λW c p x fz F hN hx=>Iy W c p x fz F hN hx q hq);have HN:=Z1 (λW=>wS ⟨1,1,1,1⟩ (by unfold Cg.ok;decide) W);obtain⟨d,f⟩:=k;obtain⟨m,n,r,s,t,u⟩:=q;have v:=ae ai (.cells #[I m,I n,I r,I s,I t,I u] 51);have hx:=aj.alloc (.cells #[I m,I n,I r,I s,I t,I u] 51);have hy:=Blk.A8 (w.alloc (.cells #[E d,E f] 58)) 51 #[I m,I n,I r,I s,I t,I u] (g:=w.heap.size+1) zS;have HB:=Z2 v (show tQ w.heap.size (w.heap.size+1) d f m n r s t u _ from⟨hx,hy⟩);have H:=Z6 h hf hn hk hc ah;unfold K2.val K2.arr Pl.val Pl.arr at*;unfold Cg.val at HN;simp only at*;clear ai v aj hx hy hq h hf hn hk hc ah
 go_in
 go_wp2;generalize B:w.heap.size=j at*;generalize (w.alloc (.cells #[E d,E f] 58)).alloc (.cells #[I m,I n,I r,I s,I t,I u] 51)=V at*;have ak:=Z1 B;clear B;have Q:tQ j (j+1) d f m n r s t u V.drew:=⟨HB.o.2.1.drew,HB.o.2.2.drew⟩;refine zH (S:=λV=>tQ j (j+1) d f m n r s t u V) Q ?_;refine zq 2 ?_ (λW hW=>?_) ?_;rotate_left
 ·obtain⟨e0,e1,e2,e3,e4,e5⟩:=bi hW.2;exact zf
 refine zo 1 λK hK=>?_;go_simp;refine(HN.o _).mono ?_;rintro e w1 ⟨pn,rfl,hn,a⟩;have D:tQ j (j+1) d f m n r s t u w1:=⟨Q.1.later a,Q.2.later a⟩;refine zJ hK D ?_;refine zo 3 λK hK=>?_;go_simp;refine(HS.o _ _ _ _ _ _ hn (OK _)).mono ?_;rintro e w2 ⟨bm,rfl,L⟩;have l:=L.fresh (w:=w1) a.size;have N:tQ j (j+1) d f m n r s t u w2:=⟨(l.block _ Q.1.lt).trans D.1,(l.block _ Q.2.lt).trans D.2⟩;refine zJ hK N ?_;have v:=HB.o.1;try rw[<-ak.o]at v
 have U:=af v.drew ⟨l.os.trans a.os,l.tape.trans a.tape,l.output.trans a.output,OJ a.size l.size,λb hb=>(l.block b hb).trans (a.block b hb)⟩;have h2:=H.o.1.at_.up U;have HM:=Z1 (mP _ c p mb C7 zs h2);have HO:=Z1 (uI _ c H.o.2.2.2.2.1 p mb C7 zs h2 ⟨d,f⟩ H.o.2.2.2.1);unfold K2.val K2.arr at HO;simp only at HO;obtain⟨d0,d1⟩:=ao N.1;have X:=Z2 N U;clear v a l U Q D N hn h2 L;go_wp2_with fail;refine HM.o.mono ?_;rintro e w3 ⟨rfl,rfl⟩;go_wp2_with fail;refine HO.o.mono ?_;rintro e w3 R
 rcases sD H.o.1 X.o.2 R with⟨h1,rfl,a⟩|⟨p0,fz,F,rfl,h1,O,hF,a⟩
 ·have y:=Z2 h1 a;clear R h1 a;go_wp2;go_ret;exact .inl ⟨y.o.1,rfl,y.o.2⟩
 ·have hf:=uJ H.o.2.1 ⟨d,f⟩;have HP:=Z1 (HS.o w3 c p0 _ fz F O (by have:=H.o.2.2.2.2.2;omega));have P:tQ j (j+1) d f m n r s t u w3:=⟨X.o.1.1.later R.1,X.o.1.2.later R.1⟩;have y:=Z5 h1 hF a R.1.size P;obtain⟨e0,e1⟩:=ao P.1;obtain⟨f0,f1,f2,f3,f4,f5⟩:=bi P.2;clear R h1 hF a O hf d0 d1 P;go_wp2_with fail;refine HP.o.mono ?_;rintro e w4 ⟨p',rfl,A⟩;have hv:=X.o.1.1.lt;have a4:=OV hv y.o.2.2.2.1;have B:=ak.o;have a5:=X.o.2.size;have hm:=qi H.o.1 y.o.2.2.1 (λe b hb=>(y.o.2.1 e b hb).imp And.left λe=>zO) A;obtain⟨g0,g1⟩:w4.cell? (Y j 0)=some (E d)/\w4.cell? (Y j 1)=some (E f):=by
   obtain⟨G,g1,g2,g3,g4⟩:=A;have hg:¬G j:=λe=>by
    cases fz with
    |false=>
     rcases(g1 rfl).2 _ e with e|e
     ·rcases y.o.2.1 rfl _ e with e|e<;>omega
     ·omega
    |true=>have:=g2 rfl _ e;omega
   exact ao (g4.B0 y.o.2.2.2.2.1 hg)
  have HK:=Z2 (mQ w4 c p mb C7 zs hm.1 ⟨d,f⟩ H.o.2.2.2.1 (by have:=H.o.2.2.1;omega) ⟨p',mh (iU zs ⟨d,f⟩) ⟨m,n,r,s,t,u⟩,false⟩) hm.2;unfold K2.val K2.arr at HK;simp only at HK;clear hv a4 B a5 hm e0 e1 A;go_wp2_with fail;refine HK.o.1.mono ?_;rintro e w5 ⟨rfl,av,h4,al⟩;have HZ:=Z1 (HK.o.2 w5 av h4 al);clear h4 al;go_wp2;go_ret;exact .inr ⟨y.o.1,rfl,HZ.o⟩
def qM(p mb:Nat)(C7:Int)(zs:List (K2×Nd))(h:dm w c p mb C7 zs)(hn:zs.length<=100000):
  C 304 #[Z p 0] w λe w'=>∃v ys,e=.returned v/\ys.Perm (zs.map (·.1))/\aL 2 w w' 58 v ys.length (cG (qk ys)):=by
 have m:w.cell? (Y p 0)=some (.map (some mb)):=h.B0.cell 0;have k:=Z1 (mP w c p mb C7 zs h);have l:=Z1 (ET (some mb));have b:=Blk.A8 w 285 #[.map (some mb)] rfl;have a:=zh w (.cells #[.map (some mb)] 285);have d:=Z2 (Ak w.heap.size mb _ (iT zs) _ (by rw[nm];exact hn) b (aw.up h.map a)) a;clear h b a
 go_in
 go_wp2_with fail;refine k.o.mono ?_;rintro e f ⟨rfl,rfl⟩;go_wp2_with fail;refine(l.o _).mono ?_;rintro e f ⟨rfl,rfl⟩;go_wp2_with fail;refine d.o.1.mono ?_;rintro e f ⟨v,ys,rfl,g,i⟩;have j:=Z2 g i;clear g i;go_wp2;go_ret;refine⟨v,ys,rfl,?_,j.o.2.lower d.o.2⟩;have:=j.o.1;unfold iT at this
 rwa [Px]at this
def Fb(hc:c.ok)(w:World):C 141 #[c.val] w λe w'=>∃p mb,e=.returned (Z p 0)/\dm w' c p mb 0 []/\w.heap.size<=p/\w.heap.size<=mb/\M w w':=by
 have g:=zh w (.cells c.cells.toArray 23);have h:=Blk.A8 w 23 c.cells.toArray rfl;have j:=λW=>gH c.st c.sa c.lo c.hi W;have k:pu c.st c.sa c.lo c.hi=0:=by exact OB hc
 rw[k]at j;have f:=Z3 j g h;obtain⟨v,x,y,z⟩:=c;clear j g h k hc;unfold Cg.val;simp only[Cg.cells]at f
 go_in
 go_wp2_with fail;refine zm (f.o.1 _) λl b=>?_;have d:=f.o.2.2.later b;have i:=af f.o.2.1 b;have m:=Z1 i;have a:=d.alloc (.map #[] 0);have n:=a.cell 0;have q:=a.cell 1;have r:=a.cell 2;have s:=a.cell 3;simp at n q r s;have u:=@run_makeMap prog;clear d a b i;go_wp2;go_ret;have t:=m.o.size;refine⟨_,l.heap.size,rfl,⟨Blk.A8 _ 287 _ zS,aw.up (aw.made l) (ae (Oy _ _) _)⟩,?_,t,ae (ae m.o _) _⟩;omega
def EM{l:List Smp}(hs:ea l)(t:Int):l.drop (placeF l t)=l.filter λs=>decide (t<=s.tick):=by
 induction l with
 |nil=>rfl
 |cons a r ih=>
  have c:=(Rn.1 hs);unfold placeF;by_cases h:a.tick<t
  ·simp only[RZ,h,decide_true,if_true,OC,ON];rw[So,Oz zT];exact ih c.2
  ·simp only[RZ,h,decide_false,Bool.false_eq_true,if_false,OE,OQ]
   symm
   rw[QR];intro s b
   rcases Pj.1 b with rfl|b
   ·simp;omega
   ·have:=c.1 s b;simp;omega
def rF(hs:ea x.D2)(t:Int):rx x t=eP t x:=by
 unfold rx eP;rw[EM hs]
def LF(hs:ea x.D2)(h:nj x t=false):eP t x=x:=by
 have b:=rF hs t;rw[<-b];obtain⟨D2,c,d,e⟩:=x;unfold rx;simp only
 cases D2 with
 |nil=>rfl
 |cons a r=>
  unfold nj at h;simp only[decide_eq_false_iff_not]at h;unfold placeF;simp[h]
def LG(h:nj x t=true):0<placeF x.D2 t:=by
 obtain⟨D2,b,c,d⟩:=x
 cases D2 with
 |nil=>cases h
 |cons a r=>
  unfold nj at h;simp only[decide_eq_true_eq]at h;unfold placeF;simp[h]
def pA{c:Cg}(h:x.C6 c)(t:Int):(eP t x).C6 c:=by
 refine⟨List.Pairwise.filter _ h.sorted,OJ (PF _ _) h.E5,λs a=>h.right s (Pp.1 a).1,h.C0,h.advs,h.L0,h.D8⟩
def lds(zs:List (K2×Nd)):List (K2×Ld):=zs.map λz=>(z.1,z.2.x)
def tO(zs:List (K2×Nd))(k:K2)(z:Nd):lds (aR zs k z)=aR (lds zs) k z.x:=by
 induction zs with
 |nil=>rfl
 |cons e r ih=>
  obtain⟨j,y⟩:=e;simp only[lds,Pi,aR]at ih ⊢;by_cases h:j=k
  ·simp[h]
  ·simp[h,ih]
def tP(zs:List (K2×Nd))(k:K2):ap (lds zs) k=(ap zs k).map (·.x):=rv zs (λ_ z=>z.x) k
def bL{L M:Nat->Prop}{w w1 w2:World}(h:ag L w w1)(k:ag M w1 w2)(hM:∀b,b<w.heap.size->M b->L b):ag L w w2:=
 ⟨k.os.trans h.os,k.tape.trans h.tape,k.output.trans h.output,OJ h.size k.size,λj c a=>(k.block j (OV c h.size) λe=>a (hM j c e)).trans (h.block j c a)⟩
def xj{α:Type}{l:List (K2×α)}(hd:cw l){k:K2}{v:α}(hk:k∈l.map (·.1)):aR l k v=l.map λe=>(e.1,if e.1=k then v else e.2):=by
 induction l with
 |nil=>cases hk
 |cons e r ih=>
  obtain⟨j,y⟩:=e;have a:=QB.1 (show((j,y)::r).map (·.1) |>.Nodup from hd);simp only[aR,Pi];by_cases h:j=k
  ·subst h;simp only[if_true];congr 1;rw[show r=r.map id by simp];simp only[Px];refine PD λe b=>?_;have:¬e.1=j:=λc=>a.1 (c▸Pq (f:=(·.1)) b);simp[this]
  ·simp only[h,if_false];congr 1;refine ih a.2 ?_
   rcases Pj.1 hk with e|e
   ·exact absurd e.symm h
   ·exact e
def jR(t:Int)(S:List K2)(e:K2×Ld):K2×Ld:=(e.1,if e.1∈S then eP t e.2 else e.2)
structure ec(w wr:World)(c:Cg)(T T':Nat->Tg)(i p mb:Nat)(C7:Int)(zs zs':List (K2×Nd))(t:Int)(ks:List K2)(j:Nat)(v:Value):Prop where
 agree:∀b,b<w.heap.size->T' b=T b
 K7:cL wr c T' i p mb C7 zs'
 N7:lds zs'=(lds zs).map (jR t (ks.take j))
 C6:∀z∈zs',z.2.x.C6 c
 B7:ag (λb=>T b=.st i\/∃k∈zs.map (·.1),T b=.nd k) w wr
 row:wr.ownsRow w.heap.size 58 2 v ks.length (cG ks)
 free:∀g,v.ownBlock=some g->T' g=.free
section
variable {w wr W':World} {c:Cg} {T T':Nat→Tg} {i p mb:Nat} {C7:Int} {zs zs':List (K2×Nd)} {t:Int} {ks:List K2} {j:Nat} {v:Value} {k:K2} {z:Nd}
def mq(zs:List (K2×Nd)):(lds zs).map (·.1)=zs.map (·.1):=by unfold lds;rw[Px];rfl
def ec.keys_eq(h:ec w wr c T T' i p mb C7 zs zs' t ks j v):zs'.map (·.1)=zs.map (·.1):=by
 rw[<-mq zs',h.N7,Px,<-mq zs];rfl
def ec.node(h:ec w wr c T T' i p mb C7 zs zs' t ks j v)(hk:k∈zs.map (·.1)):∃z,ap zs' k=some z:=by
 rw[<-h.keys_eq]at hk;exact Rd.1 (gY.2 hk)
def uM(t:Int){ks:List K2}(hnd:ks.Nodup){j:Nat}(hj:j<ks.length)(e:K2×Ld):jR t (ks.take (j+1)) e=(e.1,if e.1=ks[j]then eP t (jR t (ks.take j) e).2 else(jR t (ks.take j) e).2):=by
 have c:=OG hj;have b:ks[j]∉ks.take j:=λh=>by
  have a:=c▸(List.take_sublist (j+1) ks).nodup hnd;have d:=Qa.1 a;exact d.2.2 _ h _ (Py.2 rfl) rfl
 unfold jR;rw[c];simp only[Po,Py];by_cases a:e.1=ks[j]
 ·simp[a,b]
 ·simp[a]
def ec.same(h:ec w wr c T T' i p mb C7 zs zs' t ks j v)(hnd:ks.Nodup)(hj:j<ks.length)(hz:ap zs' ks[j]=some z)(ho:nj z.x t=false)(hb:M wr W'):ec w W' c T T' i p mb C7 zs zs' t ks (j+1) v:=by
 have d:=h.K7.at_.D7;refine⟨h.agree,h.K7.up hb,?_,h.C6,h.B7.trans (ag.B5 hb),(ag.B5 (L:=λ_=>False) hb).C8 h.row λ_ _ e=>e,h.free⟩;have b:=h.C6 _ (bR hz);have f:lds zs'=(lds zs').map λe=>(e.1,if e.1=ks[j]then eP t e.2 else e.2):=by
  refine((List.map_id (lds zs')).symm).trans (PD λe g=>?_);by_cases a:e.1=ks[j]
  ·obtain⟨y,k,rfl⟩:=Pa.1 g;simp only at a;have:=im d (x:=ks[j]) (v:=y.2) (by rw[<-a];exact k);rw[hz]at this;injection this with this;rw[this]at ho b;simp only[id,a,if_true];rw[LF b.sorted ho]
  ·simp[a]
 rw[f,h.N7,Px];refine PD λe _=>?_;rw[uM t hnd hj];rfl
def ec.cut(h:ec w wr c T T' i p mb C7 zs zs' t ks j v)(hnd:ks.Nodup)(hj:j<ks.length)(hin:ks[j]∈zs.map (·.1))(hz:ap zs' ks[j]=some z)(hN:nJ wr W' c T' i p mb zs' ks[j] (rx z.x t)):∃T2 ver2 zs2,ec w W' c T T2 i p mb ver2 zs zs2 t ks (j+1) v:=by
 obtain⟨T2,ver2,D,o,u,q⟩:=hN;have F:=h.B7.size;have m:=h.K7.at_.D7;have n:=h.C6 _ (bR hz);refine⟨T2,ver2,_,λb f=>(o b zO).trans (h.agree b f),u,?_,λy a=>?_,bL h.B7 q λb f e=>?_,?_,λg k=>(o g (h.row.lt g k).2).trans (h.free g k)⟩
 ·rw[tO,xj (by unfold cw;rw[mq];exact m) (by rw[mq,h.keys_eq];exact hin),h.N7,Px];refine PD λe A=>?_;rw[uM t hnd hj];simp only[Function.comp];by_cases d:e.1=ks[j]
  ·have r:jR t (ks.take j) e∈lds zs':=by rw[h.N7];exact Pq A
   obtain⟨y,a,l⟩:=Pa.1 r;have s:y.1=ks[j]:=by rw[<-d];exact congrArg (·.1) l
   have:=im m (x:=ks[j]) (v:=y.2) (by rw[<-s];exact a);rw[hz]at this;injection this with this;have B:(jR t (ks.take j) e).2=z.x:=by rw[<-l,this]
   rw[OB d,OB (show(jR t (ks.take j) e).1=ks[j]from d),B,rF n.sorted];rfl
  ·rw[Oz d,Oz (show ¬(jR t (ks.take j) e).1=ks[j]from d)];rfl
 ·rcases kt m a with rfl|⟨a,_⟩
  ·simp only;rw[rF n.sorted];exact pA n t
  ·exact h.C6 _ a
 ·rcases e with e|e
  ·exact .inl ((h.agree b f)▸e)
  ·exact .inr ⟨_,hin,(h.agree b f)▸e⟩
 ·refine q.C8 h.row λg k e=>?_;rw[h.free g k]at e
  rcases e with e|e<;>cases e
end
def KpQ(S:Nat->Prop)(W W':World):Prop:=el S W W'/\W.heap.size<=W'.heap.size
def KpQ.refl:KpQ S W W:=⟨el.refl _ _,OA _⟩
def KpQ.trans{S:Nat->Prop}{A B C:World}(h:KpQ S A B)(k:KpQ S B C):KpQ S A C:=⟨h.1.trans k.1,OJ h.2 k.2⟩
section
open Go.Maps Go.Sort Go.Shelf
set_option maxRecDepth 100000
attribute [local go_sem] Oper.semAt_some
def InQ(p Bb:Nat)(vf vb:Value)(k:Nat):Prop:=QBl p vf vb k\/k=Bb
def QAt.same{w w':World}{q Bb:Nat}{t:TypeId}{cs:Array Value}{vf vb:Value}{f b:List K2}(h:QAt w p q B t cs vf vb f b)(hS:el (InQ p Bb vf vb) w w'):QAt w' p q B t cs vf vb f b:=h.D3 λk a=>hS k (.inl a)
def yx{w:World}{n m:Nat}{v:Value}{l:List K2}(h:w.ownsRow B 58 2 v n (cG l))(hn:n=l.length)(hm:m<l.length):∃g c,v=V g 0 n c/\n<=c/\w.cell? (Y g (m*2))=some (E l[m].hi)/\w.cell? (Y g (m*2+1))=some (E l[m].lo):=by
 obtain⟨A,c,rfl,j,_⟩:=ak h;obtain⟨b,o,e,_,a⟩:=(an.C4 h).elem K2.C2 zP hn hm;obtain⟨g,r,s,k,_⟩:=fj h zO;injection k with d _ _;rw[d]at e;injection e with e;injection e with p q;subst p q d;have f:=a 0 _ rfl;have i:=a 1 _ rfl;simp only[PS,Qt]at f i;exact⟨g,c,rfl,j,f,i⟩
def KI(hn:1<=n)(l Bb p q B tb:Nat)(t:TypeId)(cs:Array Value)(vf vb:Value)(f b L:List K2)(hL:L=f.reverse++b)(hfew:L.length<=100000)(J Jx:List K2->World->Prop)(W:World)(hJ:AbidesFrom W.heap.size J)
  (hY:∀pre x W1,J pre W1->pre.length<L.length->YieldAt Fence.wide (n-1) prog l #[x.val] W1 λe W'=>
   (e=.returned (.bool true)/\J (pre++[x]) W'/\KpQ (InQ p Bb vf vb) W1 W')\/(e=.returned (.bool false)/\Jx (pre++[x]) W'))
  (hBn:Blk W Bb tb #[Z p q])(hR:QAt W p q B t cs vf vb f b)(h0:J [] W):
  CallsIn Fence.wide n prog 177 #[.func (.yield l) #[] #[],Z Bb 0] W λe W'=>(∃v,e=.returned v)/\
   ((∃ys,ys=L/\J ys W')\/(∃pre,True/\Jx pre W')):=by
 have ag:L.length=f.length+b.length:=by rw[hL];simp
 have HL:=Z1 hL;clear hL;obtain⟨S,T,rfl,ba,_⟩:=ak hR.front;obtain⟨U,X,rfl,bb,_⟩:=ak hR.back;have bc:f.length<=100000:=zO;have bd:b.length<=100000:=zO;have A:=Z1 ag;clear ag;have ah:=hBn.lt;have ai:=hR.lt;have ax:Hid (∀(ss:List K2) (V:World) (k0 k1:Int),KpQ (InQ p Bb (.slice S f.length T) (.slice U b.length X)) W V->J ss V->J ss (V.alloc (.cells #[E k0,E k1] 58))/\KpQ (InQ p Bb (.slice S f.length T) (.slice U b.length X)) V (V.alloc (.cells #[E k0,E k1] 58))):=Z1 λss V k0 k1 d hj=>by
  have a:M V (V.alloc (.cells #[E k0,E k1] 58)):=ae (Oy _ _) _;refine⟨hJ ss V _ none hj ⟨a.os,a.tape,a.output,a.size,λj hj _=>a.block j hj⟩ (λr e=>by cases e),λk y=>a.block k ?_,a.size⟩
  rcases y with y|y
  ·exact OV (ai k y) d.2
  ·rw[y];exact OV ah d.2
 refine callsIn_of_wp func177 rfl trivial ?_ rfl;simp only[ntmps177,OD,OC,OE,Nat.reduceAdd,Nat.reduceSub,Qu,Qv,QJ,QD,QA,PY];have b0:=hBn.cell 0;simp at b0;have c0:=hR.c0;have be:IntKind.i64.wrap ((f.length:Int)-1)=(f.length:Int)-1:=IntWalk.i64_in _ ⟨zO,zO⟩;clear ah ai;gi_wp2
 gi_loopw [3] (λi wr=>∃k:Nat,k<=f.length/\i=I ((f.length:Int)-1-k)/\Hid (J (L.take k) wr/\KpQ (InQ p Bb (.slice S f.length T) (.slice U b.length X)) W wr)) (λi _=>(intOf i+1).toNat)
 case atStart=>exact⟨0,OK _,zS,Z1 ⟨by simpa using h0,KpQ.refl _ _⟩⟩
 case round=>
  obtain⟨k,y,rfl,z⟩:=hrel;have h:=hR.same z.o.2.1;have b1:wr.cell? (Y Bb 0)=some (Z p q):=by
   have ay:Blk wr Bb tb #[Z p q]:=(z.o.2.1 Bb (.inr rfl)).trans hBn;have:=ay.cell 0
   simpa using this
  by_cases aj:k<f.length
  ·obtain⟨m,hm⟩:∃m,f.length=m+1+k:=⟨f.length-1-k,zO⟩;have al:m<f.length:=zO;obtain⟨g,c,u,_,d0,d1⟩:=yx h.front rfl al;injection u with u _ e3;subst u e3;have s:k<L.length:=by have:=A.o;omega
   have d:=OG s;have D:L[k]=f[m]:=by
    have F:L[k]?=f[m]?:=by
     rw[HL.o,Pk (by simpa using aj),List.getElem?_reverse aj];congr 1;omega
    rw[OL s,OL al]at F;exact Option.some.inj F
   rw[<-D]at d0 d1;obtain⟨fn,au,G,av,hy,H⟩:=hY _ L[k] wr z.o.1 zT;have HS:=Z1 d;have c1:=h.c0;have N:(f.length:Int)-1-k=(m:Int):=zO;have a6:(m:Int)<(f.length:Int):=zO;have bf:IntKind.i64.wrap ((m:Int)-1)=(m:Int)-1:=IntWalk.i64_in _ ⟨zO,zO⟩;rw[N];have HM:=Z2 N hm;clear d D h N hm;generalize L[k]=x at*;obtain⟨x0,x1⟩:=x;unfold K2.val K2.arr at*;simp only at*;gi_wp2;refine H.mono ?_;rintro e W3 (⟨rfl,O,P⟩|⟨rfl,w⟩)
   ·gi_wp2;go_roundw
    case rel=>exact⟨k+1,zO,by have:=HM.o.1;congr 1;omega,Z1 ⟨by rw[HS.o];exact O,z.o.2.trans P⟩⟩
    case measure=>have:=HM.o.1;simp[intOf]
   ·gi_wp2;refine OH (Pb rfl _ _ _) rfl ?_;exact⟨⟨_,rfl⟩,.inr ⟨_,trivial,w⟩⟩
  ·obtain rfl:k=f.length:=zO;have a1:(f.length:Int)-1-(f.length:Int)= -1:=zO;rw[a1];have c1:=h.c1;clear h;gi_wp2
   gi_loopw [33] (λi wr=>∃j:Nat,j<=b.length/\i=I j/\Hid (J (L.take (f.length+j)) wr/\KpQ (InQ p Bb (.slice S f.length T) (.slice U b.length X)) W wr)) (λi _=>b.length-(intOf i).toNat)
   case atStart=>exact⟨0,OK _,rfl,Z1 ⟨z.o.1,z.o.2⟩⟩
   case round=>
    obtain⟨j,hj,rfl,Q⟩:=hrel;have am:=hR.same Q.o.2.1;by_cases an:j<b.length
    ·obtain⟨g,c,u,_,d0,d1⟩:=yx am.back rfl an;injection u with u _ e3;subst u e3;have s:f.length+j<L.length:=by have:=A.o;omega
     have d:L.take (f.length+(j+1))=L.take (f.length+j)++[L[f.length+j]]:=OG s;have D:L[f.length+j]=b[j]:=by
      have F:L[f.length+j]?=b[j]?:=by
       rw[HL.o,Ph zS];congr 1;simp
      rw[OL s,OL an]at F;exact Option.some.inj F
     rw[<-D]at d0 d1;have R:=ax.o (L.take (f.length+j)) _ L[f.length+j].hi L[f.length+j].lo Q.o.2 Q.o.1;obtain⟨fn,au,G,av,hy,H⟩:=hY _ L[f.length+j] _ R.1 zT;have HS:=Z2 d R.2;have bg:(j:Int)<(b.length:Int):=zO;clear d D am R;generalize L[f.length+j]=x at*;obtain⟨x0,x1⟩:=x;unfold K2.val K2.arr at*;simp only at*;gi_wp2;refine H.mono ?_;rintro e W3 (⟨rfl,O,P⟩|⟨rfl,w⟩)
     ·gi_wp2;go_roundw
      case rel=>exact⟨j+1,zO,zS,Z1 ⟨by rw[HS.o.1];exact O,(Q.o.2.trans HS.o.2).trans P⟩⟩
      case measure=>simp[intOf];omega
     ·gi_wp2;refine OH (Pb rfl _ _ _) rfl ?_;exact⟨⟨_,rfl⟩,.inr ⟨_,trivial,w⟩⟩
    ·obtain rfl:j=b.length:=zO;have ao:=Q.o.1;rw[OT (by have:=A.o;omega)]at ao;gi_wp2
     go_end0
     exact⟨⟨_,rfl⟩,.inl ⟨_,rfl,ao⟩⟩
def KJ(v:Option Addr)(w:World):C 143 #[.pointer v] w λe w'=>e=.returned (.func (.func 177) #[] #[Z w.heap.size 0])/\w.alloc (.cells #[.pointer v] 255)=w':=by
 go_in
 go_wp2;go_ret;exact⟨rfl,rfl⟩
def NJ(hn:1<=n)(Bb p q B tb:Nat)(t:TypeId)(cs:Array Value)(vf vb:Value)(f b:List K2)(w:World)(hBn:Blk w Bb tb #[Z p q])(hR:QAt w p q B t cs vf vb f b)(hfew:(f.reverse++b).length<=100000):
  SeqStopsK Fence.wide n prog 177 #[Z Bb 0] (λx:K2=>#[x.val]) (KpQ (InQ p Bb vf vb)) (λys=>ys=f.reverse++b) (λ_=>True) (f.reverse++b).length w:=λl J a W hW c _ d e=>
 KI n hn l Bb p q B tb t cs vf vb f b _ rfl hfew J a W c d (hBn.later hW) (hR.up hW) e
def GI(p q B:Nat)(t:TypeId)(cs:Array Value)(S:Nat->Prop)(L:List K2)(w:World)(h:dE w p q B t cs S L)(hfew:L.length<=100000):
  C 102 #[Z p q] w λe w'=>∃v,e=.returned v/\aL 2 w w' 58 v L.length (cG L):=by
 obtain⟨m,n,f,b,r,rfl,_⟩:=h.ex;have c:=zh w (.cells #[Z p q] 255);have i:=Blk.A8 w 255 #[Z p q] rfl;have j:=r.up c;have z:=Z1 (KJ (some (Y p q)) w);have d:∀k,InQ p w.heap.size m n k->k<w.heap.size+1:=λk a=>by
  rcases a with a|a
  ·have:=r.lt k a;omega
  ·omega
 have A:=Z1 (xe 177 #[Z w.heap.size 0] (KpQ (InQ p w.heap.size m n)) (λs=>s=f.reverse++b) (λ_=>True) (f.reverse++b).length (w.alloc (.cells #[Z p q] 255)) hfew (enters_of func177 zR rfl) (λh k=>h.trans k)
  (λW l o D F u g G=>⟨el.put d W l o D (by simp at F;omega) u g G,zS⟩) (λW N u g _=>⟨λk a=>g.block k (by have:=d k a;simp;omega),g.size⟩)
  (NJ 2 zP w.heap.size p q B _ t cs m n f b _ (i.alloc _) (j.up (ae (Oy _ _) _)) hfew))
 have H:=Z1 c;clear h r c i j d
 go_in
 go_wp2_with fail;refine z.o.mono ?_;rintro O P ⟨rfl,rfl⟩;go_wp2_with fail;refine A.o.mono ?_;rintro Q R ⟨v,s,rfl,rfl,x⟩;have y:=Z1 x;clear x;go_wp2;go_ret;exact⟨v,rfl,aP y.o.own zS,af H.o y.o.below⟩
def vZ(p q:Nat)(t:TypeId)(cs:Array Value)(S:Nat->Prop)(x:Qm)(w:World)(h:gq w p q t cs S x)(hf:x.E5):
  C 54 #[Z p q] w λe w'=>∃v,e=.returned v/\aL 2 w w' 58 v x.line.length (cG x.line):=by
 have b:=Z1 (GI p q 0 t cs S x.line w h.line (by have:=hf.line;omega));clear h hf
 go_in
 go_wp2_with fail;refine b.o.mono ?_;rintro d f ⟨v,rfl,a⟩;have c:=Z1 a;clear a;go_wp2;go_ret;exact⟨v,rfl,c.o⟩
end
end Go.Fw
