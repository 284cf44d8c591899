/- Lemmas of this claim. Conditions: as each says. -/
import Derived.Test.YtpfmpaolgmoajaaGreatS02
import Derived.Lib.Overlaps
import Derived.Test.YtpfmpaolgmoajaaGreatS04
set_option linter.unusedVariables false
set_option linter.unusedSimpArgs false
set_option maxHeartbeats 4000000
set_option maxRecDepth 20000
set_option linter.defProp false
open Go.Proofs.Tryz
namespace Go.Fw
open Go.Proofs Go.RowKit
variable {P:Program}(B:Nat)(l:List Smp)(g:Nat)(A:Option Addr)(c n i b:Nat)(p:Pl)(sl:Value)(room:Nat)(x:Smp)(vb:Nat)(w:World)(v:Value)(load:Int)(j:Nat)(e:Ending)(TO t:Int)(xs:List Value)(width:Int)(w':World)(s:Smp)(now:Int)(k d:Nat)(cur:Array Value)(a:Int)(C0:List Adv)
def po(l:List Int):∀(o:K2),o.ok->(∀x∈l,aq x)->(nH o l).ok:=by
 induction l with
 |nil=>intro o h _;exact h
 |cons x r ih=>
  intro o h a;refine ih _ ?_ (λy c=>a y (by simp[c]));have:=a x zS;unfold aq at this;by_cases b:0<x
  ·simp only[b,if_true];exact AZ h ⟨gC.hi,by unfold cK;dsimp only;omega⟩
  ·simp only[b,if_false];exact h
def yN(o:K2)(l:List Int)(x:Int):nH o (l++[x])=if 0<x then(fk (nH o l) ⟨0,x⟩).1 else nH o l:=by
 unfold nH;rw[Qe];rfl
def Bd{x:K2}{d:Int}(h:x.ok):(lC x d).ok:=qZ (Ba h) 128
def wA{s:DSt}(h:s.ok):(mJ s).ok:=by
 unfold mJ;split
 ·exact AZ h.q ⟨gC.hi,by unfold cK;decide⟩
 ·exact h.q
def Hv{l:List Int}(h:∀x∈l,aq x):aq (jC l):=by
 unfold jC;split
 ·exact aD
 ·exact DV (wA (Bd (po l _ gC h)))
def BX(l:List Int)(A:Option Addr)(c n:Nat)(w:World)(hr:an w w.heap.size 1 A n (i64s l))(hn:n<=100000)(hl:∀x∈l,aq x):
  C 196 #[.slice A n c] w (J (.agg #[E (fm l).hi,E (fm l).lo]) w):=by
 have q:n=l.length:=by have:=hr.len;rwa [iW]at this
 have G:=Z1 q;have H:=Z1 hl;have L:=(Blk.A8 w 279 #[E 0,E 0] rfl).alloc (.cells #[E 0,E 0] 279);have N:=Blk.A8 (w.alloc (.cells #[E 0,E 0] 279)) 279 #[E 0,E 0] (g:=w.heap.size+1) zS;have O:M w ((w.alloc (.cells #[E 0,E 0] 279)).alloc (.cells #[E 0,E 0] 279)):=ae (ae (Oy _ _) _) _;have HB:=Z3 O L N;clear O L N q hl
 go_in
 go_wp2;go_loopw [8] (λi wr=>∃(k:Nat),k<=n/\i=I k/\∃o:K2,Hid (o=fm (l.take k)/\M w wr/\Blk wr w.heap.size 279 #[E 0,E 0]/\Blk wr (w.heap.size+1) 279 #[E o.hi,E o.lo])) (λi _=>n-(intOf i).toNat)
 case atStart=>exact⟨0,zO,rfl,⟨0,0⟩,Z1 ⟨rfl,HB.o⟩⟩
 case round=>
  obtain⟨k,hk,rfl,o,b⟩:=hrel;by_cases r:k<n
  ·have h:k<l.length:=by have:=G.o;omega
   obtain⟨ad,u,rfl,am,s,hc⟩:=(hr.below b.o.2.1).at_ r;obtain rfl:=ma s h;have y:=H.o _ (OR h);have P:=OG h;have t:o.ok:=by rw[b.o.1];exact po _ _ gC λx y=>H.o x (Qb y)
   generalize l[k]=x at*;have z:Hid (fm (l.take (k+1))=if 0<x then(fk o ⟨0,x⟩).1 else o):=Z1 (by rw[P,b.o.1];exact yN _ _ _);obtain⟨x0,x1⟩:=y;clear P s;by_cases Q:0<x
   ·have R:=b.o.2.1;have S:(K2.mk 0 x).ok:=⟨gC.hi,by unfold cK;dsimp only;omega⟩;have j:=λW=>qY o ⟨0,x⟩ W t S;have m:Hid (fm (l.take (k+1))=(fk o ⟨0,x⟩).1):=Z1 (by rw[z.o,OB Q]);have B:=Z1 j;obtain⟨T,U⟩:=ao b.o.2.2.2;clear j S z t;have f:=Z2 b.o.2.2.1 b.o.2.2.2;obtain⟨oh,ol⟩:=o;simp only at T U;generalize fk ⟨oh,ol⟩ ⟨0,x⟩=a at*;obtain⟨⟨X,al⟩,ab⟩:=a
    go_wp2_with (go_at_call 197;refine(B.o _).mono ?_;rintro e w1 ⟨rfl,d⟩;have p:=Z1 d;have f0:=(Blk.later f.o.2 d).frozen 0;have f1:=(Blk.later f.o.2 d).frozen 1;have d0:=(ao (Blk.later f.o.2 d)).1;have d1:=(ao (Blk.later f.o.2 d)).2;clear d)
    go_roundw
    case rel=>
     have h2:=(f.o.2.later p.o).B4 0 (E X);have h3:=h2.B4 1 (E al);exact⟨k+1,zO,by go_num,⟨X,al⟩,Z1 ⟨m.o.symm,((af R p.o).setCell zS _).setCell zS _,((f.o.1.later p.o).D1 zS _).D1 zS _,by simpa using h3⟩⟩
    case measure=>simp[intOf];omega
   ·have m:Hid (fm (l.take (k+1))=o):=Z1 (by rw[z.o,Oz Q]);go_wp2;go_roundw
    case rel=>exact⟨k+1,zO,by go_num,o,Z1 ⟨m.o.symm,b.o.2⟩⟩
    case measure=>simp[intOf];omega
  ·obtain rfl:k=n:=zO;have hf:l.take k=l:=OT (by have:=G.o;omega);have D:=b.o.1;rw[hf]at D;have f:=Z1 D;obtain⟨T,U⟩:=ao b.o.2.2.2;have f0:=b.o.2.2.1.frozen 0;have f1:=b.o.2.2.1.frozen 1;have F:=b.o.2.2.1.B4 0 (E o.hi);have z2:=F.B4 1 (E o.lo);have z3:=F.cell 0;have z4:=z2.cell 1;simp at z3 z4;have c2:=(ao b.o.2.2.1).1;have c3:=(ao b.o.2.2.1).2;clear F z2 hf D;have r:=b.o.2.2.1.lt;go_wp2;rw[<-f.o];exact OH (v:=.agg #[E o.hi,E o.lo]) (by simp[results,results196,go_sem,z3,z4]) rfl ⟨rfl,(b.o.2.1.setCell zS _).setCell zS _⟩
def DX(l:List Int)(A:Option Addr)(c n:Nat)(w:World)(hr:an w w.heap.size 1 A n (i64s l))(hn:n<=100000)(hl:∀x∈l,aq x):
  C 164 #[.slice A n c] w (J (I (jC l)) w):=by
 have i:n=l.length:=by have:=hr.len;rwa [iW]at this
 by_cases O:n=0
 ·have HX:Hid (jC l=0):=Z1 (by unfold jC;rw[OB (OU zO)]);have d0:((n:Int)==0)=true:=by rw[O];rfl
  clear i O
  go_in
  go_wp2;go_ret;exact⟨aC HX.o.symm,Oy _ _⟩
 ·have d0:((n:Int)==0)=false:=zT;have T:jC l=jB (mJ (lC (fm l) (n:Int))):=by unfold jC;rw[Oz (λe=>O (by rw[i,e];rfl)),i]
  have y:=λW=>BX l A c n W;have z:(fm l).ok:=po l _ gC hl;have f:=Bd (d:=(n:Int)) z;have B:=wA f;have D:=λW=>Hu (fm l) (n:Int) W z zO (by unfold cK;omega);have P:mJ (lC (fm l) (n:Int))=if 0<(lC (fm l) (n:Int)).r then(fk (lC (fm l) (n:Int)).q ⟨0,1⟩).1 else(lC (fm l) (n:Int)).q:=rfl
  generalize fm l=t at*;generalize lC t (n:Int)=s at*;have F:=Z1 (λW (hr:an W W.heap.size 1 A n (i64s l))=>y W hr hn hl);have G:=Z1 D;have j:=Z1 (λW=>BW (mJ s) W B);have H:=Z1 (λW=>qY s.q ⟨0,1⟩ W f.q ⟨gC.hi,by unfold cK;decide⟩);have Q:=Z1 T;have U:=Z1 hr;obtain⟨th,tl⟩:=t;obtain⟨⟨g,h⟩,r,X⟩:=s;obtain⟨r0,r1⟩:=f.r;clear i O T y z f B D hr hl;simp only at r0 r1;by_cases b:0<r
  ·have L:Hid (mJ ⟨⟨g,h⟩,r,X⟩=(fk ⟨g,h⟩ ⟨0,1⟩).1):=Z1 (by rw[P];exact OB b);have e1:decide (0<r)=true:=by simpa using b
   clear P b;rw[L.o]at Q j;clear L;generalize fk ⟨g,h⟩ ⟨0,1⟩=a at*;obtain⟨⟨ah,al⟩,ab⟩:=a
   go_in
   go_wp2_with (first|(go_at_call 196;refine(F.o _ U.o).mono ?_;rintro e w1 ⟨rfl,k⟩)|(go_at_call 195;refine(G.o _).mono ?_;rintro e u ⟨rfl,m⟩)|(go_at_call 197;refine(H.o _).mono ?_;rintro e w3 ⟨rfl,R⟩;have v:=Blk.later (Blk.A8 u 279 #[E g,E h] rfl) R;have f0:=v.frozen 0;have f1:=v.frozen 1;have g0:=(ao v).1;have g1:=(ao v).2;have S:=(v.B4 0 (E ah)).B4 1 (E al);simp at S;have au:=Z1 S;clear v S)|(go_at_call 198;refine(j.o _).mono ?_;rintro e w4 ⟨rfl,N⟩))
   go_ret;have av:=k.size;have aw:=m.size;have k3:=af (ae (af k m) (.cells #[E g,E h] 279)) R;exact⟨aC Q.o.symm,af ((k3.setCell (p:=Y u.heap.size 0) (by show w.heap.size<=u.heap.size;omega) _).setCell (p:=Y u.heap.size 1) (by show w.heap.size<=u.heap.size;omega) _) N⟩
  ·have L:Hid (mJ ⟨⟨g,h⟩,r,X⟩=⟨g,h⟩):=Z1 (by rw[P];exact Oz b);have e1:decide (0<r)=false:=by simpa using b
   clear P b H;rw[L.o]at Q j;clear L
   go_in
   go_wp2_with (first|(go_at_call 196;refine(F.o _ U.o).mono ?_;rintro e w1 ⟨rfl,k⟩)|(go_at_call 195;refine(G.o _).mono ?_;rintro e u ⟨rfl,m⟩)|(go_at_call 198;refine(j.o _).mono ?_;rintro e w4 ⟨rfl,N⟩))
   go_ret;exact⟨aC Q.o.symm,af (ae (af k m) _) N⟩
def re(s:Smp):Int:=if s.value<0 then 0 else s.value
def dQ(l:List Smp):List Int:=l.map re
def wd(a b:Int)(s:Smp):Bool:=decide (a<=s.tick)&&decide (s.tick<=b)
def cutF(l:List Smp)(a b:Int):List Smp:=l.filter (wd a b)
def je(l:List Int):Int:=l.foldl (λa b=>sat (a+b)) 0
def gD:List Int->Int
 |[]=>0
 |x::r=>r.foldl min x
def gE:List Int->Int
 |[]=>0
 |x::r=>r.foldl max x
def ofF(l:List Smp):St:=if l=[]then .zero else⟨(l.length:Int),je (dQ l),gD (dQ l),gE (dQ l),jC (dQ l)⟩
def fromF(TO width:Int):Int:=sat (sat (TO-width)+1)
def atF(l:List Smp)(TO width:Int):St:=ofF (cutF l (fromF TO width) TO)
def fo(l:List Smp):Prop:=∀s∈l,aq s.tick/\aq s.value
def Lw{s:Smp}(h:aq s.value):aq (re s):=by unfold aq re at*;split<;>omega
def nX{l:List Smp}(h:fo l):∀x∈dQ l,aq x:=by
 intro x a;obtain⟨s,b,rfl⟩:=Pa.1 a;exact Lw (h s b).2
def un(l:List Int)(x:Int):je (l++[x])=sat (je l+x):=by unfold je;rw[Qe];rfl
def Bg(l:List Int):aq (je l):=by
 rcases List.eq_nil_or_concat l with rfl|⟨r,x,rfl⟩
 ·exact aD
 ·rw[List.concat_eq_append,un];exact wB _
def Hw{l:List Int}(h:l≠[]):gD l∈l:=by
 cases l with
 |nil=>exact absurd rfl h
 |cons x r=>
  have:∀(r:List Int) (x:Int),r.foldl min x∈x::r:=by
   intro r;induction r with
   |nil=>intro x;simp
   |cons y r ih=>
    intro x;rw[Qz];have b:=ih (min x y)
    rcases Pj.1 b with a|a
    ·rw[a];by_cases c:x<=y
     ·simp[Int.min_eq_left c]
     ·simp[Int.min_eq_right (show y<=x by omega)]
    ·simp[a]
  exact this r x
def Hx{l:List Int}(h:l≠[]):gE l∈l:=by
 cases l with
 |nil=>exact absurd rfl h
 |cons x r=>
  have:∀(r:List Int) (x:Int),r.foldl max x∈x::r:=by
   intro r;induction r with
   |nil=>intro x;simp
   |cons y r ih=>
    intro x;rw[Qz];have b:=ih (max x y)
    rcases Pj.1 b with a|a
    ·rw[a];by_cases c:x<=y
     ·simp[Int.max_eq_right c]
     ·simp[Int.max_eq_left (show y<=x by omega)]
    ·simp[a]
  exact this r x
def Na{l:List Smp}(h:fo l)(hn:l.length<=100000):(ofF l).ok:=by
 unfold ofF;split
 ·exact⟨aD,aD,aD,aD,aD⟩
 ·rename_i a;have b:dQ l≠[]:=by simpa[dQ]using a
  exact⟨by unfold aq;dsimp only;omega,Bg _,nX h _ (Hw b),nX h _ (Hx b),Hv (nX h)⟩
def Bh{l:List Smp}(h:fo l)(a b:Int):fo (cutF l a b):=λs c=>h s (Pp.1 c).1
def wD{l:List Smp}(h:fo l)(hn:l.length<=100000)(TO width:Int):(atF l TO width).ok:=Na (Bh h _ _) (OJ (PF _ _) hn)
def Bi:cE prog 271 2 (I 0) 1 8:=⟨underlying271,zR,rfl⟩
def gl:cE prog 48 66 (.agg #[I 0,I 0]) 2 16:=⟨underlying48,zR,rfl⟩
def yO(hr:an w w.heap.size 2 A n (smps l))(hn:n<=100000)(hl:fo l):
  C 160 #[.slice A n c] w λe w'=>∃v,e=.returned v/\aL 1 w w' 2 v n (i64s (dQ l)):=by
 have y:=Z1 (iB hr);have O:=Z1 hl;clear hl
 go_in
 go_wp2;go_loopw [3,8] (λv i wr=>∃(k:Nat),k<=n/\i=I k/\∃(z:Option Addr) (B:Nat),v=.slice z k B/\Hid (aL 1 w wr 2 v k (i64s (dQ (l.take k))))) (λ_ i _=>n-(intOf i).toNat)
 case atStart=>exact⟨0,OK _,rfl,none,0,rfl,Z1 (aL.F8 1 w _)⟩
 case round=>
  obtain⟨k,U,rfl,z,B,rfl,q⟩:=hrel;by_cases S:k<n
  ·have g:k<l.length:=by have:=y.o;omega
   obtain⟨b,o,rfl,T,P,Q⟩:=il (hr.up q.o.below) g;have D:=OG g;have F:=O.o _ (OR g);generalize l[k]=x at*;have G:Hid (dQ (l.take (k+1))=dQ (l.take k)++[re x]):=Z1 (by rw[D];simp[dQ]);have H:Hid (re x=if x.value<0 then 0 else x.value):=Z1 rfl;obtain⟨r,d⟩:=x;simp only at P Q F;obtain⟨⟨X,t1⟩,v0,v1⟩:=F;have p:=q.o.alloc (.cells #[I r,I d] 66);have a:=Z1 p;clear D p hr;by_cases h:d<0
   ·have j:Hid (re ⟨r,d⟩=0):=Z1 (by rw[H.o];exact OB h)
    go_wp2_with (at_builtin;go_must (refine bZ Bi zP rfl (.tmp 12) (.tmp 16) rfl rfl a.o.own a.o.le zS rfl rfl zV zO zU ?_);intro R w' f m)
    obtain⟨s,t,rfl,_,_⟩:=ak f;go_roundw
    case rel=>exact⟨k+1,zO,by go_num,s,t,rfl,Z1 (by rw[G.o,j.o];simpa[i64s,show max d 0=0 by omega]using a.o.app m f)⟩
    case measure=>simp[intOf];omega
   ·have j:Hid (re ⟨r,d⟩=d):=Z1 (by rw[H.o];exact Oz h)
    go_wp2_with (at_builtin;go_must (refine bZ Bi zP rfl (.tmp 12) (.tmp 16) rfl rfl a.o.own a.o.le zS rfl rfl zV zO zU ?_);intro R w' f m)
    obtain⟨s,t,rfl,_,_⟩:=ak f;go_roundw
    case rel=>exact⟨k+1,zO,by go_num,s,t,rfl,Z1 (by rw[G.o,j.o];simpa[i64s,show max d 0=d by omega]using a.o.app m f)⟩
    case measure=>simp[intOf];omega
  ·obtain rfl:k=n:=zO;have L:l.take k=l:=OT (by have:=y.o;omega);have u:=q.o;rw[L]at u;have N:=Z1 u;clear u L;go_wp2;go_ret;exact⟨_,rfl,N.o⟩
def Hy(b:Int)(w:World)(hr:an w w.heap.size 2 A n (smps l))(hn:n<=100000):
  C 126 #[.slice A n c,I a,I b] w λe w'=>∃v,e=.returned v/\aL 2 w w' 66 v (cutF l a b).length (smps (cutF l a b)):=by
 have G:=Z1 (iB hr)
 go_in
 go_wp2;go_loopw [7,12] (λv i wr=>∃(k:Nat),k<=n/\i=I k/\∃(t:Option Addr) (u m:Nat),v=.slice t m u/\m<=k/\Hid (m=(cutF (l.take k) a b).length/\aL 2 w wr 66 v m (smps (cutF (l.take k) a b)))) (λ_ i _=>n-(intOf i).toNat)
 case atStart=>exact⟨0,OK _,rfl,none,0,0,rfl,OA _,Z1 ⟨rfl,aL.F8 2 w _⟩⟩
 case round=>
  obtain⟨k,hk,rfl,t,u,m,rfl,X,p⟩:=hrel;by_cases aa:k<n
  ·have y:k<l.length:=by have:=G.o;omega
   obtain⟨bb,o,rfl,ab,P,Q⟩:=il (hr.up p.o.2.below) y;have H:=OG y;generalize l[k]=x at*;have q:Hid (cutF (l.take (k+1)) a b=cutF (l.take k) a b++if wd a b x=true then[x]else[]):=Z1 (by rw[H];unfold cutF;rw[Ql];congr 1;by_cases h:wd a b x=true<;>simp[h]);have r:Hid (wd a b x=(decide (a<=x.tick)&&decide (x.tick<=b))):=Z1 rfl;obtain⟨f,L⟩:=x;simp only at P Q;have z:=p.o.2.alloc (.cells #[I f,I L] 66);have g:=Z1 z;clear H z hr;by_cases j:a<=f
   ·have R:decide (a<=f)=true:=by simpa using j
    by_cases s:f<=b
    ·have S:decide (f<=b)=true:=by simpa using s
     have d:Hid (cutF (l.take (k+1)) a b=cutF (l.take k) a b++[⟨f,L⟩]):=Z1 (by rw[q.o,OB (by rw[r.o];simp[j,s])]);clear j s q r
     go_wp2_with (at_builtin;go_must (refine bZ gl zP rfl (.tmp 26) (.tmp 28) rfl rfl g.o.own g.o.le zS rfl rfl zV zO zU ?_);intro v' w' B N)
     obtain⟨T,U,rfl,_,_⟩:=ak B;go_roundw
     case rel=>exact⟨k+1,zO,by go_num,T,U,m+1,rfl,zO,Z1 ⟨by rw[d.o,p.o.1];simp,by rw[d.o];simpa[smps,Smp.cells]using g.o.app N B⟩⟩
     case measure=>simp[intOf];omega
    ·have S:decide (f<=b)=false:=by simpa using s
     have d:Hid (cutF (l.take (k+1)) a b=cutF (l.take k) a b):=Z1 (by rw[q.o,Oz (by rw[r.o];simp[s]),PC]);clear j s q r;go_wp2;go_roundw
     case rel=>exact⟨k+1,zO,by go_num,t,u,m,rfl,zO,Z1 ⟨by rw[d.o,p.o.1],by rw[d.o];exact g.o⟩⟩
     case measure=>simp[intOf];omega
   ·have R:decide (a<=f)=false:=by simpa using j
    have d:Hid (cutF (l.take (k+1)) a b=cutF (l.take k) a b):=Z1 (by rw[q.o,Oz (by rw[r.o];simp[j]),PC]);clear j q r;go_wp2;go_roundw
    case rel=>exact⟨k+1,zO,by go_num,t,u,m,rfl,zO,Z1 ⟨by rw[d.o,p.o.1],by rw[d.o];exact g.o⟩⟩
    case measure=>simp[intOf];omega
  ·obtain rfl:k=n:=zO;have O:l.take k=l:=OT (by have:=G.o;omega);have F:=p.o;rw[O]at F;have D:=Z1 F;clear F O;go_wp2;go_ret;exact⟨_,rfl,by rw[<-D.o.1];exact D.o.2⟩
def Hz(l:List Int)(A:Option Addr)(c n:Nat)(w:World)(hr:an w w.heap.size 1 A n (i64s l))(hn:n<=100000)(hl:∀x∈l,aq x):
  C 161 #[.slice A n c] w λe w'=>e=.returned (I (je l))/\w=w':=by
 have d:Hid (n=l.length):=Z1 (by have:=hr.len;rwa [iW]at this);have m:=Z1 hl;clear hl
 go_in
 go_wp2;go_loopw [3,8] (λv i wr=>∃(k:Nat),k<=n/\i=I k/\w=wr/\v=I (je (l.take k))) (λ_ i _=>n-(intOf i).toNat)
 case atStart=>exact⟨0,OK _,rfl,rfl,rfl⟩
 case round=>
  obtain⟨k,t,rfl,rfl,rfl⟩:=hrel;by_cases f:k<n
  ·have a:k<l.length:=by have:=d.o;omega
   obtain⟨y,u,rfl,p,b,z⟩:=hr.at_ f;obtain rfl:=ma b a;have g:=m.o _ (OR a);have h:=OG a;generalize l[k]=x at*;have q:Hid (je (l.take (k+1))=sat (je (l.take k)+x)):=Z1 (by rw[h,un]);have r:=Z1 (λW=>ke (je (l.take k)) x W (Bg _) g);clear h b g
   go_wp2_with (go_at_call 165;refine(r.o _).mono ?_;rintro e B ⟨rfl,rfl⟩)
   go_roundw
   case rel=>exact⟨k+1,zO,by go_num,trivial,by rw[q.o]⟩
   case measure=>simp[intOf];omega
  ·obtain rfl:k=n:=zO;have j:l.take k=l:=OT (by have:=d.o;omega);have s:Hid (je (l.take k)=je l):=Z1 (by rw[j]);clear j;go_wp2;go_ret;exact⟨aC s.o,rfl⟩
def gm(l:List Smp)(i:Nat)(x:Smp):List Smp:=l.take i++x::l.drop i
def qI(a b:List Smp):smps (a++b)=smps a++smps b:=by simp[smps]
def uo:smps (l.take i)=(smps l).take (i*2):=by
 induction l generalizing i with
 |nil=>simp[smps]
 |cons x r ih=>
  cases i with
  |zero=>simp[smps]
  |succ i=>
   rw[OM];show x.cells++smps (r.take i)=(x.cells++smps r).take ((i+1)*2);rw[ih,show(i+1)*2=x.cells.length+i*2 by simp[Smp.cells];omega,List.take_length_add_append]
def uq:smps (l.drop i)=(smps l).drop (i*2):=by
 have h:smps (l.take i)++smps (l.drop i)=smps l:=by rw[<-qI,Qr]
 by_cases b:i<=l.length
 ·have a:(smps l).drop (smps (l.take i)).length=smps (l.drop i):=by rw[<-h];exact List.drop_left
  rw[dc,PG,Qp b]at a;exact a.symm
 ·rw[Pt zO,Pt (by rw[dc];omega)];rfl
def rf:smps (gm l i x)=(smps l).take (i*2)++(x.cells++(smps l).drop (i*2)):=by
 unfold gm;rw[qI,uo];show _++(x.cells++smps (l.drop i))=_;rw[uq]
def Ia(cur xs x R:List Value)(a b n:Nat)(hb:b=a+x.length)(hxl:xs.length=n)(ht:cur.take n=xs)(ha:a<=n)(hc:b<=cur.length):
  ((cur.take b++(xs.drop a++R)).take a++(x++(cur.take b++(xs.drop a++R)).drop b)).take (n+x.length)=xs.take a++(x++xs.drop a):=by
 have c:(cur.take b++(xs.drop a++R)).take a=xs.take a:=by
  rw[QN zT,Sf,<-ht,Sf,Qp zO,Qp ha]
 have d:(cur.take b++(xs.drop a++R)).drop b=xs.drop a++R:=List.drop_left' zT;rw[c,d,<-Pv x,<-Pv];exact QG zT
def DZ(row xs x R R2:List Value)(a b n:Nat)(hb:b=a+x.length)(hxl:xs.length=n)(ht:row.take a=xs.take a)(ha:a<=n)(hr:a<=row.length):
  ((row.take a++(x++R)).take b++(xs.drop a++R2)).take (n+x.length)=xs.take a++(x++xs.drop a):=by
 have c:(row.take a++(x++R)).take b=xs.take a++x:=by
  rw[ht,<-Pv];exact QG zT
 rw[c,Pv,<-Pv x,<-Pv];exact QG zT
def jf:∀v∈smps l,v.oneCell'=true:=by
 intro v a;obtain⟨s,_,h⟩:=QU.1 a;unfold Smp.cells at h;simp at h
 rcases h with rfl|rfl<;>rfl
def qa(B:Nat)(w:World)(v:Value)(l:List Smp)(i:Nat)(x:Smp)(e:Ending)(w':World):Prop:=
 ∃v',e=.returned v'/\w'.ownsRow B 66 2 v' (l.length+1) (smps (gm l i x))/\w.grownBy w' v.ownBlock/\(v'.ownBlock=v.ownBlock\/∀k,v'.ownBlock=some k->w.heap.size<=k)
def BY(l:List Smp)(x:Smp)(vb:Nat)(w:World)(h:w.ownsRow B 66 2 (.slice A n c) n (smps l))(hn:n=l.length)(hN:n<=1000)(hB:B<=w.heap.size)
  (hv:Blk w vb 66 #[I x.tick,I x.value]):
  C 210 #[.slice A n c,I n,V vb 0 1 1] w (qa B w (.slice A n c) l n x):=by
 have m:an w w.heap.size 2 (some (Y vb 0)) 1 x.cells:=⟨rfl,λ_=>⟨_,rfl,hv.lt,λj u r=>by
  rw[show((Y vb 0):Addr).add j=(Y vb j) by unfold Addr.add;split<;>simp_all,hv.cell,<-PA];exact r⟩⟩
 have f:smps (gm l n x)=smps l++x.cells:=by
  rw[rf,OT (by rw[dc];omega),Pt (by rw[dc];omega),PC]
 have H:=Z4 h m f hn;have s:n<=c/\c<=maxLen:=by
  obtain⟨F,G,g,t,v⟩:=ak h;injection g with _ _ g;subst g;exact⟨t,v⟩
 obtain⟨z,p⟩:=s;unfold maxLen at p;have D:c<=9223372036854775807:=zO;by_cases q:n=c
 ·subst q
  go_in
  go_wp2_with (at_builtin;go_must (refine bP w rfl (.tmp 23) (.tmp 24) 48 rfl B 66 _ _ 2 16 underlying48 (info_parts gl.info).choose_spec.1 (info_parts gl.info).choose_spec.2.1 (info_parts gl.info).choose_spec.2.2.1 (info_parts gl.info).choose_spec.2.2.2 rfl zP (.slice A n n) n (smps l) rfl H.o.1 w.heap.size _ 1 1 x.cells rfl H.o.2.1 (by simp[Smp.cells,Value.oneCell']) zU zO hB ?_);intro i y d e a)
  go_ret;refine⟨i,rfl,?_,e,?_⟩
  ·rw[H.o.2.2.1,<-H.o.2.2.2];exact d
  ·rcases a with a|a
   ·exact .inl a
   ·refine .inr λk b=>?_;rw[a]at b;injection b with b;omega
 ·go_in
  go_wp2_with (at_builtin;go_must (refine bP w rfl (.tmp 23) (.tmp 24) 48 rfl B 66 _ _ 2 16 underlying48 (info_parts gl.info).choose_spec.1 (info_parts gl.info).choose_spec.2.1 (info_parts gl.info).choose_spec.2.2.1 (info_parts gl.info).choose_spec.2.2.2 rfl zP (.slice A n c) n (smps l) rfl H.o.1 w.heap.size _ 1 1 x.cells rfl H.o.2.1 (by simp[Smp.cells,Value.oneCell']) zU zO hB ?_);intro i y d e a)
  go_ret;refine⟨i,rfl,?_,e,?_⟩
  ·rw[H.o.2.2.1,<-H.o.2.2.2];exact d
  ·rcases a with a|a
   ·exact .inl a
   ·refine .inr λk b=>?_;rw[a]at b;injection b with b;omega
def yP(l:List Smp)(x:Smp)(vb:Nat)(w:World)(cur:Array Value)(hcur:Blk w g 66 cur)(hBg:B<=g)(hsz:cur.size=c*2)(htk:cur.toList.take (n*2)=smps l)(hn:n=l.length)(hN:n<=1000)(hi:i<n)(hroom:n+1<=c)(hc:c<=maxLen)
  (hv:Blk w vb 66 #[I x.tick,I x.value])(hne:vb≠g):
  C 210 #[V g 0 n c,I i,V vb 0 1 1] w (qa B w (V g 0 n c) l i x):=by
 have q:∀z A,(callFunc 230 #[V vb 0 1 1,V g ((i+1)*2) z A]).run prog w=.ok (.value (.bool false)) w:=λz A=>by
  rw[run_callFunc_extern func230 zR zR zR (e:=Extern.SlicesOverlaps.overlaps #[48,48] #[4]) zR];rw[Lib.run_overlaps_apart w 48 4 66 underlying48 2 (by intro w;kernel_rfl) (Y vb 0) (Y g ((i+1)*2)) 1 1 z A hne 66 66 2 cur.size (by have:=hv;unfold Blk at this;simp[World.shape?,this]) (by have:=hcur;unfold Blk at this;simp[World.shape?,this]) zO (hv.frozen 0) (hv.frozen 2)];rfl
 have r:(prog.info? 66).map (·.size)=some 2:=zR;have s:(smps l).length=n*2:=by rw[dc,hn]
 have d:∀j,j<n*2->cur[j]?=(smps l)[j]?:=λj f=>by rw[<-htk,Pw f,PA]
 unfold maxLen at hc;have F:=Z1 q;have a:=Z7 hcur hsz htk s d hn r;have O:=Z1 hv;have U:¬((i:Int)=(n:Int)):=zO;have G:¬(c:Int)<(n:Int)+1:=zO;have X:¬c=i:=zO;have h4:¬c=i+1:=zO;have S:c<=9223372036854775807:=zO;clear hcur hsz htk hn q s d r hc hv
 go_in
 go_wp2_with (simp only[F.o])
 have w1:IntKind.i64.wrap ((i:Int)+1)=(i:Int)+1:=IntWalk.i64_in _ zO;have w2:(0:Int)<=(i:Int)+1:=zO;have w3:((i:Int)+1).toNat=i+1:=zO;have w4:(i:Int)+1<=(n:Int)+1:=zO;have w5:(i:Int)<=(n:Int)+1:=zO;have w6:¬c=i+1:=zO;have w7:((n:Int)+1).toNat=n+1:=zO;have w8:i<=n:=zO;refine zb 8 ?_;repeat still_step
 refine wpStill_nil ?_;have b:((smps l).drop (i*2)).length=(n-i)*2:=by rw[PW,a.o.2.2.2.1];omega
 refine ii rfl (.tmp 73) (.tmp 76) 48 48 rfl underlying48 a.o.2.2.2.2.2.2 g ((i+1)*2) (n-i) (c-(i+1)) (by simp[Act.eval,Act.put]) (Y g (i*2)) (n+1-i) (c-i) (by simp[Act.eval,Act.put]) a.o.1.drew ((smps l).drop (i*2)) (by rw[b];show _=min _ _*2;rw[Rt zO]) ?_ (by rw[b,a.o.2.1];omega) (λv hv=>jf l v (PN hv)) ?_
 ·intro j v f;have T:j<(n-i)*2:=by rw[<-b];exact(OZ.1 f).1
  rw[show((Y g (i*2)):Addr).add j=(Y g (i*2+j)) by unfold Addr.add;split<;>simp_all,a.o.1.drew.cell,a.o.2.2.2.2.1 _ zO,<-PM];exact f
 intro W hW D;have p:=Z4 hW D (D.B0 O.o.drew hne) b;clear hW D b
 go_wp2_with (refine ii rfl (.tmp 80) (.tmp 81) 48 48 rfl underlying48 a.o.2.2.2.2.2.2 g (i*2) (n+1-i) (c-i) (by simp[Act.eval,Act.put]) (Y vb 0) 1 1 (by simp[Act.eval,Act.put]) p.o.1 x.cells (by show 2=min _ _*2;rw[Qp zO]) (by
   intro j v f;rw[show((Y vb 0):Addr).add j=(Y vb j) by unfold Addr.add;split<;>simp_all,p.o.2.2.1.cell,<-PA];exact f) (by rw[bV,a.o.2.1];show _+2<=_;omega) (by simp[Smp.cells,Value.oneCell']) ?_;intro P t u;have y:=Z2 t u;clear t u)
 go_ret;have Q:w.grownBy P (V g 0 n c).ownBlock:=by
  have h:=p.o.2.1.trans y.o.2;exact⟨h.B7.os,h.B7.tape,h.B7.output,h.B7.size,λk R hne=>h.B7.block k R λe=>hne (by rw[e];rfl)⟩
 have H:=a.o.2.2.2.2.2.1;refine⟨V g 0 (n+1) c,rfl,?_,Q,.inl rfl⟩;have G:=y.o.1;have L:=fU cur ((i+1)*2) ((smps l).drop (i*2)) (by rw[p.o.2.2.2,a.o.2.1];omega);have N:=fU (bH cur ((i+1)*2) ((smps l).drop (i*2))) (i*2) x.cells (by rw[bV,a.o.2.1];show _+2<=_;omega);rw[<-H];refine lf hBg G zO zU (by rw[bV,bV,a.o.2.1]) ?_ (by rw[dc];unfold gm;simp;omega);rw[N,L,rf];have m:x.cells.length=2:=rfl;have:=Ia cur.toList (smps l) x.cells (cur.toList.drop ((i+1)*2+((smps l).drop (i*2)).length)) (i*2) ((i+1)*2) (n*2) (by rw[m];omega) a.o.2.2.2.1 a.o.2.2.1 zO (by simp;rw[a.o.2.1];omega);rw[m]at this;rw[show(n+1)*2=n*2+2 by omega,m,show i*2+2=(i+1)*2 by omega];exact this
def fp:(Builtin.zeroCells (Value.agg #[I 0,I 0]).cells k).size=k*2:=by
 simp[Builtin.zeroCells,Value.cells]
def yQ(l:List Smp)(x:Smp)(vb:Nat)(w:World)(cur:Array Value)(hcur:Blk w g 66 cur)(hsz:cur.size=n*2)(htk:cur.toList.take (n*2)=smps l)(hn:n=l.length)(hN:n<=1000)(hi:i<n)(hB:B<=w.heap.size)
  (hv:Blk w vb 66 #[I x.tick,I x.value]):
  C 210 #[V g 0 n n,I i,V vb 0 1 1] w (qa B w (V g 0 n n) l i x):=by
 have D:(prog.info? 66).map (·.size)=some 2:=zR;have r:(smps l).length=n*2:=by rw[dc,hn]
 have d:∀j,j<n*2->cur[j]?=(smps l)[j]?:=λj b=>by rw[<-htk,Pw b,PA]
 obtain⟨G,A⟩:∃G,G=grownCap w (n+1) n 66:=⟨_,rfl⟩;have ab:n+1<=G:=by rw[A];exact grownCap_ge w _ _ _
 have p:G<=maxLen:=by rw[A];exact grownCap_le_maxLen w (n+1) n _ zU
 obtain⟨a,e⟩:∃a:Array Value,a=((smps l).take (i*2)).toArray++Builtin.zeroCells (Value.agg #[I 0,I 0]).cells (n+1-i)++Builtin.zeroCells (Value.agg #[I 0,I 0]).cells (G-(n+1)):=⟨_,rfl⟩;have t:a.size=G*2:=by
  rw[e,Array.size_append,Array.size_append,fp,fp];simp[r];omega
 have u:a.toList.take (i*2)=(smps l).take (i*2):=by
  rw[e,Array.append_assoc,Array.toList_append];exact QG (by simp[r];omega)
 have F:∀T,(Builtin.append_ #[48,3] T #[V g 0 i n,I ((n:Int)+1-(i:Int))]).run prog w=.ok (V w.heap.size 0 (n+1) G) (w.drew.alloc (.cells a 66)):=λT=>by
  obtain⟨i0,ad,ae,af,H⟩:=info_parts gl.info;have U:(Builtin.firstCells i0.size i (V g 0 i n)).run prog w.drew=.ok ((smps l).take (i*2)).toArray w.drew:=by
   rw[af];exact run_firstCells_some w.drew 2 i (Y g 0) i n ((smps l).take (i*2)) (by rw[PG];omega) (λj v b=>by
    rw[QX]at b;split at b
    ·rw[show((Y g 0):Addr).add j=(Y g j) by unfold Addr.add;split<;>simp_all,hcur.drew.cell,d j zO];exact b
    ·cases b)
  have h:=Lib.run_append_grow_zeros w 48 3 T 66 i0 _ .i64 .i64 underlying48 underlying3 ad ae (some (Y g 0)) i n ((smps l).take (i*2)) U (n+1-i) zO zO zO zO (by rw[H];omega) (by rw[H,show i+(n+1-i)=n+1 by omega];exact growslice_fits zO zO);rw[show i+(n+1-i)=n+1 by omega,<-A,<-e]at h;rw[show(n:Int)+1-(i:Int)=((n+1-i:Nat):Int) by omega];exact h
 have HZ:=Z1 F;have q:=Z7 hcur hsz htk r d hn D;have f:=Z3 t u p;have HV:=Z1 hv;have am:=hcur.lt;have an:=hv.lt;have h1:¬((i:Int)=(n:Int)):=zO;have h2:(n:Int)<(n:Int)+1:=zO;have h3:¬n=i:=zO;have h4:¬G=i+1:=zO;have h5:¬G=i:=zO;unfold maxLen at p;have ao:G<=9223372036854775807:=zO;have ap:i<=n:=zO;clear hcur hsz htk hn F r d D hv e t u A p
 go_in
 go_wp2_with (first
  |(at_builtin;refine Lib.wpList_append_run _ rfl (.tmp 34) (.tmp 39) _ _ rfl _ _ rfl rfl _ _ (HZ.o _) ?_;have L:=Blk.A8 w.drew 66 a rfl;have N:Hid (Blk (w.drew.alloc (.cells a 66)) w.heap.size 66 a/\M w (w.drew.alloc (.cells a 66))):=Z1 ⟨L,(Oy w.heap.size w).drew.alloc (OA _) _⟩;clear L;have s:Blk (w.drew.alloc (.cells a 66)) g 66 cur:=q.o.1.drew.alloc _;have O:Blk (w.drew.alloc (.cells a 66)) vb 66 _:=HV.o.drew.alloc _;generalize w.drew.alloc (.cells a 66)=W1 at*;have H9:=Z2 s O;clear s O)
  |(refine ii rfl (.tmp 43) (.tmp 44) 48 48 rfl underlying48 q.o.2.2.2.2.2.2 w.heap.size (i*2) (n+1-i) (G-i) (by simp[Act.eval,Act.put]) (Y vb 0) 1 1 (by simp[Act.eval,Act.put]) N.o.1 x.cells (by show 2=min _ _*2;rw[Qp zO]) (by
   intro j v b;rw[show((Y vb 0):Addr).add j=(Y vb j) by unfold Addr.add;split<;>simp_all,H9.o.2.cell,<-PA];exact b) (by rw[f.o.1];show _+2<=_;omega) (by simp[Smp.cells,Value.oneCell']) ?_;intro W2 P y;have z:=Z3 P y (y.B0 H9.o.1 zO);clear P y))
 have w1:IntKind.i64.wrap ((i:Int)+1)=(i:Int)+1:=IntWalk.i64_in _ zO;have w2:(0:Int)<=(i:Int)+1:=zO;have w3:((i:Int)+1).toNat=i+1:=zO;have w4:(i:Int)+1<=(n:Int)+1:=zO;have w5:(i:Int)<=(n:Int):=zO;refine zb 8 ?_;repeat still_step
 refine wpStill_nil ?_;have m:((smps l).drop (i*2)).length=(n-i)*2:=by rw[PW,q.o.2.2.2.1];omega
 refine ii rfl (.tmp 50) (.tmp 53) 48 48 rfl underlying48 q.o.2.2.2.2.2.2 w.heap.size ((i+1)*2) (n-i) (G-(i+1)) (by simp[Act.eval,Act.put]) (Y g (i*2)) (n-i) (n-i) (by simp[Act.eval,Act.put]) z.o.1.drew ((smps l).drop (i*2)) (by rw[m];show _=min _ _*2;rw[Nat.min_self]) ?_ (by rw[m,bV,f.o.1];omega) (λv hv=>jf l v (PN hv)) ?_
 ·intro j v b;have aq:j<(n-i)*2:=by rw[<-m];exact(OZ.1 b).1
  rw[show((Y g (i*2)):Addr).add j=(Y g (i*2+j)) by unfold Addr.add;split<;>simp_all,z.o.2.2.drew.cell,q.o.2.2.2.2.1 _ zO,<-PM];exact b
 intro W3 Q R;have X:=Z3 Q R m;clear Q R m;go_wp2;go_ret;have c:=X.o.2.1.below (fd (z.o.2.1.below N.o.2 (OA _)) 1) (OA _);have ah:=q.o.2.2.2.2.2.1;refine⟨V w.heap.size 0 (n+1) G,rfl,?_,⟨c.os,c.tape,c.output,c.size,λk hk _=>c.block k hk⟩,.inr λk hk=>by
  have:w.heap.size=k:=by simpa[Value.ownBlock]using hk
  omega⟩
 have ai:=fU a (i*2) x.cells (by rw[f.o.1];show _+2<=_;omega);have aj:=fU (bH a (i*2) x.cells) ((i+1)*2) ((smps l).drop (i*2)) (by rw[X.o.2.2,bV,f.o.1];omega);rw[<-ah];refine lf hB X.o.1 ab f.o.2.2 (by rw[bV,bV,f.o.1]) ?_ (by rw[dc];unfold gm;simp;omega);rw[aj,ai,rf];have S:x.cells.length=2:=rfl;have:=DZ a.toList (smps l) x.cells (a.toList.drop (i*2+x.cells.length)) ((a.toList.take (i*2)++(x.cells++a.toList.drop (i*2+x.cells.length))).drop ((i+1)*2+((smps l).drop (i*2)).length)) (i*2) ((i+1)*2) (n*2) (by rw[S];omega) q.o.2.2.2.1 f.o.2.1 zO (by simp;rw[f.o.1];omega);rw[S]at this ⊢;rw[show(n+1)*2=n*2+2 by omega];exact this
def BZ(l:List Smp)(x:Smp)(vb:Nat)(w:World)(h:w.ownsRow B 66 2 v n (smps l))(hn:n=l.length)(hN:n<=1000)(hi:i<=n)(hB:B<=w.heap.size)
  (hv:Blk w vb 66 #[.int .i64 x.tick,.int .i64 x.value])(hne:v.ownBlock≠some vb):
  Calls prog 210 #[v,.int .i64 i,.slice (some ⟨vb,0,none⟩) 1 1] w (qa B w v l i x):=by
 by_cases k:i=n
 ·subst k;obtain⟨A,c,rfl,_,_⟩:=ak h;rw[hn]at h ⊢;exact BY B A c _ l x vb w h rfl (by omega) hB hv
 ·obtain⟨g,a,b,rfl,m,d,q,o,f,j⟩:=fj h (by omega);by_cases p:n+1<=a
  ·exact yP B g a n i l x vb w b d m f j hn hN (by omega) p o hv (λe=>hne (by rw[e];rfl))
  ·obtain rfl:a=n:=by omega
   exact yQ B g a i l x vb w b d f j hn hN (by omega) hB hv
def Ib(cur xs Z:List Value)(a n:Nat)(hxl:xs.length=n)(ht:cur.take n=xs)(ha:a<=n)(hz:n<=cur.length)(b:Nat)(hb:b=n-a):
  ((((xs.drop a)++cur.drop b).take b)++Z).take b=xs.drop a:=by
 have c:((xs.drop a)++cur.drop b).take b=xs.drop a:=QG zT;rw[c];exact QG zT
def tF(B:Nat)(w:World)(v:Value)(l:List Smp)(j:Nat)(e:Ending)(w':World):Prop:=
 ∃v',e=.returned v'/\w'.ownsRow B 66 2 v' (l.length-j) (smps (l.drop j))/\w.grownBy w' v.ownBlock/\v'.ownBlock=v.ownBlock
def tG:(zeroValue 66).run prog w=.ok (.agg #[I 0,I 0]) w:=zR
def nf:∀v∈(Builtin.zeroCells (Value.agg #[I 0,I 0]).cells k).toList,v.oneCell'=true:=by
 intro v a;simp[Builtin.zeroCells,Value.cells]at a;obtain⟨j,_,rfl⟩:=a;have:j%2=0\/j%2=1:=zO
 rcases this with h|h<;>rw[h]<;>rfl
def yR(l:List Smp)(w:World)(h:w.ownsRow B 66 2 (.slice A n c) n (smps l))(hn:n=l.length)(hN:n<=1000):
  C 211 #[.slice A n c,I (0:Nat),I (0:Nat)] w (tF B w (.slice A n c) l 0):=by
 have d:n<=c/\c<=maxLen:=by
  obtain⟨k,m,b,e,f⟩:=ak h;injection b with _ _ b;subst b;exact⟨e,f⟩
 obtain⟨i,a⟩:=d;unfold maxLen at a;have j:c<=9223372036854775807:=zO;have H:=Z2 h hn;clear h hn a;by_cases g:c=0
 ·subst g
  go_in
  go_wp2;go_ret;exact⟨_,rfl,by have:=H.o.1;rw[<-H.o.2];simpa using this,Si w _,rfl⟩
 ·go_in
  go_wp2;go_ret;exact⟨_,rfl,by have:=H.o.1;rw[<-H.o.2];simpa using this,Si w _,rfl⟩
def yS(l:List Smp)(w:World)(cur:Array Value)(hcur:Blk w g 66 cur)(hBg:B<=g)(hsz:cur.size=c*2)(htk:cur.toList.take (n*2)=smps l)(hn:n=l.length)(hN:n<=1000)(hj:0<j)(hjn:j<=n)(hnc:n<=c)(hc:c<=maxLen):
  C 211 #[V g 0 n c,I (0:Nat),I j] w (tF B w (V g 0 n c) l j):=by
 have u:(prog.info? 66).map (·.size)=some 2:=zR;have x:(smps l).length=n*2:=by rw[dc,hn]
 have q:∀k,k<n*2->cur[k]?=(smps l)[k]?:=λk f=>by rw[<-htk,Pw f,PA]
 unfold maxLen at hc;have H:c<=9223372036854775807:=zO;have a:=Z7 hcur hsz htk x q hn u;have L:¬((j:Int)=0):=zO;have N:((j:Int)==0)=false:=zT;have O:((0:Int)==(j:Int))=false:=zT;have P:¬c=0:=zO;clear hcur hsz htk hn x q u hc;by_cases y:c=j
 ·subst y;obtain rfl:n=c:=zO
  go_in
  go_wp2;refine zb 6 ?_;repeat still_step
  refine wpStill_nil ?_;have d:((smps l).drop (n*2))=[]:=Pt (by rw[a.o.2.2.2.1];omega);refine kZ rfl (.tmp 22) (.tmp 25) 48 rfl underlying48 a.o.2.2.2.2.2.2 g 0 0 n (by simp[Act.eval,Act.put]) (Y g 0) 0 0 (by simp[Act.eval,Act.put]) a.o.1.drew [] zS zS zO zS zS ?_;intro W hW r;have p:=Z2 hW r;clear hW r
  go_wp2_with (refine jd rfl (.tmp 31) 48 rfl underlying48 (.agg #[I 0,I 0]) tG g 0 n n hj (by simp[Act.eval,Act.put]) p.o.1 (by rw[bV,fp,a.o.2.1];omega) (nf _) ?_;intro F h i;have m:=Z2 h i;clear h i)
  go_ret;have b:=p.o.2.trans m.o.2;refine⟨V g 0 0 n,rfl,?_,⟨b.B7.os,b.B7.tape,b.B7.output,b.B7.size,λk f s=>b.B7.block k f λe=>s (by rw[e];rfl)⟩,rfl⟩;have t:=a.o.2.2.2.2.2.1;rw[<-t,QY,Pt zO];exact lf hBg m.o.1 zO zU (by rw[bV,bV,a.o.2.1]) (by simp[smps]) (by simp[smps])
 ·go_in
  go_wp2;refine zb 6 ?_;repeat still_step
  refine wpStill_nil ?_;have d:((smps l).drop (j*2)).length=(n-j)*2:=by rw[PW,a.o.2.2.2.1];omega
  refine kZ rfl (.tmp 22) (.tmp 25) 48 rfl underlying48 a.o.2.2.2.2.2.2 g 0 0 c (by simp[Act.eval,Act.put]) (Y g (j*2)) (n-j) (c-j) (by simp[Act.eval,Act.put]) a.o.1.drew ((smps l).drop (j*2)) d ?_ zO (by rw[d,a.o.2.1];omega) (λv G=>jf l v (PN G)) ?_
  ·intro k v f;have Q:k<(n-j)*2:=by rw[<-d];exact(OZ.1 f).1
   rw[show((Y g (j*2)):Addr).add k=(Y g (j*2+k)) by unfold Addr.add;split<;>simp_all,a.o.1.drew.cell,a.o.2.2.2.2.1 _ zO,<-PM];exact f
  intro W hW r;have p:=Z3 hW r d;clear hW r d;have R:¬c=n-j:=zO;have S:n-j<=n:=zO;have z:n-(n-j)=j:=zO;have T:((n-j:Nat):Int)<=(n:Int):=zO
  go_wp2_with (refine jd rfl (.tmp 31) 48 rfl underlying48 (.agg #[I 0,I 0]) tG g ((n-j)*2) j (c-(n-j)) hj (by simp[Act.eval,Act.put,z]) p.o.1 (by rw[bV,fp,a.o.2.1];omega) (nf _) ?_;intro F h i;have m:=Z2 h i;clear h i)
  go_ret;have b:=p.o.2.1.trans m.o.2;refine⟨V g 0 (n-j) c,zS,?_,⟨b.B7.os,b.B7.tape,b.B7.output,b.B7.size,λk f s=>b.B7.block k f λe=>s (by rw[e];rfl)⟩,rfl⟩;have t:=a.o.2.2.2.2.2.1;rw[<-t];have A:=fU cur 0 ((smps l).drop (j*2)) (by rw[p.o.2.2,a.o.2.1];omega);have D:=m.o.1;rw[Rz,PS]at D;refine lf hBg D zO zU (by rw[bV,bV,a.o.2.1]) ?_ (by rw[dc];simp;omega);rw[fU _ ((n-j)*2) _ (by rw[bV,a.o.2.1,QQ,fp];omega),A,uq];simp only[OO,QA,PS];rw[p.o.2.2];exact Ib cur.toList (smps l) _ (j*2) (n*2) a.o.2.2.2.1 a.o.2.2.1 zO (by simp;rw[a.o.2.1];omega) ((n-j)*2) zO
def sj(v:Value)(l:List Smp)(w:World)(h:w.ownsRow B 66 2 v n (smps l))(hn:n=l.length)(hN:n<=1000)(hj:j<=n):
  C 211 #[v,I (0:Nat),I j] w (tF B w v l j):=by
 by_cases d:j=0
 ·subst d;obtain⟨A,c,rfl,_,_⟩:=ak h;exact yR B A c n l w h hn hN
 ·obtain⟨g,a,b,rfl,e,f,i,k,m,o⟩:=fj h zO;exact yS B g a n j l w b f e m o hn hN zO hj i k
def ea(l:List Smp):Prop:=l.Pairwise λa b=>a.tick<b.tick
def placeF(l:List Smp)(t:Int):Nat:=(l.takeWhile λs=>decide (s.tick<t)).length
def ur:placeF l t<=l.length:=by
 unfold placeF;exact List.Sublist.length_le (List.takeWhile_sublist _)
def rh{α:Type}(p:α->Bool)(l:List α):∀(k:Nat),k<=l.length->(∀(i:Nat) (h:i<l.length),i<k->p l[i]=true)->(∀h:k<l.length,p l[k]=false)->(l.takeWhile p).length=k:=by
 induction l with
 |nil=>intro k a _ _;simp at a ⊢;omega
 |cons x r ih=>
  intro k a b c
  cases k with
  |zero=>
   have:=c zS;simp at this;simp[this]
  |succ k=>
   have d:=b 0 zS zO;simp at d;rw[RZ,d];simp only[if_true,OC];rw[ih k (by simpa using a) (λi h e=>by have:=b (i+1) zT zO;simpa using this) λh=>by have:=c zT;simpa using this]
def Ea(hk:k<=l.length)(h1:∀(i:Nat) (h:i<l.length),i<k->l[i].tick<t)(h2:∀h:k<l.length,t<=l[k].tick):placeF l t=k:=
 rh _ l k hk (λi h a=>by simpa using h1 i h a) (λh=>by simpa using h2 h)
def Bj(p:Nat->Bool)(n k:Nat):Prop:=k<=n/\(∀i,i<k->p i=false)/\(∀i,k<=i->i<n->p i=true)
section
open Go.Shelf
def Ca(cb:Array Value)(n:Nat)(p:Nat->Bool)(w:World)(eg:∀args w,(callFunc g args).run prog w=.ok (.enter g args) w)(hn:n<=1000)
  (hf:∀(W:World) (i:Nat),i<n->M w W->C g (#[I i]++cb) W (J (.bool (p i)) W))(hmono:∀a b,a<=b->b<n->p a=true->p b=true):
  C 228 #[I n,.func (.func g) #[] cb] w λe w'=>∃k:Nat,e=.returned (I k)/\Bj p n k/\M w w':=by
 have u:=Z1 hf;have q:=Z1 hmono;clear hf hmono
 go_in
 go_wp2;go_loopw [5,6] (λa b wr=>∃(i j:Nat),i<=j/\j<=n/\a=I i/\b=I j/\Hid ((∀t,t<i->p t=false)/\(∀t,j<=t->t<n->p t=true)/\M w wr)) (λa b _=>(intOf b).toNat - (intOf a).toNat)
 case atStart=>exact⟨0,n,OK _,OA _,rfl,rfl,Z1 ⟨λt h=>zO,λt r s=>zO,Oy _ _⟩⟩
 case round=>
  obtain⟨i,j,y,f,rfl,rfl,c⟩:=hrel;by_cases z:i<j
  ·obtain⟨h,v⟩:∃h:Nat,h=(i+j)/2:=⟨_,rfl⟩;have D:((i:Int)+(j:Int))/2=(h:Int):=zO;have A:i<=h:=zO;have B:h<j:=zO;have d:=Z1 (u.o wr h zO c.o.2.2);clear v
   cases hp:p h with
   |true=>
    rw[hp]at d;have l:=Z1 hp;clear hp;go_wp2_with fail;refine zm d.o λx m=>?_;go_wp2;go_roundw
    case rel=>exact⟨i,h,zO,zO,rfl,rfl,Z1 ⟨c.o.1,λt r s=>q.o h t r s l.o,af c.o.2.2 m⟩⟩
    case measure=>simp[intOf];omega
   |false=>
    rw[hp]at d;have l:=Z1 hp;clear hp;go_wp2_with fail;refine zm d.o λx m=>?_;go_wp2;go_roundw
    case rel=>
     refine⟨h+1,j,zO,f,by go_num,rfl,Z1 ⟨λt F=>?_,c.o.2.1,af c.o.2.2 m⟩⟩
     cases hq:p t with
     |false=>rfl
     |true=>exact absurd (q.o t h zO zO hq) (by rw[l.o];decide)
    case measure=>simp[intOf];omega
  ·obtain rfl:i=j:=zO;go_wp2;go_ret;exact⟨i,rfl,⟨f,c.o.1,c.o.2.1⟩,c.o.2.2⟩
structure eC(w:World)(b:Nat)(sl:Value)(l:List Smp)(room:Nat):Prop where
 B0:Blk w b 278 #[sl,I room]
 own:w.ownsRow 0 66 2 sl l.length (smps l)
def eC.up{w w':World}{b:Nat}{sl:Value}{l:List Smp}{room:Nat}(h:eC w b sl l room)(hb:M w w'):eC w' b sl l room:=⟨h.B0.later hb,aN h.own hb⟩
def Cb(l:List Smp)(room:Nat)(t:Int)(B1 B2 i:Nat)(W:World)(h:eC W b sl l room)(h1:Blk W B1 235 #[Z b 0])(h2:Blk W B2 2 #[I t])(hi:i<l.length)(hn:l.length<=1000):
  C 229 (#[I i]++#[Z B1 0,Z B2 0]) W λe w'=>e=.returned (.bool (decide (t<=(l.getD i ⟨0,0⟩).tick)))/\M W w':=by
 obtain⟨A,c,rfl,a,_⟩:=ak h.own;have d:=an.C4 h.own;obtain⟨m,o,rfl,_,f,k⟩:=il d hi;have g:l.getD i ⟨0,0⟩=l[i]:=by simp[List.getD,hi]
 rw[g];generalize l[i].tick=y at*;have j:=(ao h.B0).1;have p:=h1.cell 0;have q:=h2.cell 0;clear h h1 h2 d g k
 revert hi hn a f j
 generalize l.length=n;intro hi hn a f j
 go_in
 go_wp2;refine cM zR zR ?_;repeat still_step
 refine wpStill_nil ?_;go_wp2;go_ret;exact⟨rfl,fd (Oy _ _) 1⟩
def nY(l:List Smp)(room:Nat)(t:Int)(w:World)(h:eC w b sl l room)(hs:ea l)(hn:l.length<=1000):
  C 209 #[Z b 0,I t] w (J (I (placeF l t)) w):=by
 have D:=Z1 h;have q:=(Blk.A8 w 235 #[Z b 0] rfl).alloc (.cells #[I t] 2);have r:=Blk.A8 (w.alloc (.cells #[Z b 0] 235)) 2 #[I t] (g:=w.heap.size+1) zS;have f:M w ((w.alloc (.cells #[Z b 0] 235)).alloc (.cells #[I t] 2)):=ae (ae (Oy _ _) _) _;have j:=Z3 f q r;have H:=(ao (h.up f).B0).1;obtain⟨A,c,rfl,_,_⟩:=ak h.own;have F:Hid (∀W k,M w W->Bj (λi=>decide (t<=(l.getD i ⟨0,0⟩).tick)) l.length k->placeF l t=k):=Z1 (λW k _ m=>Ea l t k m.1 (λi p s=>by
   have:=m.2.1 i s;simp[List.getD,p]at this;exact this) (λu=>by
   have:=m.2.2 k (OA _) u;simp[List.getD,u]at this;exact this))
 have d:∀a b,a<=b->b<l.length->decide (t<=(l.getD a ⟨0,0⟩).tick)=true->decide (t<=(l.getD b ⟨0,0⟩).tick)=true:=by
  intro a b v f h;have x:a<l.length:=zO;simp[List.getD,x,f]at h ⊢
  rcases Ri v with rfl|y
  ·exact h
  ·have:=Qq.1 hs a b x f y;omega
 have z:=Z1 (Ca 229 #[Z w.heap.size 0,Z (w.heap.size+1) 0] l.length (λi=>decide (t<=(l.getD i ⟨0,0⟩).tick)) _ (enters_of func229 zR rfl) hn
  (λW i p hW=>Cb b _ l room t w.heap.size (w.heap.size+1) i W ((D.o.up j.o.1).up hW) (j.o.2.1.later hW) (j.o.2.2.later hW) p hn) d)
 clear f q r h hs d;generalize l.length=n at*
 go_in
 go_wp2_with (go_at_call 228;(refine z.o.mono ?_);rintro e L ⟨k,rfl,G,B⟩)
 go_ret;exact⟨aC (by rw[F.o w k (Oy _ _) G]),af j.o.1 B⟩
end
def fV(room:Nat)(l:List Smp)(x:Smp):List Smp:=
 if placeF l x.tick<l.length/\(l.getD (placeF l x.tick) ⟨0,0⟩).tick=x.tick then l.set (placeF l x.tick) x
 else if room<l.length+1 then(gm l (placeF l x.tick) x).drop 1 else gm l (placeF l x.tick) x
def yT(h:i<=l.length):(gm l i x).length=l.length+1:=by unfold gm;simp;omega
def Ic(x:Smp)(h:k<l.length):smps (l.set k x)=((smps l).set (k*2) (I x.tick)).set (k*2+1) (I x.value):=by
 induction l generalizing k with
 |nil=>simp at h
 |cons y r ih=>
  cases k with
  |zero=>rfl
  |succ k=>
   have:=ih k (by simpa using h);show y.cells++smps (r.set k x)=((y.cells++smps r).set ((k+1)*2) _).set ((k+1)*2+1) _;rw[this,show(k+1)*2=k*2+2 by omega];rfl
def bG(t v:Int):Int:=if t<0 then 3 else if v<0 then 4 else 0
def ri{w:World}{B:Nat}{e:TypeId}{n k:Nat}{A:Option Addr}{c:Nat}{l:List Smp}(h:w.ownsRow B e 2 (.slice A n c) n (smps l))(hn:n=l.length)(hk:k<n):
  ∃g,A=some (Y g 0)/\g<w.heap.size/\w.cell? (Y g (k*2))=some (I (l[k]'(by omega)).tick)/\w.cell? (Y g (k*2+1))=some (I (l[k]'(by omega)).value)/\w.frozen? (Y g (k*2))=false/\w.frozen? (Y g (k*2+1))=false/\
   ∀x:Smp,((w.setCell (Y g (k*2)) (I x.tick)).setCell (Y g (k*2+1)) (I x.value)).ownsRow B e 2 (.slice A n c) n (smps (l.set k x)):=by
 obtain⟨g,z,D,j,m,a,p,q,r,s⟩:=fj h zO;injection j with t _ u;subst t u;obtain⟨b,o,d,_,f,i⟩:=il (k:=k) (an.C4 h) zO;injection d with d;injection d with v y;subst v y;rw[PS]at f i;refine⟨g,rfl,a.lt,f,i,a.frozen _,a.frozen _,λx=>lf m ((a.B4 (k*2) _).B4 (k*2+1) _) p q (by simpa using r) ?_ (by rw[dc];simp;omega)⟩;rw[Ic l k x zO,<-s];simp only[Ru];rw[List.take_set,List.take_set]
def iC(v:Int)(w:World):C 139 #[I t,I v] w λe w'=>e=.returned (I (bG t v))/\w=w':=by
 by_cases b:t<0
 ·have a:Hid (bG t v=3):=Z1 (OB b)
  go_in
  go_wp2;go_ret;exact⟨aC a.o.symm,rfl⟩
 ·by_cases c:v<0
  ·have a:Hid (bG t v=4):=Z1 (by unfold bG;rw[Oz b,OB c])
   go_in
   go_wp2;go_ret;exact⟨aC a.o.symm,rfl⟩
  ·have a:Hid (bG t v=0):=Z1 (by unfold bG;rw[Oz b,Oz c])
   go_in
   go_wp2;go_ret;exact⟨aC a.o.symm,rfl⟩
def tH(w:World)(b:Nat)(sl:Value)(l:List Smp)(room:Nat)(x:Smp)(e:Ending)(w':World):Prop:=
 e=.returned (I 0)/\∃sl',eC w' b sl' (fV room l x) room/\ag (λj=>j=b\/sl.ownBlock=some j) w w'/\(sl'.ownBlock=sl.ownBlock\/∀k,sl'.ownBlock=some k->w.heap.size<=k)
def Eb(l:List Smp)(room:Nat)(x:Smp)(w:World)(h:eC w b sl l room)(hs:ea l)(hn:l.length<=1000)(hroom:1<=room)(hx0:0<=x.tick)(hx1:0<=x.value)(hin:placeF l x.tick<l.length)(heq:(l.getD (placeF l x.tick) ⟨0,0⟩).tick=x.tick):
  C 191 #[Z b 0,I x.tick,I x.value] w (tH w b sl l room x):=by
 have L:=Z1 (λW=>iC x.tick x.value W);rw[show bG x.tick x.value=0 by unfold bG;rw[Oz zO,Oz zO]]at L;have HP:=Z1 (λW (hW:eC W b sl l room)=>nY b sl l room x.tick W hW hs hn);have HX:Hid (fV room l x=l.set (placeF l x.tick) x):=Z1 (OB ⟨hin,heq⟩);have N:l.getD (placeF l x.tick) ⟨0,0⟩=l[placeF l x.tick]:=by simp[List.getD,hin]
 rw[N]at heq;generalize placeF l x.tick=k at*;have u:∀j,sl.ownBlock=some j->j≠b:=λj hj e=>by subst e;exact aB h.own h.B0 zP hj
 obtain⟨A,c,rfl,ar,v⟩:=ak h.own;obtain⟨g,rfl,y,F,O,f0,f1,a⟩:=ri h.own rfl hin;have ah:=Z1 a;have z:g≠b:=u g rfl;have H:=Z1 h;obtain⟨P,Q⟩:=ao h.B0;obtain⟨q,r⟩:=x;simp only at*;rw[heq]at F;have au:((room:Int)==0)=false:=zT;have B:=h.B0.lt;unfold maxLen at v;have HL:=Z1 hin;clear a hs hroom heq N u h v;generalize l[k].value=yv at*;clear hin;generalize f:l.length=n at*;have s:=Z1 f;clear f;have R:k<n:=HL.o
 go_in
 go_wp2_with (first|(go_at_call 139;refine(L.o _).mono ?_;rintro e G ⟨rfl,rfl⟩)|(go_at_call 209;refine(HP.o _ H.o).mono ?_;rintro e G ⟨rfl,S⟩;have d:=Z1 (ae S (.cells #[I q,I r] 66));have e0:=(OF d.o (p:=Y b 0) B).trans P;have e1:=(OF d.o (p:=Y b 1) B).trans Q;have e2:=(OF d.o (p:=Y g (k*2)) y).trans F;have e3:=(OF d.o (p:=Y g (k*2+1)) y).trans O))
 have m:=H.o.up d.o;have D:=Blk.A8 G 66 #[I q,I r] rfl;have T:=Z1 d.o;generalize G.alloc (.cells #[I q,I r] 66)=W at*;have t:W.ownsRow 0 66 2 (V g 0 n c) n (smps l):=by have:=m.own;rwa [s.o]at this
 obtain⟨g',i,av,i0,i1,i2,i3,a⟩:=ri t s.o.symm R;injection i with i;injection i with i _;subst i;obtain⟨d0,d1⟩:=ao D;obtain⟨q0,q1⟩:=ao m.B0;have U:=Z2 m (a ⟨q,r⟩);clear m a D P Q F O e0 e1 e2 e3 f0 f1 t;generalize (l[k]'(by have:=s.o;omega)).tick=y0 at i0;generalize (l[k]'(by have:=s.o;omega)).value=y1 at i1;refine zb 7 ?_;repeat still_step
 refine wpStill_nil ?_;go_wp2;go_ret;have X:=U.o.2;have f:(l.set k ⟨q,r⟩).length=n:=by rw[PI];exact s.o
 refine⟨rfl,V g 0 n c,?_,(((ag.B5 T.o).drew.setCell (.inl (.inr rfl)) _).setCell (.inl (.inr rfl)) _),.inl rfl⟩;rw[HX.o];refine⟨?_,?_⟩
 ·exact((U.o.1.B0.drew.D1 (p:=Y g (k*2)) (Pc z) _).D1 (p:=Y g (k*2+1)) (Pc z) _)
 ·rw[f];exact X.drew
def Ep{l:List Int}(h:l≠[])(x:Int):gD (l++[x])=if x<gD l then x else gD l:=by
 cases l with
 |nil=>exact absurd rfl h
 |cons y r=>
  show(r++[x]).foldl min y=_;rw[Qe];show min (r.foldl min y) x=if x<r.foldl min y then x else r.foldl min y
  split<;>omega
def Er{l:List Int}(h:l≠[])(x:Int):gE (l++[x])=if gE l<x then x else gE l:=by
 cases l with
 |nil=>exact absurd rfl h
 |cons y r=>
  show(r++[x]).foldl max y=_;rw[Qe];show max (r.foldl max y) x=if r.foldl max y<x then x else r.foldl max y
  split<;>omega
def It(l:List Int)(A:Option Addr)(c n:Nat)(w:World)(hr:an w w.heap.size 1 A n (i64s l))(hn:n<=100000)(h0:0<n):
  C 162 #[.slice A n c] w λe w'=>e=.returned (I (gD l))/\w=w':=by
 have j:Hid (n=l.length):=Z1 (by have:=hr.len;rwa [iW]at this);have d:0<l.length:=by have:=j.o;omega
 obtain⟨b,o,rfl,B,a⟩:=hr.J6 (k:=0) zP h0;have D:w.cell? (Y b o)=some (I l[0]):=by simpa using a 0 _ (by simp[i64s,d])
 have u:=Z1 a;clear a;have p:Hid (gD (l.take 1)=l[0]):=Z1 (by rw[List.take_one];cases l with|nil=>simp at d|cons y r=>rfl);generalize l[0]=H at*;have L:¬(n:Int)<1:=zO
 go_in
 go_wp2;go_loopw [3,4] (λv i wr=>∃(k:Nat),1<=k/\k<=n/\i=I k/\w=wr/\v=I (gD (l.take k))) (λ_ i _=>n-(intOf i).toNat)
 case atStart=>exact⟨1,OA _,h0,rfl,rfl,by rw[p.o]⟩
 case round=>
  obtain⟨k,F,N,rfl,rfl,rfl⟩:=hrel;by_cases G:k<n
  ·have g:k<l.length:=by have:=j.o;omega
   have O:w.cell? (Y b (o+k))=some (I l[k]):=u.o k _ (by simp[i64s,g]);have q:=OG g;generalize l[k]=x at*;have h:l.take k≠[]:=by intro e;have:=congrArg List.length e;rw[PG,OE]at this;omega
   have s:Hid (gD (l.take (k+1))=if x<gD (l.take k)then x else gD (l.take k)):=Z1 (by rw[q,Ep h]);clear q h;generalize gD (l.take k)=m at*;by_cases t:x<m
   ·have f:Hid (gD (l.take (k+1))=x):=Z1 (by rw[s.o,OB t]);go_wp2;go_roundw
    case rel=>exact⟨k+1,zO,zO,by go_num,trivial,by rw[f.o]<;>simp<;>omega⟩
    case measure=>simp[intOf];omega
   ·have f:Hid (gD (l.take (k+1))=m):=Z1 (by rw[s.o,Oz t]);go_wp2;go_roundw
    case rel=>exact⟨k+1,zO,zO,by go_num,trivial,by rw[f.o]<;>simp<;>omega⟩
    case measure=>simp[intOf];omega
  ·obtain rfl:k=n:=zO;have z:Hid (gD (l.take k)=gD l):=Z1 (by rw[OT (by have:=j.o;omega)]);go_wp2;go_ret;exact⟨aC z.o,rfl⟩
def Iu(l:List Int)(A:Option Addr)(c n:Nat)(w:World)(hr:an w w.heap.size 1 A n (i64s l))(hn:n<=100000)(h0:0<n):
  C 163 #[.slice A n c] w λe w'=>e=.returned (I (gE l))/\w=w':=by
 have j:Hid (n=l.length):=Z1 (by have:=hr.len;rwa [iW]at this);have d:0<l.length:=by have:=j.o;omega
 obtain⟨b,o,rfl,B,a⟩:=hr.J6 (k:=0) zP h0;have D:w.cell? (Y b o)=some (I l[0]):=by simpa using a 0 _ (by simp[i64s,d])
 have u:=Z1 a;clear a;have p:Hid (gE (l.take 1)=l[0]):=Z1 (by rw[List.take_one];cases l with|nil=>simp at d|cons y r=>rfl);generalize l[0]=H at*;have L:¬(n:Int)<1:=zO
 go_in
 go_wp2;go_loopw [3,4] (λv i wr=>∃(k:Nat),1<=k/\k<=n/\i=I k/\w=wr/\v=I (gE (l.take k))) (λ_ i _=>n-(intOf i).toNat)
 case atStart=>exact⟨1,OA _,h0,rfl,rfl,by rw[p.o]⟩
 case round=>
  obtain⟨k,F,N,rfl,rfl,rfl⟩:=hrel;by_cases G:k<n
  ·have g:k<l.length:=by have:=j.o;omega
   have O:w.cell? (Y b (o+k))=some (I l[k]):=u.o k _ (by simp[i64s,g]);have q:=OG g;generalize l[k]=x at*;have h:l.take k≠[]:=by intro e;have:=congrArg List.length e;rw[PG,OE]at this;omega
   have s:Hid (gE (l.take (k+1))=if gE (l.take k)<x then x else gE (l.take k)):=Z1 (by rw[q,Er h]);clear q h;generalize gE (l.take k)=m at*;by_cases t:m<x
   ·have f:Hid (gE (l.take (k+1))=x):=Z1 (by rw[s.o,OB t]);go_wp2;go_roundw
    case rel=>exact⟨k+1,zO,zO,by go_num,trivial,by rw[f.o]<;>simp<;>omega⟩
    case measure=>simp[intOf];omega
   ·have f:Hid (gE (l.take (k+1))=m):=Z1 (by rw[s.o,Oz t]);go_wp2;go_roundw
    case rel=>exact⟨k+1,zO,zO,by go_num,trivial,by rw[f.o]<;>simp<;>omega⟩
    case measure=>simp[intOf];omega
  ·obtain rfl:k=n:=zO;have z:Hid (gE (l.take k)=gE l):=Z1 (by rw[OT (by have:=j.o;omega)]);go_wp2;go_ret;exact⟨aC z.o,rfl⟩
def Es(b:Int)(w:World)(ha:aq a)(hb:aq b):
  C 127 #[I a,I b] w λe w'=>e=.returned (I (fromF a b))/\w=w':=by
 have c:=Z1 (λW=>Bf a b W ha hb);have d:=Z1 (λW=>ke (sat (a-b)) 1 W (wB _) (by unfold aq;decide));have f:Hid (fromF a b=sat (sat (a-b)+1)):=Z1 rfl
 go_in
 go_wp2_with (first|(go_at_call 166;refine(c.o _).mono ?_;rintro e g ⟨rfl,rfl⟩)|(go_at_call 165;refine(d.o _).mono ?_;rintro e g ⟨rfl,rfl⟩))
 go_ret;exact⟨aC f.o.symm,rfl⟩
def lK:cU prog 75 5:=⟨zR,zR,zR⟩
def eO{w:World}{g:Nat}{t:TypeId}{a b c d e:Value}(h:Blk w g t #[a,b,c,d,e]):(w.cell? (Y g 0)=some a/\w.cell? (Y g 1)=some b/\w.cell? (Y g 2)=some c/\w.cell? (Y g 3)=some d/\w.cell? (Y g 4)=some e)/\
  (w.frozen? (Y g 0)=false/\w.frozen? (Y g 1)=false/\w.frozen? (Y g 2)=false/\w.frozen? (Y g 3)=false/\w.frozen? (Y g 4)=false):=
 ⟨⟨h.cell 0,h.cell 1,h.cell 2,h.cell 3,h.cell 4⟩,h.frozen 0,h.frozen 1,h.frozen 2,h.frozen 3,h.frozen 4⟩
def km{w:World}{g:Nat}{t:TypeId}{a b c d e:Value}(h:Blk w g t #[a,b,c,d,e])(v0 v1 v2 v3 v4:Value):
  Blk (((((w.setCell (Y g 0) v0).setCell (Y g 1) v1).setCell (Y g 2) v2).setCell (Y g 3) v3).setCell (Y g 4) v4) g t #[v0,v1,v2,v3,v4]/\aI g w (((((w.setCell (Y g 0) v0).setCell (Y g 1) v1).setCell (Y g 2) v2).setCell (Y g 3) v3).setCell (Y g 4) v4):=
 ⟨by have f:=((((h.B4 0 v0).B4 1 v1).B4 2 v2).B4 3 v3).B4 4 v4;simpa using f,((((aI.B4 g w 0 v0).trans (aI.B4 g _ 1 v1)).trans (aI.B4 g _ 2 v2)).trans (aI.B4 g _ 3 v3)).trans (aI.B4 g _ 4 v4)⟩
def Lz(hr:an w w.heap.size 2 A n (smps l))(hn:n<=100000)(hl:fo l):
  C 125 #[.slice A n c] w λe w'=>e=.returned (ofF l).val/\M w w':=by
 have i:=iB hr;have O:=Z1 (λW (hr:an W W.heap.size 2 A n (smps l))=>yO l A c n W hr hn hl);have t:=Z1 (nX hl);have P:=Z1 (hr.up (zh w (.cells #[I 0,I 0,I 0,I 0,I 0] 75)));have Q:=Blk.A8 w 75 #[I 0,I 0,I 0,I 0,I 0] rfl;have R:=Z1 Q;clear Q hr;by_cases q:n=0
 ·have u:Hid (ofF l=.zero):=Z1 (by unfold ofF;rw[OB (OU zO)]);have S:((n:Int)==0)=true:=by rw[q];rfl
  clear i q
  go_in
  go_wp2_with (first|(go_at_call 160;refine(O.o _ P.o).mono ?_;rintro e r ⟨v,rfl,d⟩;obtain⟨a,b,rfl,_,_,f⟩:=d.form;have h:=Z2 (R.o.later d.below) d;have g:=Z1 f;obtain⟨⟨x,y,z,B,D⟩,F,G,H,L,N⟩:=eO h.o.1;clear d f))
  rw[u.o];obtain⟨j,k⟩:=km h.o.1 (I 0) (I 0) (I 0) (I 0) (I 0);exact OH (au lK rfl j rfl _ rfl) rfl ⟨rfl,k.below (af (ae (Oy _ _) _) h.o.2.below) (OA _)⟩
 ·have u:Hid (ofF l=⟨(n:Int),je (dQ l),gD (dQ l),gE (dQ l),jC (dQ l)⟩):=Z1 (by unfold ofF;rw[Oz (λe=>q (by rw[i,e];rfl)),i]);have S:((n:Int)==0)=false:=zT;have s:Hid (∀a b W,an W W.heap.size 1 a n (i64s (dQ l))->(C 161 #[.slice a n b] W λe w'=>e=.returned (I (je (dQ l)))/\W=w')/\(C 162 #[.slice a n b] W λe w'=>e=.returned (I (gD (dQ l)))/\W=w')/\
    (C 163 #[.slice a n b] W λe w'=>e=.returned (I (gE (dQ l)))/\W=w')/\(C 164 #[.slice a n b] W λe w'=>e=.returned (I (jC (dQ l)))/\M W w')):=
   Z1 λa b W hr=>⟨Hz _ a b n W hr hn t.o,It _ a b n W hr hn zO,Iu _ a b n W hr hn zO,DX _ a b n W hr hn t.o⟩
  clear i q;generalize je (dQ l)=T at*;generalize gD (dQ l)=U at*;generalize gE (dQ l)=X at*;generalize jC (dQ l)=z4 at*
  go_in
  go_wp2_with (first|(go_at_call 160;refine(O.o _ P.o).mono ?_;rintro e r ⟨v,rfl,d⟩;obtain⟨a,b,rfl,_,_,f⟩:=d.form;have h:=Z2 (R.o.later d.below) d;have g:=Z1 f;obtain⟨⟨x,y,z,B,D⟩,F,G,H,L,N⟩:=eO h.o.1;clear d f)|(go_at_call 161;refine(s.o a b _ g.o).1.mono ?_;rintro e r ⟨rfl,rfl⟩)|(go_at_call 162;refine(s.o a b _ g.o).2.1.mono ?_;rintro e r ⟨rfl,rfl⟩)|(go_at_call 163;refine(s.o a b _ g.o).2.2.1.mono ?_;rintro e r ⟨rfl,rfl⟩)|(go_at_call 164;refine(s.o a b _ g.o).2.2.2.mono ?_;rintro e w2 ⟨rfl,m⟩;have p:=Z2 m (h.o.1.later m);clear m x y z B D F G H L N;obtain⟨⟨x,y,z,B,D⟩,F,G,H,L,N⟩:=eO p.o.2))
  rw[u.o];obtain⟨j,k⟩:=km p.o.2 (I n) (I T) (I U) (I X) (I z4);exact OH (au lK rfl j rfl _ rfl) rfl ⟨rfl,k.below (af (af (ae (Oy _ _) _) h.o.2.below) p.o.1) (OA _)⟩
def tJ(b:Int)(w:World)(hr:an w w.heap.size 2 A n (smps l))(hn:n<=100000)(hl:fo l)(ha:aq a)(hb:aq b):
  C 79 #[.slice A n c,I a,I b] w (J (.agg (atF l a b).arr) w):=by
 have z:=iB hr;have H:=Z1 (λW=>Es a b W ha hb);have L:=Z1 (λW (hr:an W W.heap.size 2 A n (smps l))=>Hy l A c n (fromF a b) a W hr hn);have j:Hid ((cutF l (fromF a b) a).length<=100000):=Z1 (OJ (PF _ _) zO);have u:=Z1 (λh x W (hr:an W W.heap.size 2 h (cutF l (fromF a b) a).length (smps (cutF l (fromF a b) a)))=>Lz (cutF l (fromF a b) a) h x _ W hr j.o (Bh hl _ _));have B:atF l a b=ofF (cutF l (fromF a b) a):=rfl;rw[<-B]at u;have N:=Z1 (hr.up (zh w (.cells #[I 0,I 0,I 0,I 0,I 0] 75)));have k:=Blk.A8 w 75 #[I 0,I 0,I 0,I 0,I 0] rfl;have O:=Z1 k;clear k hr B z hl j;generalize (cutF l (fromF a b) a).length=m at*;generalize cutF l (fromF a b) a=q at*;have p:(atF l a b).arr.size=5:=rfl;have r:(atF l a b).arr.all (·.oneCell')=true:=by simp[St.arr,Value.oneCell']
 have d:(atF l a b).val=.agg (atF l a b).arr:=rfl;rw[d]at u;generalize (atF l a b).arr=cs at*;have f:=Z2 p r;clear p r d
 go_in
 go_wp2_with (first|(go_at_call 127;refine(H.o _).mono ?_;rintro e P ⟨rfl,rfl⟩)|(go_at_call 126;refine(L.o _ N.o).mono ?_;rintro e P ⟨v,rfl,i⟩;obtain⟨h,x,rfl,_,_,s⟩:=i.form;have y:=Z2 (O.o.later i.below) i;have D:=Z1 s;obtain⟨⟨Q,R,S,T,U⟩,X,f1,f2,f3,f4⟩:=eO y.o.1;clear i s)|(go_at_call 125;refine(u.o h x _ D.o).mono ?_;rintro e w2 ⟨rfl,g⟩;have t:=Z2 g (y.o.1.later g);clear g)|(refine zj lK (cs:=cs) (hn:=f.o.1) (h1:=f.o.2) t.o.2 ?_;intro w3 F G))
 exact OH (au lK rfl F f.o.1 _ rfl) rfl ⟨rfl,G.below (af (af (ae (Oy _ _) _) y.o.2.below) t.o.1) (OA _)⟩
def js:p.right=true↔lh p.mn p.mx p.tg p.G9 p.G5 p.hold:=by simp[Pl.right,lh]
def lL(a b:Int):Int:=if 0<a%b then a/b+1 else a/b
def iX(n lo hi:Int):Int:=if n<lo\/hi<lo then lo else if hi<n then hi else n
def kn(x:Int):Int:=if x<0 then 0 else x
def kL(p:Pl)(load:Int):Int:=lL (kn load) p.tg
def eW(p:Pl)(n:Int):Int:=iX n p.mn p.mx
def gW(x y z:K2):Bool:=!(fk y z).2||decide (bM x (fk y z).1<=0)
def ni(load:Int):K2:=me (kn load) 1000
def gX(p:Pl)(now:Int):K2:=me (now*1000) p.tg
def li(p:Pl)(now:Int):K2:=me (wrW (now*p.G9)) p.tg
def qc(p:Pl)(load now:Int):Bool:=(ni load==gX p now)||(gW (ni load) (gX p now) (li p now)&&gW (gX p now) (ni load) (li p now))
def jF(p:Pl)(load now:Int):Bool:=if now<1\/1073741824<now then false else qc p load now
def kq(p:Pl)(load now:Int):Int:=if jF p load now=true then eW p now else eW p (kL p load)
def dg(l:List Smp):Int:=match l with
 |[]=>0
 |x::r=>r.foldl (λb s=>if b<s.tick then s.tick else b) x.tick
def jG(p:Pl)(C0:List Adv):Int:=match C0.getLast? with
 |none=>p.mn
 |some a=>a.V1
def pw(p:Pl)(held:Bool)(open_ now then_:Int):Int:=
 if held=true then 4 else if p.mx<open_ then 6 else if open_<p.mn then 5 else if now<then_ then 2 else if then_<now then 3 else 1
def su(p:Pl)(load now:Int):Int:=if jF p load now=true then now else kL p load
def od(p:Pl)(l:List Smp)(C0:List Adv):Adv:=
 let a:=dg l
 let b:=(atF l a p.G5).F3
 let d:=jG p C0
 let e:=kq p b d
 let s:=Go.Fw.ofS C0 a p.hold e
 let c:=eW p s.1
 ⟨a,b,e,c,pw p s.2 (su p b d) d c⟩
def fW(p:Pl)(l:List Smp):Int:=if p.right=false then 7 else if l=[]then 5 else 0
def rt(p:Pl)(l:List Smp)(C0:List Adv):Adv:=if fW p l=0 then od p l C0 else az
def Bl{x:Int}(h:aq x):0<=kn x/\kn x<=9223372036854775807:=by unfold kn aq at*;split<;>omega
def Iv{a b:Int}(ha:0<=a/\a<=9223372036854775807)(hb:1<=b):0<=lL a b/\lL a b<=9223372036854775807:=by
 have c:0<=a/b:=Int.ediv_nonneg ha.1 zO;have d:a/b<=a:=Int.ediv_le_self _ ha.1;unfold lL;split
 ·rename_i h;have e:=Int.mul_ediv_add_emod a b;have f:a/b<=b*(a/b):=by
   have:=Int.mul_le_mul_of_nonneg_right hb c
   rwa [Int.one_mul]at this
  omega
 ·omega
def uA{p:Pl}(h:p.right=true)(ho:p.ok):0<=p.mn/\1<=p.mx/\p.mx<=1073741824/\p.mn<=p.mx/\1<=p.tg/\0<=p.G9/\p.G9<=999/\1<=p.G5/\0<=p.hold:=(js p).1 h
def qd{t:TypeId}{q:IntKind}{n:Int}(hu:P.underlying t=some (.int q))(h:(Lit.int q n).wf=true):P.keyLits (d+1) t [.int q n]=some [.int q n]:=by
 simp[Program.keyLits,hu,h]
def EH{t:TypeId}{fs:Array Field}{f g:Field}{u v:Value}{lu lv:List Lit}(hu:P.underlying t=some (.struct fs))(hf:fs.toList=[f,g])(hl:P.cellsOf t=2)(hn:fs.all (·.name != "_")=true)
  (o1:f.offset=0)(o2:g.offset=1)(c1:P.cellsOf f.type=1)(c2:P.cellsOf g.type=1)(h1:P.keyLits d f.type [u]=some lu)(h2:P.keyLits d g.type [v]=some lv):P.keyLits (d+1) t [u,v]=some (lu++lv):=by
 simp only[Program.keyLits,hu];rw[OB ⟨by rw[hl];rfl,hn⟩,hf];simp[o1,o2,c1,c2,h1,h2]
def EI{n:Int}(h:cK n):(Lit.int .u64 n).wf=true:=by
 unfold cK at h;simp[Lit.wf,IntKind.min,IntKind.max,IntKind.signed,IntKind.bits];omega
def tN{n:Int}(h:aq n):(Lit.int .i64 n).wf=true:=by
 unfold aq at h;simp[Lit.wf,IntKind.min,IntKind.max,IntKind.signed,IntKind.bits];omega
def lO(k:K2):Lit:=.string (keyBytes [.int .u64 k.hi,.int .u64 k.lo])
def encS(s:ByteArray):Lit:=.string s.data.toList
def encI(n:Int):Lit:=.int .i64 n
def Cx(x:Int×Int):Lit:=.string (keyBytes [.int .i64 x.1,.int .i64 x.2])
def wX:laidOutB prog=true:=zR
def qf:Maps.Keyed prog 58:=Maps.Keyed.of_law (deep_law_laid wX (m:=2) zO (by have h:decide (58<prog.types.size)=true:=zR;exact QL h) zR (by rw[underlying58]))
def Br:Maps.Keyed prog 247:=Maps.Keyed.of_law (deep_law_laid wX (m:=2) zO (by have h:decide (247<prog.types.size)=true:=zR;exact QL h) zR (by rw[underlying247]))
def nI(k:K2)(h:k.ok):keyOf prog 58 k.val=some (lO k):=by
 unfold keyOf;rw[underlying58];have a:prog.keyType 58=true:=by kernel_rfl
 have b:k.val.formed prog 58=true:=by
  unfold K2.val K2.arr Value.formed;rw[underlying58];have:prog.cellsOf 58=2:=by kernel_rfl
  simp[this]
 simp only[a,b,Bool.and_self,if_true];have c:prog.keyLits (prog.types.size+1) 58 k.val.cells.toList=some [.int .u64 k.hi,.int .u64 k.lo]:=by
  have d:∃m,prog.types.size=m+1:=⟨prog.types.size-1,by kernel_rfl⟩;obtain⟨m,e⟩:=d;rw[e];exact EH (m+1) underlying58 rfl (by kernel_rfl) (by kernel_rfl) rfl rfl (by kernel_rfl) (by kernel_rfl) (qd m (by kernel_rfl) (EI h.hi)) (qd m (by kernel_rfl) (EI h.lo))
 rw[c];rfl
def rC(x:Int×Int)(h:aq x.1/\aq x.2):keyOf prog 247 (.agg #[.int .i64 x.1,.int .i64 x.2])=some (Cx x):=by
 unfold keyOf;rw[underlying247];have a:prog.keyType 247=true:=by kernel_rfl
 have b:(Value.agg #[.int .i64 x.1,.int .i64 x.2]).formed prog 247=true:=by
  unfold Value.formed;rw[underlying247];have:prog.cellsOf 247=2:=by kernel_rfl
  simp[this]
 simp only[a,b,Bool.and_self,if_true];have c:prog.keyLits (prog.types.size+1) 247 (Value.agg #[.int .i64 x.1,.int .i64 x.2]).cells.toList=some [.int .i64 x.1,.int .i64 x.2]:=by
  have d:∃m,prog.types.size=m+1:=⟨prog.types.size-1,by kernel_rfl⟩;obtain⟨m,e⟩:=d;rw[e];exact EH (m+1) underlying247 rfl (by kernel_rfl) (by kernel_rfl) rfl rfl (by kernel_rfl) (by kernel_rfl) (qd m (by kernel_rfl) (tN h.1)) (qd m (by kernel_rfl) (tN h.2))
 rw[c];rfl
def jO:gp prog 58 lO K2.val K2.ok:=⟨qf,nI,λx y g h e=>by
 have i:=nI x g;have f:=nI y h;rw[<-e]at f;have:=qf.inj i f;obtain⟨a,b⟩:=x;obtain⟨c,d⟩:=y;simp[K2.val,K2.arr]at this;simp[this]⟩
def KZ:gp prog 247 Cx (λx:Int×Int=>.agg #[I x.1,I x.2]) (λx=>aq x.1/\aq x.2):=⟨Br,rC,λx y g h e=>by
 have i:=rC x g;have f:=rC y h;rw[<-e]at f;have:=Br.inj i f;obtain⟨a,b⟩:=x;obtain⟨c,d⟩:=y;simp at this;simp[this]⟩
def lE:gp prog 9 encS Value.string (λs=>s.size<=maxLen):=⟨Maps.string_keyed underlying9,λx a=>Go.WideMaps.keyOf_string_mk underlying9 a,λx y _ _ e=>by
 unfold encS at e;injection e with e;obtain⟨x⟩:=x;obtain⟨y⟩:=y;congr 1;exact Su.1 e⟩
def IJ:gp prog 3 encI (Value.int .i64) aq:=⟨Maps.int_keyed underlying3,λx a=>Maps.keyOf_int_mk underlying3 (tN a),λx y _ _ e=>by
 unfold encI at e;injection e⟩
def Om(x:ByteArray)(hx:x.size<=maxLen)(h:keyOf prog 9 v=some (encS x)):v=.string x:=lE.keyed.inj h (lE.key x hx)
end Go.Fw
