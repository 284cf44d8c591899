/- Lemmas of this claim. Conditions: as each says. -/
import Derived.Test.YtpfmpaolgmoajaaGreatL10
set_option linter.unusedVariables false
set_option linter.unusedSimpArgs false
set_option maxHeartbeats 4000000
set_option maxRecDepth 20000
set_option linter.defProp false
open Go.Proofs.Tryz
namespace Go.Fw
open Go.RowKit open Go.Proofs hiding intOf
variable (c:Cg)
def dU:cU prog 73 11:=⟨zR,zR,zR⟩
def dV{w:World}{o:Oper}{a:Act}{K:Act->World->Prop}{Q:Exit->Act->World->Prop}(s x:Operand)(ho:o.op=.call {callee:=.builtin .append,args:=#[s,x],argTypes:=#[194,194]})
  {B n m k k2:Nat}{l r:List (Int×Int)}{A A2:Option Addr}(hs:a.eval s=.slice A n k)(hm:w.ownsRow B 250 2 (.slice A n k) n (d7 l))(hx:a.eval x=.slice A2 m k2)(hr:an w w.heap.size 2 A2 m (d7 r))(hlen:n+m<=1000)(hB:B<=w.heap.size)
  (h:∀A' k' w',w'.ownsRow B 250 2 (.slice A' (n+m) k') (n+m) (d7 (l++r))->(∀V:World,M V w->V.heap.size<=B->M V w')->K (a.put o.dst (.slice A' (n+m) k')) w'):o.wp prog a w K Q:=by
 obtain⟨p,c,d,e,f⟩:=info_parts s7.info;refine dC w s x 194 ho B 250 p _ 2 16 underlying194 c d e f rfl zP (.slice A n k) n (d7 l) hs hm w.heap.size A2 m k2 (d7 r) hx hr (Ke r) zU zO hB ?_;intro u w' b g _;obtain⟨A',k',rfl,_,_⟩:=ak b;rw[yc]at b;exact h A' k' w' b λV i j=>i.grown g i.size λq t=>OJ j (hm.lt q t).1
def Ko(hc:c.ok)(x:Cl)(hx:x.ok)(hk:x.k=3)(hz:aH x=0)(w:World):C 138 #[.agg #[I c.st,I c.sa,I c.lo,I c.hi],x.val] w (ia w (cg c x)):=by
 have v:=zh w (.cells c.cells.toArray 23);have j:=ae v (.cells x.arr 73);have i:=(Blk.A8 w 23 c.cells.toArray rfl).alloc (.cells x.arr 73);have l:=Blk.A8 (w.alloc (.cells c.cells.toArray 23)) 73 x.arr (g:=w.heap.size+1) zS;have HB:=Z3 j i l;have a6:=Cg.I0 hc;have R:=Z1 (λu W=>yd c hc u W);have HC:=Z1 (λW=>mX c W);have y:cg c x=dr c 2++bK 3 c.st++dr c 5:=by unfold cg;simp[hk]
 have z:∀u,(dr c u).length=c.st:=λu=>by simp[dr]
 have A:=Z1 z;rw[y];clear y z;generalize dr c=T at*;obtain⟨xk,id,tk,va,ha,a,b,cc,d,e0,f⟩:=x;simp only at hk;subst hk;obtain⟨st,sa,lo,X⟩:=c;unfold Cl.val;simp only[Cl.arr,Cg.cells]at*;obtain⟨⟨g0,g1,g2,g3,g4,g5⟩,g6,g7,g8,g9,a7⟩:=bh l;have L:=i.cell 0;have N:=i.cell 1;have O:=i.cell 2;have P:=i.cell 3;have e:=i.lt;have a3:=l.lt;clear v j i l hz
 go_in
 go_upto_region 8 with fail
 generalize hV:(w.alloc (.cells #[I st,I sa,I lo,I X] 23)).alloc (.cells #[I 3,.string id,I tk,I va,I ha,I a,I b,I cc,I d,I e0,I f] 73)=V at*;generalize B:w.heap.size=h at*;have aa:=Z1 B;clear hV B;have au:st<=64:=zO;have Q:=(zi V);refine zH (S:=λU=>M V U) Q ?_;refine zq 0 _ ?_ (hy:=λW hW=>by have q0:=(OF hW (p:=Y h 0) e).trans L;have q1:=(OF hW (p:=Y h 1) e).trans N;have q2:=(OF hW (p:=Y h 2) e).trans O;have q3:=(OF hW (p:=Y h 3) e).trans P;exact zf);refine zq 2 _ ?_ (hy:=λW hW=>by have q0:=(OF hW (p:=Y h 0) e).trans L;have q1:=(OF hW (p:=Y h 1) e).trans N;have q2:=(OF hW (p:=Y h 2) e).trans O;have q3:=(OF hW (p:=Y h 3) e).trans P;exact zf);refine zq 6 _ ?_ (hy:=λW hW=>by have q0:=(OF hW (p:=Y h 0) e).trans L;have q1:=(OF hW (p:=Y h 1) e).trans N;have q2:=(OF hW (p:=Y h 2) e).trans O;have q3:=(OF hW (p:=Y h 3) e).trans P;exact zf);refine zo 1 λK hK=>?_;go_simp;refine zX (R.o 2 _) λv1 w1 q=>?_;obtain⟨A1,k1,rfl,_,_⟩:=ak q.own;have D:=af Q q.below;have ah:=aP q.own Q.size;refine zJ hK D ?_;refine zo 3 λK hK=>?_;go_simp;refine zm (HC.o _) λw2 j=>?_;have F:=af D j;have ai:=aN ah j;refine zJ hK F ?_;refine zo 4 λK hK=>?_;go_simp;refine zX (jo 3 st _) λv3 w3 m=>?_;obtain⟨A3,k3,rfl,_,_⟩:=ak m.own;have r:=af F m.below;have aj:=aN ai m.below;refine zJ hK r ?_;refine zo 5 λK hK=>?_;refine dV (.tmp 37) (.tmp 40) rfl zF aj zF (an.C4 m.own) zO r.size ?_;intro A4 k4 w4 am ao;have G:=ao V r (OA _);refine zJ hK G ?_;refine zo 7 λK hK=>?_;go_simp;refine zX (R.o 5 _) λv5 w5 n=>?_;obtain⟨A5,k5,rfl,_,_⟩:=ak n.own;have s:=af G n.below;have ap:=aN am n.below;refine zJ hK s ?_;refine zo 8 λK hK=>?_;refine dV (.tmp 41) (.tmp 43) rfl zF ap zF (an.C4 n.own) zO s.size ?_;intro A6 k6 w6 aq ar;have H:=ar V s (OA _);refine zJ hK H ?_;go_wp2;go_ret;have h9:=aa.o;have t:=HB.o.1;try rw[<-h9]at t
 refine⟨_,rfl,?_,af t H⟩;rw[show(T 2++bK 3 (st:Int)++T 5).length=st+3+st by rw[OS,OS,A.o,A.o];rfl];exact aP aq t.size
def Kq(hc:c.ok)(x:Cl)(hx:x.ok)(hk:x.k=2)(hz:aH x=0)(w:World):C 138 #[.agg #[I c.st,I c.sa,I c.lo,I c.hi],x.val] w (ia w (cg c x)):=by
 have P:=zh w (.cells c.cells.toArray 23);have Q:=ae P (.cells x.arr 73);have m:=(Blk.A8 w 23 c.cells.toArray rfl).alloc (.cells x.arr 73);have A:=Blk.A8 (w.alloc (.cells c.cells.toArray 23)) 73 x.arr (g:=w.heap.size+1) zS;have HB:=Z3 Q m A;have bf:=Cg.I0 hc;have N:=Z1 (λO W=>yd c hc O W);have R:cg c x=dr c 3++[(4,0)]++dr c 5:=by unfold cg;simp[hk]
 have T:∀O,(dr c O).length=c.st:=λO=>by simp[dr]
 have B:=Z1 T;rw[R];clear R T;generalize dr c=l at*;obtain⟨xk,id,tk,va,ha,a,b,cc,d,e0,f⟩:=x;simp only at hk;subst hk;obtain⟨st,sa,lo,ad⟩:=c;unfold Cl.val;simp only[Cl.arr,Cg.cells]at*;obtain⟨⟨g0,g1,g2,g3,g4,g5⟩,g6,g7,g8,g9,bg⟩:=bh A;have c0:=m.cell 0;have c1:=m.cell 1;have c2:=m.cell 2;have c3:=m.cell 3;have h:=m.lt;have aw:=A.lt;clear P Q m A hz
 go_in
 go_upto_region 6 with fail
 generalize hV:(w.alloc (.cells #[I st,I sa,I lo,I ad] 23)).alloc (.cells #[I 2,.string id,I tk,I va,I ha,I a,I b,I cc,I d,I e0,I f] 73)=V at*;generalize X:w.heap.size=s at*;have aa:=Z1 X;clear hV X;have am:st<=64:=zO;have e:=(zi V);refine ay (S:=λU=>M V U) zR e ?_;generalize V.drew=U at*;simp only[zD,zE,Nat.reduceAdd,zG];refine zQ 0 _ ?_ (hy:=λW hW=>by have q0:=(OF hW (p:=Y s 0) h).trans c0;have q1:=(OF hW (p:=Y s 1) h).trans c1;have q2:=(OF hW (p:=Y s 2) h).trans c2;have q3:=(OF hW (p:=Y s 3) h).trans c3;exact zf);refine zq 5 _ ?_ (hy:=λW hW=>by have q0:=(OF hW (p:=Y s 0) h).trans c0;have q1:=(OF hW (p:=Y s 1) h).trans c1;have q2:=(OF hW (p:=Y s 2) h).trans c2;have q3:=(OF hW (p:=Y s 3) h).trans c3;exact zf);refine nQ 1 3 zR rfl rfl zF zF (λK hK=>?_) (λK hK=>?_)
 ·skip
  go_simp;refine zX (N.o 3 _) λv1 U i=>?_;obtain⟨A1,k1,rfl,_,_⟩:=ak i.own;have y:=aP i.own e.size;try have z:=z.up i.below
  have e:=af e i.below;clear i;refine zJ hK e ?_;refine zo 3 λK hK=>?_;go_simp;have e:=ae e (.cells #[I 4,I 0] 250);have z:=(dD U 250 #[I 4,I 0] 2 1 U.heap.size (U.heap.size+1) rfl rfl rfl).more (B':=(U.alloc (.cells #[I 4,I 0] 250)).heap.size) zS;try have y:=y.alloc (.cells #[I 4,I 0] 250)
  refine zJ hK e ?_;refine zo 4 λK hK=>?_;refine dV (r:=[(4,0)]) (.tmp 27) (.tmp 29) rfl zF y zF z zO e.size ?_;intro A4 k4 U D F;have t:=F V e (OA _);refine zJ hK t ?_;refine zo 6 λK hK=>?_;go_simp;refine zX (N.o 5 _) λv5 w5 j=>?_;obtain⟨A5,k5,rfl,_,_⟩:=ak j.own;have n:=af t j.below;have G:=aN D j.below;refine zJ hK n ?_;refine zo 7 λK hK=>?_;refine dV (.tmp 30) (.tmp 32) rfl zF G zF (an.C4 j.own) zO n.size ?_;intro A6 k6 w6 u H;have v:=H V n (OA _);refine zJ hK v ?_;go_wp2;go_ret;have h9:=aa.o;have q:=HB.o.1;try rw[<-h9]at q
  refine⟨_,rfl,?_,af q v⟩;have L:l 3++[(4,0)]++l 5=l 3++(4,0)::l 5:=zS;rw[L]at u;rw[show(l 3++(4,0)::l 5).length=st+1+st by rw[<-L,OS,OS,B.o,B.o];rfl];exact aP u q.size
 ·skip
  go_simp;have e:=ae e (.cells #[I 4,I 0] 250);have z:=(dD U 250 #[I 4,I 0] 2 1 U.heap.size (U.heap.size+1) rfl rfl rfl).more (B':=(U.alloc (.cells #[I 4,I 0] 250)).heap.size) zS;try have y:=y.alloc (.cells #[I 4,I 0] 250)
  refine zJ hK e ?_;refine zo 1 λK hK=>?_;go_simp;refine zX (N.o 3 _) λv1 U i=>?_;obtain⟨A1,k1,rfl,_,_⟩:=ak i.own;have y:=aP i.own e.size;try have z:=z.up i.below
  have e:=af e i.below;clear i;refine zJ hK e ?_;refine zo 4 λK hK=>?_;refine dV (r:=[(4,0)]) (.tmp 27) (.tmp 29) rfl zF y zF z zO e.size ?_;intro A4 k4 U D F;have t:=F V e (OA _);refine zJ hK t ?_;refine zo 6 λK hK=>?_;go_simp;refine zX (N.o 5 _) λv5 w5 j=>?_;obtain⟨A5,k5,rfl,_,_⟩:=ak j.own;have n:=af t j.below;have G:=aN D j.below;refine zJ hK n ?_;refine zo 7 λK hK=>?_;refine dV (.tmp 30) (.tmp 32) rfl zF G zF (an.C4 j.own) zO n.size ?_;intro A6 k6 w6 u H;have v:=H V n (OA _);refine zJ hK v ?_;go_wp2;go_ret;have h9:=aa.o;have q:=HB.o.1;try rw[<-h9]at q
  refine⟨_,rfl,?_,af q v⟩;have L:l 3++[(4,0)]++l 5=l 3++(4,0)::l 5:=zS;rw[L]at u;rw[show(l 3++(4,0)::l 5).length=st+1+st by rw[<-L,OS,OS,B.o,B.o];rfl];exact aP u q.size
def DA(hc:c.ok)(x:Cl)(hx:x.ok)(hz:aH x=0)(w:World):C 138 #[.agg #[I c.st,I c.sa,I c.lo,I c.hi],x.val] w (ia w (cg c x)):=by
 rcases uX hz with a|a|a|a|a|a|a|a
 ·exact Ki c hc x hx a hz w
 ·exact Kq c hc x hx a hz w
 ·exact Ko c hc x hx a hz w
 ·exact Kk c hc x hx a hz w
 ·exact Kl c hc x hx a hz w
 ·exact Kj c hc x hx a hz w
 ·exact Kn c hc x hx a hz w
 ·exact Km c hc x hx a hz w
def vF{c:Cg}(hc:c.ok)(x:Cl):(cg c x).length<=200:=by
 have h:=(Cg.small hc).2.1;unfold cg dr bK;split
 ·simp
 split
 ·simp;omega
 split
 ·simp;omega
 split
 ·simp
 split
 ·simp
 split<;>simp
def yk(hc:c.ok)(x:Cl)(hx:x.ok)(w:World):C 94 #[c.val,x.val] w (ia w (aF c x)):=by
 have d:=zh w (.cells c.cells.toArray 23);have e:=ae d (.cells x.arr 73);have z:=(Blk.A8 w 23 c.cells.toArray rfl).alloc (.cells x.arr 73);have S:=Blk.A8 (w.alloc (.cells c.cells.toArray 23)) 73 x.arr (g:=w.heap.size+1) zS;have HB:=Z3 e z S;have hR:=λW=>gH c.st c.sa c.lo c.hi W;have hE:pu c.st c.sa c.lo c.hi=0:=by exact OB hc
 rw[hE]at hR;have HR:=Z1 hR;have a3:=Z1 (λW=>oy x hx.L7 W);have T:aF c x=(1,0)::((if aH x=0 then cg c x else[])++[(7,0)]):=rfl;have U:=Z1 T;have a4:=Z1 (vF hc x);have a5:=Z1 (λ(h:aH x=0) W=>DA c hc x hx h W);generalize X:x.val=xv at*;have a6:xv=.agg x.arr:=by rw[<-X];rfl
 have aa:x.arr.size=11:=rfl;have ab:x.arr.all (·.oneCell')=true:=by simp[Cl.arr,Value.oneCell']
 generalize x.arr=xa at*;subst a6;have ac:=Z2 aa ab;obtain⟨c0,c1,c2,c3⟩:=mW z;generalize a7:aH x=ce at*;obtain⟨st,sa,lo,A⟩:=c;simp only[Cg.val,Cg.cells]at*;clear hR hE d e z S hc hx T X aa ab a7
 go_in
 go_wp2_with fail;generalize hV:(w.alloc (.cells #[I st,I sa,I lo,I A] 23)).alloc (.cells xa 73)=V at*;generalize D:w.heap.size=v9 at*;have F:=HB.o.1;try rw[<-D]at F
 have HV:=Z2 D F;clear hV D F;refine zm (HR.o _) λf d=>?_;have G:=HB.o.2.1.later d;have H:=HB.o.2.2.later d;have k:=Z3 d G H;clear G H d c0 c1 c2 c3;have L:=eI (B:=f.heap.size) (s:=2) (n:=1) (Blk.A8 f 250 #[I 1,I 0] rfl) (OA _) rfl (by simp[maxLen]);have N:=zh f (.cells #[I 1,I 0] 250);have bb:=Z1 (bQ (k.o.2.2.later N));have HO:=Z2 L N;clear L N
 go_wp2_with (refine aG dU rfl (.tmp 3) rfl (Y (v9+1) 0) zF xa ac.o.1 bb.o ?_)
 generalize bd:f.alloc (.cells #[I 1,I 0] 250)=W2 at*;generalize O:f.heap.size=g2 at*;refine zm (a3.o _) λw2 e=>?_;have ad:=aN HO.o.1 e;have ag:=Z2 ad e;have j:M f w2:=by
  have h:=HO.o.2;rw[<-O]at h;exact af h e
 have i:=Z3 j (k.o.2.1.later j) (k.o.2.2.later j);have a:=Z1 O;clear ad e bd j O;have be:=Z1 (mW (c:=⟨st,sa,lo,A⟩) i.o.2.1);by_cases R:ce=0
 ·subst R;have P:=Z1 U.o;rw[OB rfl]at P;obtain⟨c0,c1,c2,c3⟩:=be.o;have bf:=Z1 (bQ i.o.2.2)
  go_wp2_with (refine aG dU rfl (.tmp 3) rfl (Y (v9+1) 0) zF xa ac.o.1 bf.o ?_)
  refine zX (a5.o (by first|rfl|trivial) _) λv3 w3 v=>?_;obtain⟨A3,k3,rfl,_,_⟩:=ak v.own;generalize bg:cg ⟨st,sa,lo,A⟩ x=m at*;generalize ah:m.length=nl at*;have bm:=a4.o;have p:=Z3 v (aN ag.o.1 v.below) ah;clear c0 c1 c2 c3 v bg ah;go_upto_region 6 with(at_builtin;refine wpList_plain rfl ?_;intro K' b;refine dV (l:=[(1,0)]) (.tmp 14) (.tmp 17) rfl zF p.o.2.1 zF (an.C4 p.o.1.own) zO (by have:=a.o;have:=i.o.1.size;have:=p.o.1.below.size;omega) ?_;intro A4 k4 w4 y ai;have y:=(by simpa using y:w4.ownsRow g2 250 2 (.slice A4 (1+nl) k4) (1+nl) (d7 ((1,0)::m)));have H4:=Z2 y (ai f (af i.o.1 p.o.1.below) (by have:=a.o;omega));clear y ai;refine b _ _ ?_;clear b)
  go_wp2_with (at_builtin;refine wpList_plain rfl ?_;intro K' b;refine dV (l:=(1,0)::m) (r:=[(7,0)]) (.tmp 19) (.tmp 21) rfl zF (H4.o.1.alloc (.cells #[I 7,I 0] 250)) zF ((dD w4 250 #[I 7,I 0] 2 1 w4.heap.size _ rfl rfl rfl).more zS) zO (by have:=a.o;have:=H4.o.2.size;simp;omega) ?_;intro A6 k6 w6 q t;have Q:=Z2 q (t f (ae H4.o.2 _) (by have:=a.o;omega));clear q t;refine b _ _ ?_;clear b)
  go_ret;have u:=af HV.o.2 k.o.1;refine⟨_,rfl,?_,af u Q.o.2⟩;rw[P.o];have e9:(1,0)::(m++[(7,0)])=[(1,0)]++m++[(7,0)]:=zS;rw[e9,OS,OS,p.o.2.2];have h6:=aP Q.o.1 (show w.heap.size<=g2 by have:=a.o;have:=u.size;omega);exact h6
 ·have P:=Z1 U.o;rw[Oz R]at P;have bt:(ce==0)=false:=by simpa using R
  clear R
  go_wp2_with (at_builtin;refine wpList_plain rfl ?_;intro K' b;refine dV (l:=[(1,0)]) (r:=[(7,0)]) (.tmp 19) (.tmp 21) rfl zF (ag.o.1.alloc (.cells #[I 7,I 0] 250)) zF ((dD w2 250 #[I 7,I 0] 2 1 w2.heap.size _ rfl rfl rfl).more zS) zO (by have:=a.o;have:=i.o.1.size;simp;omega) ?_;intro A6 k6 w6 q t;have Q:=Z2 q (t f (ae i.o.1 _) (by have:=a.o;omega));clear q t;refine b _ _ ?_;clear b)
  go_ret;have u:=af HV.o.2 k.o.1;refine⟨_,rfl,?_,af u Q.o.2⟩;rw[P.o];have h6:=aP Q.o.1 (show w.heap.size<=g2 by have:=a.o;have:=u.size;omega);exact h6
end Go.Fw
