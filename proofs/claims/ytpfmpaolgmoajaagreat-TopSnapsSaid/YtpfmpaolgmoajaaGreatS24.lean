/- Lemmas of this claim. Conditions: as each says. -/
import Derived.Test.YtpfmpaolgmoajaaGreatS21
set_option linter.unusedVariables false
set_option linter.unusedSimpArgs false
set_option maxHeartbeats 4000000
set_option maxRecDepth 20000
set_option linter.defProp false
open Go.Proofs.Tryz
namespace Go.Fw
open Go.RowKit open Go.Proofs hiding intOf
variable (w:World)(c:Cg)
def AN(hc:c.ok)(T:Nat->Tg)(sp:Nat)(v:Value)(tp lb:Nat)(S:Sto)(m:Mp)(h:bU w c T sp v tp lb S)(hr:et c S m)(k:K2)(hk:k.ok)(a:Adv)(ha:a.ok)(hi:homeN c k<S.rows.length)(hg:ap m.ls k≠none):
  C 353 #[Z (S.rows[homeN c k].p) 0,k.val,a.val] w λe w'=>e=.returned (I 0)/\dJ w w' c T sp (eo c m k a).1:=by
 have d:=hr.row _ hi;have b:=d.get hr.D7
 cases hz:ap S.rows[homeN c k].zs k with
 |none=>rw[hz]at b;exact absurd b hg
 |some z=>
  rw[hz]at b;have f:=d.C6 hr.C6;have i:=d.length;have j:=hr.E5 (homeN c k);have r:=Cg.small hc;refine(CE w c hc T (homeN c k) _ _ _ _ (h.F1 _ hi) f zO k hk a z hz).mono ?_;rintro e w' ⟨l,n⟩;refine⟨l,?_⟩;have o:(eo c m k a).1={m with ls:=aR m.ls k (jI c z.x a)}:=by
   unfold eo;rw[b];rfl
  rw[o];refine h.put hr hc hk hi (uR (f _ (bR hz)) ha) (λq=>?_) n;have g:=q.1;rw[hz]at g
  cases g
def yo(hc:c.ok)(T:Nat->Tg)(wp p:Nat)(g:Gs)(x:Wi)(hg:GAt w c T wp g)(h:aO w c T wp p x)(hx:x.ok c)(hk:ap g.mp.ls x.key≠none)(hn:g.ev.length<=70000):
  C 347 #[Z p 0] w λe w'=>e=.returned (I 9)/\aV w w' c T wp ({g with mp:=(eo c g.mp x.key x.E0).1}.note (x.event 6)) p x:=by
 obtain⟨A,v,B,D,S,F,y,m,G,_⟩:=hg.storeAt;have H:=m.J4 hc x.key;have hs:=Cg.small hc;have L:=Z1 F;have N:=Z1 (λU (d:M w U)=>iP U c hc T wp p g x (hg.up d) (h.up d) hx.key);have O:=Z1 (λU (d:M w U)=>i8 U c T A v B D S (y.up d) (by rw[m.n];exact hs.2.1) (homeN c x.key) H);have q:=Z1 (λU (d:M w U)=>(AN U c hc T A v B D S g.mp (y.up d) m x.key hx.key x.E0 hx.E0 H hk).mono (λe w' ⟨q1,q2⟩=>And.intro q1 (G U w' _ d q2)));have P:=Z1 (λU T' (a1:GAt U c T' wp {g with mp:=(eo c g.mp x.key x.E0).1}) (a2:aO U c T' wp p x)=>Gv U c T' wp p _ x a1 a2 hx hn);have HH:=Z1 h;generalize ({g with mp:=(eo c g.mp x.key x.E0).1}:Gs)=g1 at*;generalize S.rows[homeN c x.key].p=np at*;obtain⟨vs,h⟩:=h;have Q:=Z1 h.tp;have b:=(zi w);have z:=And.intro b h.B0.drew;have j:=z.2;have r:x.E0.val=.agg x.E0.arr:=rfl;have s:x.key.val=.agg #[E x.key.hi,E x.key.lo]:=rfl;rw[r,s]at q;clear h hg hx F y m G hk hn r s
 go_in
 go_upto_region 1 with fail
 refine zH (S:=λU=>Blk U p 203 (cr wp vs x)) j ?_;refine zq 3 ?_ (λW hW=>?_) ?_;rotate_left
 ·have q0:=iy hW;exact zf
 refine zL ?_;refine zq 11 ?_ (λW hW=>?_) ?_;rotate_left
 ·have q5:=rS hW;have q6:=rT hW;exact zf
 refine zL ?_;refine zq 15 ?_ (λW hW=>?_) ?_;rotate_left
 ·refine bE gu (.tmp 17) ?_ (Y p 8) ?_ x.E0.arr rfl ?_;exact rfl;exact rfl;exact BI hW
 refine zo 4 λK hK=>?_;go_simp
 (refine(L.o _ b).mono ?_)
 rintro e1 w1 ⟨rfl,rfl⟩;refine zJ hK j ?_;refine zo 6 λK hK=>?_;go_simp;refine zm (N.o _ b) λw2 k=>?_;have a:=And.intro (af b k) (z.2.later k);have f:=a.2;refine zJ hK f ?_;refine zo 7 λK hK=>?_;go_simp
 (refine(O.o _ a.1).mono ?_)
 rintro e3 w3 ⟨rfl,rfl⟩;refine zJ hK f ?_;refine zo 16 λK hK=>?_;go_simp;refine zm (q.o _ a.1) λw4 l=>?_;have t:=l.O1 a.2 Q.o;refine zJ hK t ?_;obtain⟨T4,R,X,b3,b4⟩:=aV.F4 (HH.o.up a.1) l;have i:=Z5 R X b3 b4 a.1;clear R X b3 b4 l z a t k b j f;go_wp2_with fail;refine zm (P.o _ _ i.o.2.1 i.o.2.2.1) λw5 u=>?_;have HF:=Z1 (bc.after i.o.2.2.2.2 (bc.trans i.o.1 i.o.2.2.2.1 (aV.F4 i.o.2.2.1 u)));clear u;go_wp2;go_ret;exact⟨rfl,HF.o⟩
def MJ(wp:Nat)(vs:Value)(x:Wi)(n:Nat):(cr wp vs x).setIfInBounds 13 (I (n:Int))=cr wp vs {x with done:=n}:=rfl
def AO(hc:c.ok)(T:Nat->Tg)(wp p:Nat)(g:Gs)(x:Wi)(hg:GAt w c T wp g)(h:aO w c T wp p x)(hx:x.ok c)(hf:g.E5)(hb:x.key∈g.q.busy)(hn:g.ev.length<=70000):
  C 348 #[Z p 0] w λe w'=>e=.returned (I 14)/\aV w w' c T wp ((g.note (x.event 7)).F6 x.key) p {x with done:=x.done+1}:=by
 have v:=Z1 (nB w c T wp p g x hg h hx hn 7 zO);have m:=Z1 (λU y (B:GAt U c y wp (g.note (x.event 7)))=>Gm U c hc y wp _ B ⟨hf.line,hf.B3,hf.tasks,hf.q,hf.B9⟩ x.key hx.key hb);have D:=Z1 h;have G:=hx.done;have O:IntKind.i64.wrap ((x.done:Int)+1)=((x.done+1:Nat):Int):=by rw[OX];omega
 have n:x.key.val=.agg #[E x.key.hi,E x.key.lo]:=rfl;rw[n]at m;clear h hg hx hf hb hn n
 go_in
 go_wp2_with fail;refine zm v.o λz r=>?_;obtain⟨F,f,i,⟨A,b⟩,j⟩:=aV.F4 D.o r;have k:=Z4 f i b j;have d:=(zi z);have u:=b.B0.drew;clear f i b j r;go_upto_region 2 with fail
 refine zH (S:=λU=>Blk U p 203 (cr wp A x)) u ?_;refine zq 3 ?_ (λW hW=>?_) ?_;rotate_left
 ·have P:=iy hW;exact zf
 refine zL ?_;refine zq 7 ?_ (λW hW=>?_) ?_;rotate_left
 ·have Q:=rS hW;have R:=rT hW;exact zf
 refine zo 8 λK hK=>?_;go_simp
 (refine(m.o _ _ (k.o.2.1.up d)).mono ?_)
 rintro X w2 ⟨⟨bb,rfl⟩,l⟩;have s:=l.O1 u k.o.2.2.1.tp;refine zJ hK s ?_;obtain⟨T2,f,i,⟨H,b⟩,j⟩:=aV.F4 (show aO z.drew c F wp p x from⟨A,k.o.2.2.1.up d⟩) l;have L:=Og b.B0;have N:=b.B0.frozen 13;have a:=Z5 f i b j d;clear f i b j l u s d;go_wp2;go_ret;have t:=a.o.2.2.1.B0.B4 13 (I ((x.done+1:Nat):Int));rw[MJ]at t;exact⟨rfl,bc.trans k.o.1 k.o.2.2.2 (bc.after a.o.2.2.2.2 (bc.trans a.o.1 a.o.2.2.2.1 (aV.own (x':={x with done:=x.done+1}) a.o.2.1 a.o.2.2.1 (aI.B4 _ _ _ _) t rfl a.o.2.2.1.nil)))⟩
end Go.Fw
