/- Lemmas of this claim. Conditions: as each says. -/
import Derived.Test.YtpfmpaolgmoajaaGreatS04
set_option linter.unusedVariables false
set_option linter.unusedSimpArgs false
set_option maxHeartbeats 4000000
set_option maxRecDepth 20000
set_option linter.defProp false
open Go.Proofs.Tryz
namespace Go.Fw
open Go.Proofs Go.RowKit
variable (p B:Nat)(sl:Value)(q:Nat)(r:Rg Adv)(x:Adv)(n:Nat)(w:World)(pt:Option Addr)
def Ef{w W5:World}{p B g N4 c:Nat}{r:Rg Adv}{x1 x2 x3 x4 x5 y1 y2 y3 y4 y5:Int}(h5:RgV W5 p B (V g 0 r.items.length c) r)(hfl:r.from_<r.items.length)(hgp:g≠p)(hgs:g<w.heap.size)(hb5:M w W5)
  (bo5:Blk W5 (w.heap.size+1) 62 (Adv.arr ⟨0,0,0,0,0⟩))(by5:Blk W5 N4 62 (Adv.arr ⟨y1,y2,y3,y4,y5⟩))(hN:w.heap.size+2<=N4):
  ∃W6,(((((W5.setCell (Y g (r.from_*5)) (I x1)).setCell (Y g (r.from_*5+1)) (I x2)).setCell (Y g (r.from_*5+2)) (I x3)).setCell (Y g (r.from_*5+3)) (I x4)).setCell (Y g (r.from_*5+4)) (I x5)).drew=W6/\
   W6.ownsRow B 62 5 (V g 0 r.items.length c) r.items.length (advs (r.items.set r.from_ ⟨x1,x2,x3,x4,x5⟩))/\
   Blk W6 p 348 #[V g 0 r.items.length c,I (r.from_:Int),I (r.room:Int)]/\Blk W6 (w.heap.size+1) 62 (Adv.arr ⟨0,0,0,0,0⟩)/\Blk W6 N4 62 (Adv.arr ⟨y1,y2,y3,y4,y5⟩)/\
   ag (λj=>j=p\/(V g 0 r.items.length c).ownBlock=some j) w W6:=by
 have a:(set5 W5 g (r.from_*5) ⟨x1,x2,x3,x4,x5⟩).ownsRow B 62 5 (V g 0 r.items.length c) r.items.length (advs (r.items.set r.from_ ⟨x1,x2,x3,x4,x5⟩)):=If h5.own rfl hfl rfl ⟨x1,x2,x3,x4,x5⟩;have b:=(gG W5 g (r.from_*5) ⟨x1,x2,x3,x4,x5⟩ p (Pc hgp)).trans h5.B0;have d:=(gG W5 g (r.from_*5) ⟨x1,x2,x3,x4,x5⟩ (w.heap.size+1) zO).trans bo5;have f:=(gG W5 g (r.from_*5) ⟨x1,x2,x3,x4,x5⟩ N4 zO).trans by5;have h:ag (λj=>j=p\/(V g 0 r.items.length c).ownBlock=some j) w (set5 W5 g (r.from_*5) ⟨x1,x2,x3,x4,x5⟩):=ag.set5 (ag.B5 hb5) (.inl (.inr rfl)) (r.from_*5) ⟨x1,x2,x3,x4,x5⟩;have e:(((((W5.setCell (Y g (r.from_*5)) (I x1)).setCell (Y g (r.from_*5+1)) (I x2)).setCell (Y g (r.from_*5+2)) (I x3)).setCell (Y g (r.from_*5+3)) (I x4)).setCell (Y g (r.from_*5+4)) (I x5))=set5 W5 g (r.from_*5) ⟨x1,x2,x3,x4,x5⟩:=rfl;rw[e];clear e;generalize set5 W5 g (r.from_*5) ⟨x1,x2,x3,x4,x5⟩=T at*;exact⟨T.drew,rfl,a,b,d,f,h.drew⟩
def Cd(h:RgV w p B sl r)(hB:B<=w.heap.size)(hlt:¬r.items.length<r.room):
  Calls prog 363 #[.pointer (some ⟨p,0,none⟩),x.val] w λe w'=>e=.returned (.tuple #[(r.list.head?.getD Adv.zero).val,.bool true])/\∃sl',RgV w' p B sl' (r.push x)/\ag (λj=>j=p\/sl.ownBlock=some j) w w'/\(sl'.ownBlock=sl.ownBlock\/∀k,sl'.ownBlock=some k->w.heap.size<=k):=by
 obtain⟨x1,x2,x3,x4,x5⟩:=x;have X:Below w.heap.size w (((w.alloc (.cells (Adv.arr ⟨x1,x2,x3,x4,x5⟩) 62)).alloc (.cells (Adv.arr ⟨0,0,0,0,0⟩) 62)).alloc (.cells (Adv.arr ⟨0,0,0,0,0⟩) 62)):=ae (ae (ae (Oy _ _) _) _) _;have bx:Blk (((w.alloc (.cells (Adv.arr ⟨x1,x2,x3,x4,x5⟩) 62)).alloc (.cells (Adv.arr ⟨0,0,0,0,0⟩) 62)).alloc (.cells (Adv.arr ⟨0,0,0,0,0⟩) 62)) w.heap.size 62 (Adv.arr ⟨x1,x2,x3,x4,x5⟩):=((Blk.A8 _ _ _ rfl).alloc _).alloc _;have bo:Blk (((w.alloc (.cells (Adv.arr ⟨x1,x2,x3,x4,x5⟩) 62)).alloc (.cells (Adv.arr ⟨0,0,0,0,0⟩) 62)).alloc (.cells (Adv.arr ⟨0,0,0,0,0⟩) 62)) (w.heap.size+1) 62 (Adv.arr ⟨0,0,0,0,0⟩):=(Blk.A8 _ _ _ (by simp)).alloc _;have bn:Blk (((w.alloc (.cells (Adv.arr ⟨x1,x2,x3,x4,x5⟩) 62)).alloc (.cells (Adv.arr ⟨0,0,0,0,0⟩) 62)).alloc (.cells (Adv.arr ⟨0,0,0,0,0⟩) 62)) (w.heap.size+1+1) 62 (Adv.arr ⟨0,0,0,0,0⟩):=Blk.A8 _ _ _ (by simp);have de:=h.B0.lt;have i:=h.ok;have cg:=i.F5;have ch:=i.pos;have N:=h.up X;obtain⟨A,c,rfl,_,_⟩:=ak h.own;have HH:=Z1 h;unfold Adv.val Adv.zero;unfold Adv.arr at X bx bo bn N;clear h;have hl:r.items.length=r.room:=by have:=i.fits;omega
 have Q:r.from_<r.items.length:=by have:=i.lt;omega
 obtain⟨hj,t⟩:=Rg.head i hlt;rw[t];obtain⟨g,cc,n,df,l,dg,v0,v1,v2,v3,v4,ci⟩:=tI HH.o.own rfl Q;injection n with be _ bf;subst be bf;have cj:¬(r.items.length:Int)<(r.room:Int):=by omega
 have dh:((r.room:Int)==0)=false:=by simp;omega
 have di:¬r.room=0:=by omega
 have ck:(IntKind.i64.wrap ((r.from_:Int)+1)).tmod (r.room:Int)=(((r.from_+1)%r.room:Nat):Int):=by
  rw[IntWalk.i64_in _ ⟨by omega,by omega⟩,Ra (by omega)];push_cast;rfl
 have HF:=Z3 hlt t hl;have dj:=i.lt;have dk:(r.from_:Int)<(r.items.length:Int):=by omega
 clear i hlt hl t;generalize r.items[r.from_]=y at*;obtain⟨u,z,D,F,G⟩:=y;simp only at v0 v1 v2 v3 v4;simp only[Qd]
 go_in
 go_upto_region 2 with fail
 generalize (((w.alloc (.cells #[.int .i64 x1,.int .i64 x2,.int .i64 x3,.int .i64 x4,.int .i64 x5] 62)).alloc (.cells #[.int .i64 0,.int .i64 0,.int .i64 0,.int .i64 0,.int .i64 0] 62)).alloc (.cells #[.int .i64 0,.int .i64 0,.int .i64 0,.int .i64 0,.int .i64 0] 62))=W3 at*;have c0:=N.c0;have O:=N.c1;have P:=N.c2;go_wp2;refine cM (by kernel_rfl) (by kernel_rfl) ?_;repeat still_step
 refine wpStill_nil ?_;go_upto_region 7 with fail
 have h4:RgV W3.drew p B _ r:=N.drew;have m:=X.drew;have bh:=bx.drew;have ac:=bo.drew;clear N X bx bo bn c0 O P;generalize W3.drew=d at*;have d0:=h4.c0;have d1:=h4.c1;have w0:=(OF m (p:=⟨g,r.from_*5,none⟩) l).trans v0;have w1:=(OF m (p:=⟨g,r.from_*5+1,none⟩) l).trans v1;have w2:=(OF m (p:=⟨g,r.from_*5+2,none⟩) l).trans v2;have w3:=(OF m (p:=⟨g,r.from_*5+3,none⟩) l).trans v3;have w4:=(OF m (p:=⟨g,r.from_*5+4,none⟩) l).trans v4;clear v0 v1 v2 v3 v4;have R:=h4.B0.lt;have b:g<d.heap.size:=OV l m.size;have ad:Below d.heap.size d d.drew:=(Oy _ _).drew;refine zH (S:=λW=>Below d.heap.size d W) ad ?_;refine zq 3 ?_ (λW hW=>?_) ?_;rotate_left
 ·have e0:=(OF hW (p:=⟨p,0,none⟩) R).trans d0;exact zf
 refine zL ?_;refine zq 7 ?_ (λW hW=>?_) ?_;rotate_left
 ·have n:=(OF hW (p:=⟨p,1,none⟩) R).trans d1;exact zf
 refine zL ?_;refine zq 9 ?_ (λW hW=>?_) ?_;rotate_left
 ·have e0:=(OF hW (p:=⟨g,r.from_*5,none⟩) b).trans w0;have n:=(OF hW (p:=⟨g,r.from_*5+1,none⟩) b).trans w1;have e2:=(OF hW (p:=⟨g,r.from_*5+2,none⟩) b).trans w2;have e3:=(OF hW (p:=⟨g,r.from_*5+3,none⟩) b).trans w3;have e4:=(OF hW (p:=⟨g,r.from_*5+4,none⟩) b).trans w4;exact zf
 refine zo 10 λK hK=>?_;go_simp;have bk:Below d.heap.size d (d.drew.alloc (.cells #[.int .i64 0,.int .i64 0,.int .i64 0,.int .i64 0,.int .i64 0] 62)):=ae ad _;refine zJ hK bk ?_;refine zo 11 λK hK=>?_;go_simp;refine hK _ _ (ae (Oy _ _) _).drew ?_;clear hK;refine zn ?_;refine zd ?_;have f:Below d.heap.size d (d.alloc (.cells #[.int .i64 u,.int .i64 z,.int .i64 D,.int .i64 F,.int .i64 G] 62)).drew:=(ae (Oy _ _) _).drew;have bl:Blk (d.alloc (.cells #[.int .i64 u,.int .i64 z,.int .i64 D,.int .i64 F,.int .i64 G] 62)).drew d.heap.size 62 (Adv.arr ⟨u,z,D,F,G⟩):=Blk.A8 _ _ _ rfl;have L:=h4.up f;have bm:=af m f;have bp:=bh.later f;have bq:=ac.later f;have br:d.heap.size>=w.heap.size+2:=by have:=ac.lt;omega
 generalize dl:d.heap.size=N4 at*;generalize (d.alloc (.cells #[.int .i64 u,.int .i64 z,.int .i64 D,.int .i64 F,.int .i64 G] 62)).drew=W5 at*;have c0:=L.c0;have O:=L.c1;have P:=L.c2;have u0:=(OF f (p:=⟨g,r.from_*5,none⟩) b).trans w0;have u1:=(OF f (p:=⟨g,r.from_*5+1,none⟩) b).trans w1;have u2:=(OF f (p:=⟨g,r.from_*5+2,none⟩) b).trans w2;have u3:=(OF f (p:=⟨g,r.from_*5+3,none⟩) b).trans w3;have u4:=(OF f (p:=⟨g,r.from_*5+4,none⟩) b).trans w4;obtain⟨g2,dm,n,_,_,_,_,_,_,_,_,q⟩:=tI L.own rfl Q;obtain rfl:g=g2:=by injection n with n _ _;injection n with n;injection n
 have q0:=q (r.from_*5);have q1:=q (r.from_*5+1);have q2:=q (r.from_*5+2);have q3:=q (r.from_*5+3);have q4:=q (r.from_*5+4);obtain⟨x6,x7,x8,x9,ah⟩:=Blk.G6 (a:=⟨x1,x2,x3,x4,x5⟩) bp;simp only at x6 x7 x8 x9 ah;have bz:g≠p:=λe=>aB L.own L.B0 (by decide) (by rw[<-e];rfl);clear n w0 w1 w2 w3 w4 d0 d1;go_upto_region 8 with fail
 refine zb 10 ?_;repeat still_step
 refine wpStill_nil ?_;go_upto_region 9 with fail
 obtain⟨W6,e6,H,s,ai,aj,al⟩:=Ef (x1:=x1) (x2:=x2) (x3:=x3) (x4:=x4) (x5:=x5) L Q bz l bm bq bl br;rw[e6];clear e6 c0 O P u0 u1 u2 u3 u4 q0 q1 q2 q3 q4 x6 x7 x8 x9 ah L q;have O:=s.cell 1;have P:=s.cell 2;have f1:=s.frozen 1;simp at O P;refine zb 13 ?_;repeat still_step
 refine wpStill_nil ?_;go_upto_region 10 with fail
 have b7:Blk (W6.setCell ⟨p,1,none⟩ (.int .i64 (((r.from_:Int)+1)%(r.room:Int)))) p 348 #[.slice (some ⟨g,0,none⟩) r.items.length c,.int .i64 (((r.from_:Int)+1)%(r.room:Int)),.int .i64 (r.room:Int)]:=s.B4 1 _;have o7:=bA (p:=⟨p,1,none⟩) H (aB H s (by decide)) (.int .i64 (((r.from_:Int)+1)%(r.room:Int)));have am:=ai.D1 (p:=⟨p,1,none⟩) (by show w.heap.size+1≠p;omega) (.int .i64 (((r.from_:Int)+1)%(r.room:Int)));have an:=aj.D1 (p:=⟨p,1,none⟩) (by show N4≠p;omega) (.int .i64 (((r.from_:Int)+1)%(r.room:Int)));have k7:=al.setCell (p:=⟨p,1,none⟩) (.inl (.inl rfl)) (.int .i64 (((r.from_:Int)+1)%(r.room:Int)));clear s H ai aj al O P f1;generalize (W6.setCell ⟨p,1,none⟩ (.int .i64 (((r.from_:Int)+1)%(r.room:Int))))=T at*;have b8:Blk T.drew p _ _:=b7;have o8:T.drew.ownsRow B _ 5 _ _ _:=o7;have U:Blk T.drew (w.heap.size+1) _ _:=am;have b6:Blk T.drew N4 _ _:=an;have k8:=k7.drew;clear b7 o7 am an k7;generalize T.drew=W8 at*;obtain⟨y6,y7,y8,y9,ca⟩:=b6.G6;obtain⟨f0,f1,f2,f3,f4⟩:=U.M0;obtain⟨o0,o1,o2,o3,o4⟩:=U.G6;simp only at y6 y7 y8 y9 ca o0 o1 o2 o3 o4;have ao:=U.set5 ⟨u,z,D,F,G⟩;have b9:=(gG W8 (w.heap.size+1) 0 ⟨u,z,D,F,G⟩ p (by omega)).trans b8;have o9:=nZ o8 (g:=w.heap.size+1) (λe=>by simp[Value.ownBlock]at e;omega) 0 ⟨u,z,D,F,G⟩;have k9:=k8.set5 (g:=w.heap.size+1) (.inr (OW _)) 0 ⟨u,z,D,F,G⟩;obtain⟨z0,z1,z2,z3,z4⟩:=ao.G6;unfold set5 at z0 z1 z2 z3 z4 b9 o9 k9;simp only[PS]at z0 z1 z2 z3 z4 b9 o9 k9;clear ao;go_wp2;have hq:=Rg.J3 HH.o.ok ⟨x1,x2,x3,x4,x5⟩;have cd:r.push ⟨x1,x2,x3,x4,x5⟩=⟨r.items.set r.from_ ⟨x1,x2,x3,x4,x5⟩,(r.from_+1)%r.room,r.room⟩:=by unfold Rg.push;rw[Oz HF.o.1]
 rw[cd]at hq ⊢;have ce:(((r.from_:Int)+1)%(r.room:Int))=(((r.from_+1)%r.room:Nat):Int):=by push_cast;rfl
 rw[ce]at b9;refine OH (v:=.tuple #[.agg #[.int .i64 u,.int .i64 z,.int .i64 D,.int .i64 F,.int .i64 G],.bool true]) (by simp[results,results363,go_sem,z0,z1,z2,z3,z4]) rfl ?_;have cf:RgV _ p B (.slice (some ⟨g,0,none⟩) r.items.length c) ⟨r.items.set r.from_ ⟨x1,x2,x3,x4,x5⟩,(r.from_+1)%r.room,r.room⟩:=⟨b9,by simpa using o9,hq⟩;exact⟨rfl,_,cf,k9,.inl rfl⟩
section
open Go.Shelf
set_option maxRecDepth 100000
attribute [local go_sem] Oper.semAt_some
end
def Eg{α:Type}{S:Nat->Prop}{B:Nat}(W0:World)(hS:∀k,S k->k<B):OwnFrom B (λ(_:List α) W=>el S W0 W/\B<=W.heap.size):=λs W g f a c d=>
 ⟨λk b=>(c.block k (by have:=hS k b;have:=a.2;omega) λe=>by have:=(d k e.symm).1;have:=hS k b;omega).trans (a.1 k b),OJ a.2 c.size⟩
def vT(t:TypeId)(x1 x2 x3 x4 x5:Int):∀(j:Nat) (u:Value),(Adv.cells ⟨x1,x2,x3,x4,x5⟩)[j]?=some u->(w.alloc (.cells #[I x1,I x2,I x3,I x4,I x5] t)).cell? (((Y w.heap.size 0):Addr).add j)=some u:=by
 intro j u a;rw[show((Y w.heap.size 0):Addr).add j=(Y w.heap.size j) by unfold Addr.add;split<;>simp_all];rw[Qg];simpa[Adv.cells]using a
section
open Go.Shelf
set_option maxRecDepth 100000
attribute [local go_sem] Oper.semAt_some
def Ih(hn:1<=n)(l Bb p B tb:Nat)(sl:Value)(r:Rg Adv)(J Jx:List Adv->World->Prop)
  (hY:∀pre x W,J pre W->pre.length<r.list.length->YieldAt Fence.wide (n-1) prog l #[x.val] W λe W'=>
   (e=.returned (.bool true)/\J (pre++[x]) W'/\el (wK p Bb sl) W W')\/(e=.returned (.bool false)/\Jx (pre++[x]) W'))
  (hJd:∀pre W W',J pre W->M W W'->J pre W')
  (W:World)(hBn:Blk W Bb tb #[Z p 0])(hR:RgV W p B sl r)(h0:J [] W):
  CallsIn Fence.wide n prog 221 #[.func (.yield l) #[] #[],Z Bb 0] W λe W'=>(∃v,e=.returned v)/\
   ((∃ys,ys=r.list/\J ys W')\/(∃pre,pre <+:r.list/\pre≠[]/\Jx pre W')):=by
 have H:=Rg.length r;have y:=hR.ok.F5;have z:=hR.ok.fits;refine callsIn_of_wp func221 rfl trivial ?_ rfl;simp only[ntmps221,OD,OC,OE,Nat.reduceAdd,Nat.reduceSub,Qu,Qv,QJ,QD,QA,PY];have A:=hBn.cell 0;simp at A;gi_wp2;refine⟨trivial,(callsIn_wide.2 (rk p B sl r _ hR)).mono ?_⟩;rintro e N ⟨rfl,rfl⟩;gi_wp2
 gi_loopw [8] (λi wr=>∃k:Nat,k<=r.items.length/\i=I k/\J (r.list.take k) wr/\el (wK p Bb sl) W wr) (λi _=>r.items.length-(intOf i).toNat)
 case atStart=>exact⟨0,OK _,rfl,by simpa using h0,el.refl _ _⟩
 case round=>
  obtain⟨k,O,rfl,a,b⟩:=hrel;have h:=(hR.same b).R0 (Bb:=Bb) (Blk.lt (show Blk wr Bb tb #[Z p 0]from(b Bb (.inr rfl)).trans hBn));by_cases L:k<r.items.length
  ·have d:k<r.list.length:=zO;have P:wr.cell? (Y Bb 0)=some (Z p 0):=by
    have c:Blk wr Bb tb #[Z p 0]:=(b Bb (.inr rfl)).trans hBn;have:=c.cell 0
    simpa using this
   have j:=Lx p B sl r k wr (hR.same b) d;have m:=OG d;generalize r.list[k]=x at*;gi_wp2;refine⟨trivial,(callsIn_wide.2 j).mono ?_⟩;rintro e o ⟨rfl,c⟩;have f:M wr (o.alloc (.cells x.arr 62)):=ae c _;obtain⟨Q,D,q,F,R,s⟩:=hY _ x _ (hJd _ _ _ a f) zT;have G:=Blk.A8 o 62 x.arr rfl;have t:=el.B5 f h;obtain⟨S,T,U,X,x5⟩:=x;obtain⟨g0,g1,g2,g3,g4⟩:=G.G6;unfold Adv.val Adv.arr at*;simp only at*;gi_wp2;refine s.mono ?_;rintro e W3 (⟨rfl,u,w⟩|⟨rfl,g⟩)
   ·gi_wp2;go_roundw
    case rel=>exact⟨k+1,zO,zS,by rw[m];exact u,b.trans (t.trans w)⟩
    case measure=>simp[intOf];omega
   ·gi_wp2;refine OH (Pb rfl _ _ _) rfl ?_;exact⟨⟨_,rfl⟩,.inr ⟨_,⟨r.list.drop (k+1),by rw[<-m,Qr]⟩,zS,g⟩⟩
  ·obtain rfl:k=r.items.length:=zO;rw[OT zO]at a;gi_wp2
   go_end0
   exact⟨⟨_,rfl⟩,.inl ⟨_,rfl,a⟩⟩
def Ii(v:Option Addr)(w:World):C 200 #[.pointer v] w λe w'=>e=.returned (.func (.func 221) #[] #[Z w.heap.size 0])/\w.alloc (.cells #[.pointer v] 275)=w':=by
 go_in
 go_wp2;go_ret;exact⟨rfl,rfl⟩
def Nc(hn:1<=n)(Bb p B tb:Nat)(sl:Value)(r:Rg Adv)(w:World)(hBn:Blk w Bb tb #[Z p 0])(hR:RgV w p B sl r):
  SeqStopsK Fence.wide n prog 221 #[Z Bb 0] (λx:Adv=>#[x.val]) (el (wK p Bb sl)) (λys=>ys=r.list) (λpre=>pre <+:r.list/\pre≠[]) r.list.length w:=λl J b W hW c _ d f=>
 (Ih n hn l Bb p B tb sl r J b d (λpre g j h a=>c pre g j none h ⟨a.os,a.tape,a.output,a.size,λi k _=>a.block i k⟩ (λ_ e=>by cases e)) W (hBn.later hW) (hR.up hW) f).mono
  λe t ⟨m,h⟩=>⟨m,h.imp id λ⟨pre,o,q,s⟩=>⟨pre,⟨o,q⟩,s⟩⟩
def AxV(N:Nat)(pt:Option Addr)(sz:Nat)(x:Adv)(a:Act)(W:World):Prop:=
 ∃b,N<=b/\b≠sz/\Blk W b 62 x.arr/\a={tmps:=#[.pointer pt,undef,.slice none 0 0,Z sz 0,Z b 0,.pointer pt,.func (.func 221) #[] #[Z (sz+1) 0],x.val,undef,undef,undef,undef,undef],defers:=[]}
def Ij(S0:Nat->Prop)(L:List Adv)(w:World)(hS0:∀k,S0 k->k<w.heap.size)(hL:L.length<=4096)
  (hst:SeqStopsK Fence.wide 2 prog 221 #[Z (w.heap.size+1) 0] (λx:Adv=>#[x.val]) (el λk=>S0 k\/k=w.heap.size+1) (λys=>ys=L) (λpre=>pre <+:L/\pre≠[]) L.length
   ((w.alloc (.cells #[.slice none 0 0] 49)).alloc (.cells #[.pointer pt] 275))):
  C 168 #[.pointer pt] w λe w'=>∃v,e=.returned v/\aL 5 w w' 62 v L.length (advs L):=by
 obtain⟨i0,hi,X,aa,ab⟩:=info_parts jg.info;refine(callsIn_wide (n:=3)).1 ?_;refine callsIn_of_wp_marks func168 rfl trivial ?_ rfl;simp only[ntmps168,OD,OC,OE,Nat.reduceAdd,Nat.reduceSub,Qu,Qv,QJ,QD,QA,PY];gi_wp2;refine⟨trivial,(callsIn_wide.2 (Ii _ _)).mono ?_⟩;rintro e w' ⟨rfl,rfl⟩;gi_wp2;have bO:=Boxed.new w 49 (.slice none 0 0);have ac:M w ((w.alloc (.cells #[.slice none 0 0] 49)).alloc (.cells #[.pointer pt] 275)):=((Oy _ w).alloc (OA _) _).alloc zS _;have bN:Blk ((w.alloc (.cells #[.slice none 0 0] 49)).alloc (.cells #[.pointer pt] 275)) (w.heap.size+1) 275 #[.pointer pt]:=Blk.A8 _ _ _ zS;have j:∀k,(S0 k\/k=w.heap.size+1)->k<((w.alloc (.cells #[.slice none 0 0] 49)).alloc (.cells #[.pointer pt] 275)).heap.size:=by
  rintro k (f|rfl)
  ·have:=hS0 k f;simp;omega
  ·simp
 have Q:∀k,(S0 k\/k=w.heap.size+1)->k≠w.heap.size:=by
  rintro k (f|rfl)
  ·have:=hS0 k f;omega
  ·omega
 refine wpIn_rangeFunc_ownH rfl zP (gf:=221) (lb:=#[Z (w.heap.size+1) 0]) rfl trivial (enters_of func221 zR rfl)
  hst (λh k=>h.trans k) (λW l o o' hl R S h3=>el.put j W l o o' hl R S h3) (Oy _ _) (λ_=>rfl)
  (λpre W=>((∃v,Boxed W w.heap.size 49 v/\W.ownsRow w.heap.size 62 5 v pre.length (advs pre)/\True)/\M w W)/\(el (λk=>S0 k\/k=w.heap.size+1) ((w.alloc (.cells #[.slice none 0 0] 49)).alloc (.cells #[.pointer pt] 275)) W/\((w.alloc (.cells #[.slice none 0 0] 49)).alloc (.cells #[.pointer pt] 275)).heap.size<=W.heap.size))
  (λ_ _ _=>False)
  (OwnFrom.and (OwnFrom.and (Own.from (holdsRow_own w.heap.size w.heap.size 49 62 5 (λ(pre:List Adv)=>pre.length) (λpre=>advs pre) λ_ _=>True) _) (ownFrom_below (OA _) zT)) (Eg _ j))
  (λ_ _ _ _ _ hs _ _=>hs)
  ⟨⟨⟨_,bO.alloc _,Pn _ _ _ _,trivial⟩,ac⟩,el.refl _ _,OA _⟩
  (AxV (w.heap.size+2) pt w.heap.size) ?hAx ?assign ?body ?done ?stop
 case hAx=>
  rintro x a' _ W W' a5 ⟨b,R,S,u,e⟩ hg hr;refine⟨b,R,S,(hg.block b u.lt λy=>?_).trans u,e⟩;obtain⟨_,o,ho,T⟩:=hr b y.symm;unfold Blk at u;rw[u]at ho
  cases ho
  cases T
 case assign=>
  intro l pre x W K z hK;obtain⟨A,B,F,G,H⟩:=x;unfold Adv.val;gi_wp2;have i:M W (W.alloc (.cells (Adv.arr ⟨A,B,F,G,H⟩) 62)):=ae (Oy _ _) _;refine hK _ _ ((KeepsOthers.alloc W _).from _) (el.B5 i λk f=>OV (j k f) z.2.2) ?_ ⟨W.heap.size,?_,?_,Blk.A8 W 62 (Adv.arr ⟨A,B,F,G,H⟩) rfl,rfl⟩
  ·obtain⟨⟨⟨v,t,d,_⟩,g⟩,p,m⟩:=z;exact⟨⟨⟨v,t.alloc _,d.alloc _,trivial⟩,g.alloc g.size _⟩,p.trans (el.B5 i λk f=>OV (j k f) m),OJ m i.size⟩
  ·have:=z.2.2;simp at this;omega
  ·have:=z.2.2;simp at this;omega
 case body=>
  rintro l pre x a W _ _ ⟨⟨⟨v,t,d,_⟩,g⟩,p,m⟩ ⟨b,a6,i,N,rfl⟩ a7;have T:=t.cell;have a8:pre.length<4096:=zO;obtain⟨Av,cv,rfl,_,_⟩:=ak d;obtain⟨A,B,F,G,H⟩:=x;obtain⟨g0,g1,g2,g3,g4⟩:=N.G6;simp only at g0 g1 g2 g3 g4;clear N
  gi_wp2_with (gi_at_builtin;refine wpListIn_append_own _ rfl _ _ 49 rfl w.heap.size 62 i0 _ 5 40 jg.under hi X aa ab rfl zP _ _ _ rfl (d.alloc _) (Y W.heap.size 0) 1 1 (Adv.cells ⟨A,B,F,G,H⟩) rfl rfl (vT _ _ _ _ _ _ _) (by simp[Adv.cells,Value.oneCell']) zU zO (by have:=g.size;simp;omega) ?_;intro v' w1 q r _;obtain⟨g',U,rfl⟩:=ownsRow_succ q;obtain⟨O,ag,ah,P,i⟩:=t.appended zP d g.size (OA _) q r;have a9:=O.cell;have ba:=O.frozen)
  have ai:=(p _ (.inr rfl)).trans bN;have aj:=aB d ai zP;have s:el (λk=>S0 k\/k=w.heap.size+1) W (w1.setCell (Y w.heap.size 0) (V g' 0 (pre.length+1) U)):=by
   intro k f;have al:=OV (j k f) m;refine(Pd w1 _ _ k (Q k f)).trans ((r.block k zT ?_).trans (Qh W _ k al));intro e;have y:=e.symm
   rcases f with f|rfl
   ·have:=(d.lt _ y).1;have:=hS0 k f;omega
   ·exact aj y
  exact⟨P.from _,s,⟨⟨⟨_,ag,by simpa[advs]using ah,trivial⟩,g.trans i⟩,p.trans s,OJ m P.size⟩⟩
 case done=>
  rintro D ys W hD rfl ⟨⟨⟨v,t,d,_⟩,g⟩,_⟩ hK;have T:=t.cell;gi_wp2;refine⟨zS,.inl ⟨_,_,rfl,run_takeDeferred hK,?_⟩⟩;exact⟨_,results_tmp rfl _ _ _,v,rfl,ownsRow_putObj d _ hK rfl,g.trans (belowK_b (w:=w) (OA _) W D _ _ (by simp at hD;omega) hK rfl rfl)⟩
 case stop=>
  rintro D c pre W _ _ h _;exact h.elim
def Eh(hR:RgV w p B sl r):
  C 168 #[Z p 0] w λe w'=>∃v,e=.returned v/\aL 5 w w' 62 v r.list.length (advs r.list):=by
 have a:M w ((w.alloc (.cells #[.slice none 0 0] 49)).alloc (.cells #[Z p 0] 275)):=((Oy _ w).alloc (OA _) _).alloc zS _;have f:=Rg.length r;have b:=hR.ok.F5;have c:=hR.ok.fits;refine Ij _ (λk=>k=p\/sl.ownBlock=some k) r.list w ?_ zO (Nc 2 zP (w.heap.size+1) p B 275 sl r _ (Blk.A8 _ _ _ zS) (hR.up a));rintro k (rfl|d)
 ·exact hR.B0.lt
 ·exact(hR.own.lt k d).2
end
def wL(l:List Adv):∀u∈advs l,u.oneCell'=true:=by
 intro u a;unfold advs at a;obtain⟨x,_,b⟩:=QU.1 a;simp[Adv.cells]at b
 rcases b with rfl|rfl|rfl|rfl|rfl<;>rfl
def yZ(xs:List Adv)(A:Option Addr)(c n:Nat)(w:World)(hr:an w w.heap.size 5 A n (advs xs))(hn:n<=100000):
  C 109 #[.slice A n c] w λe w'=>∃v,e=.returned v/\aL 5 w w' 62 v n (advs xs):=by
 rcases A with _|b
 ·have a:n=0:=by
   rcases PR n with a|a
   ·exact a
   ·obtain⟨b,h,_⟩:=hr.2 a
    cases h
  subst a;have d:=OU (by simpa using hr.1);rw[d];clear hr d;have q:∀w,(binOp .eql 49 (.slice none 0 c) (.slice none 0 0)).run prog w=.ok (.bool true) w:=λw=>zR
  go_in
  go_wp2;go_ret;exact⟨_,rfl,aL.F8 5 w 62⟩
 ·have r:=Blk.A8 w 62 #[] (g:=w.heap.size) rfl;have f:=Ik (B:=w.heap.size) (s:=5) r (OA _);have j:=hr.alloc (OA _) (.cells #[] 62);obtain⟨i,t,u,l,m⟩:=info_parts jg.info;have x:=wL xs;have q:∀w,(binOp .eql 49 (.slice (some b) n c) (.slice none 0 0)).run prog w=.ok (.bool false) w:=λw=>zR
  go_in
  go_wp2_with (at_builtin;go_must (refine bP (w.alloc (.cells #[] 62)) rfl (.tmp 5) (.tmp 6) _ rfl w.heap.size 62 i _ 5 40 jg.under t u l m rfl zP _ 0 [] rfl f w.heap.size (some b) n c (advs xs) rfl j x zU zO zS ?_);intro y w' o p _)
  go_ret;refine⟨y,rfl,by simpa using o,?_⟩;exact(ae (Oy _ w) (.cells #[] 62)).grown p zS λk z=>(f.lt k z).1
def Ce(h:RgV w p B sl r):
  C 328 #[Z p 0] w λe w'=>∃q sl',e=.returned (Z q 0)/\w.heap.size<=q/\RgV w' q w.heap.size sl' r/\M w w':=by
 have m:=h.c0;have n:=h.c1;have s:=h.c2;have g:=h.B0.lt;have b:=h.ok;have t:=b.fits;have l:=b.F5;obtain⟨A,c,rfl,_,_⟩:=ak h.own;have d:=an.C4 h.own;have u:=Z1 (yZ r.items A c r.items.length w.drew d zO);clear h d
 go_in
 go_wp2;have f:=(zi w);refine zH (S:=λW=>M w W) f ?_;refine zq 3 ?_ (λW hW=>?_) ?_;rotate_left
 ·have D:=(OF hW (p:=Y p 0) g).trans m;exact zf
 refine zL ?_;refine zq 8 ?_ (λW hW=>?_) ?_;rotate_left
 ·have x:=(OF hW (p:=Y p 1) g).trans n;exact zf
 refine zL ?_;refine zq 12 ?_ (λW hW=>?_) ?_;rotate_left
 ·have F:=(OF hW (p:=Y p 2) g).trans s;exact zf
 refine zo 4 λK hK=>?_;go_simp;refine u.o.mono ?_;rintro x j ⟨v,rfl,i⟩;have a:=af f i.below;obtain⟨y,z,rfl,_,_,_⟩:=i.form;refine zJ hK a ?_;refine zo 14 λK hK=>?_;go_simp;have k:M w (j.alloc (.cells #[.slice y r.items.length z,I (r.from_:Int),I (r.room:Int)] 348)):=ae a _;refine zJ hK k ?_;go_wp2;go_ret;refine⟨j.heap.size,_,rfl,a.size,⟨Blk.A8 _ _ _ rfl,?_,b⟩,ae a _⟩;exact(i.alloc _).own
def fq{w:World}{g g':Nat}{t t':TypeId}{cs cs':Array Value}(h:Blk w g t cs)(h':Blk w g' t' cs')(hne:t≠t'):g≠g':=by
 rintro rfl;unfold Blk at h h';rw[h]at h';injection h' with h';injection h' with _ a;exact hne a
structure HAt(w:World)(q p B:Nat)(sl:Value)(r:Rg Adv):Prop where
 box:Blk w q 313 #[Z p 0]
 rg:RgV w p B sl r
 Bq:B<=q
 Bp:B<=p
def HAt.c0{w:World}{q p B:Nat}{sl:Value}{r:Rg Adv}(h:HAt w q p B sl r):w.cell? (Y q 0)=some (Z p 0):=by rw[h.box.cell];rfl
def HAt.up{w w':World}{q p B:Nat}{sl:Value}{r:Rg Adv}(h:HAt w q p B sl r)(hb:M w w'):HAt w' q p B sl r:=⟨h.box.later hb,h.rg.up hb,h.Bq,h.Bp⟩
def Ei(h:RgV w p B sl r)(hB:B<=w.heap.size):
  C 363 #[Z p 0,x.val] w λe w'=>(∃v,e=.returned v)/\∃sl',RgV w' p B sl' (r.push x)/\ag (λj=>j=p\/sl.ownBlock=some j) w w'/\(sl'.ownBlock=sl.ownBlock\/∀k,sl'.ownBlock=some k->w.heap.size<=k):=by
 by_cases a:r.items.length<r.room
 ·exact(Ee p B sl r x w h hB a).mono λe w' ⟨b,c⟩=>⟨⟨_,b⟩,c⟩
 ·exact(Cd p B sl r x w h hB a).mono λe w' ⟨b,c⟩=>⟨⟨_,b⟩,c⟩
def Il(h1:1<=n)(h2:n<=64):C 321 #[I (n:Int)] w λe w'=>∃q p,e=.returned (Z q 0)/\HAt w' q p w.heap.size (.slice none 0 0) ⟨[],0,n⟩/\M w w':=by
 have a:=Z1 (ej.N5 (cells:=advs) (s:=5) (T:=348) (e:=62) w n h1 zO rfl)
 go_in
 go_wp2_with (go_at_call 327;refine(Ig n _ h1 zO).mono ?_;rintro e w' ⟨rfl,rfl⟩)
 go_ret;refine⟨_,_,rfl,⟨Blk.A8 _ _ _ zS,a.o.up (ae (Oy _ _) _),zS,OA _⟩,ae (ae (Oy _ _) _) _⟩
def ut(p B:Nat)(sl:Value)(r:Rg Adv)(w:World)(h:HAt w q p B sl r):C 167 #[Z q 0] w λe w'=>e=.returned (Z p 0)/\w=w':=by
 have a:=h.c0
 go_in
 go_wp2;go_ret;exact⟨rfl,rfl⟩
def Ej(p B:Nat)(sl:Value)(r:Rg Adv)(w:World)(h:HAt w q p B sl r):C 129 #[Z q 0] w λe w'=>∃v,e=.returned v/\aL 5 w w' 62 v r.list.length (advs r.list):=by
 go_in
 go_wp2_with (first|(go_at_call 167;refine(ut _ _ _ _ _ _ h).mono ?_;rintro e w' ⟨rfl,rfl⟩)|(go_at_call 168;refine(Eh _ _ _ _ _ h.rg).mono ?_;rintro e w' ⟨v,rfl,a⟩;have b:=Z1 a;clear a))
 go_ret;exact⟨_,rfl,b.o⟩
def Cf(p B:Nat)(sl:Value)(r:Rg Adv)(w:World)(h:HAt w q p B sl r):
  C 323 #[Z q 0] w λe w'=>∃q' p' sl',e=.returned (Z q' 0)/\HAt w' q' p' w.heap.size sl' r/\M w w':=by
 have f:=h.c0
 go_in
 go_wp2_with (go_at_call 328;refine(Ce _ _ _ _ _ h.rg).mono ?_;rintro e g ⟨i,d,rfl,b,c,a⟩)
 go_ret;exact⟨_,_,_,rfl,⟨Blk.A8 _ _ _ rfl,c.up (ae (Oy _ _) _),a.size,b⟩,ae a _⟩
def Im(p B:Nat)(sl:Value)(r:Rg Adv)(x:Adv)(w:World)(h:HAt w q p B sl r)(hB:B<=w.heap.size):
  C 361 #[Z q 0,x.val] w λe w'=>e=.returned (.bool true)/\∃sl',HAt w' q p B sl' (r.push x)/\ag (λj=>j=p\/sl.ownBlock=some j) w w'/\(sl'.ownBlock=sl.ownBlock\/∀k,sl'.ownBlock=some k->w.heap.size<=k):=by
 obtain⟨b,c,d,f,g⟩:=x;have v:0<(r.push ⟨b,c,d,f,g⟩).items.length:=by
  have a:=h.rg.ok;unfold Rg.push;split
  ·simp
  ·have:=a.pos;simp;omega
 have F:=Z1 (λw (h:RgV w p B sl r) hB=>Ei p B sl r ⟨b,c,d,f,g⟩ w h hB);have G:=Blk.A8 w 62 (Adv.arr ⟨b,c,d,f,g⟩) rfl;have i:=zh w (.cells (Adv.arr ⟨b,c,d,f,g⟩) 62);obtain⟨H,L,N,O,P⟩:=G.G6;have y:=h.up i;have l:q≠p:=fq h.box h.rg.B0 zP;have m:∀k,sl.ownBlock=some k->q≠k:=λk a e=>aB h.rg.own h.box zP (by rw[a,e]);have n:=λk a=>(h.rg.own.lt k a).1;have A:=Z3 l m n;clear l m n;unfold Adv.val Adv.arr at*;simp only at*
 go_in
 go_wp2_with (first|(go_at_call 167;refine(ut _ _ _ _ _ _ y).mono ?_;rintro e w' ⟨rfl,rfl⟩)|(go_at_call 363;refine(F.o _ y.rg (OJ hB i.size)).mono ?_;rintro e Q ⟨⟨R,rfl⟩,D,s,t,u⟩;have z:=Z2 t u;clear t u)|(go_at_call 222;refine(rk _ _ _ _ _ s).mono ?_;rintro e w' ⟨rfl,rfl⟩))
 go_ret;refine⟨?_,D,⟨z.o.1.B0 y.box ?_,s,h.Bq,h.Bp⟩,(ag.B5 i).trans z.o.1,z.o.2.imp id λh k a=>OJ i.size (h k a)⟩
 ·simp[v]
 ·rintro(e|e)
  ·exact A.o.1 e
  ·exact A.o.2.1 _ e rfl
end Go.Fw
