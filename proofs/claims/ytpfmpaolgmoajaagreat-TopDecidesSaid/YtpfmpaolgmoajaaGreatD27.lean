/- Lemmas of this claim. Conditions: as each says. -/
import Derived.Test.YtpfmpaolgmoajaaGreatD22
import Derived.Test.YtpfmpaolgmoajaaGreatD26
set_option linter.unusedVariables false
set_option linter.unusedSimpArgs false
set_option maxHeartbeats 4000000
set_option maxRecDepth 20000
set_option linter.defProp false
open Go.Proofs.Tryz
namespace Go.Fw
open Go.RowKit open Go.Proofs hiding intOf
variable (st sa lo hi:Int)(ps:List (List Cl))(A:Option Addr)(k:Nat)(wk:Int)(w:World)(n kp:Nat)(Ap:Option Addr)
def ST(A Ap:Option Addr)(n k np kp:Nat)(w:World)(hP:dv w A n ps)(hn:n<=10000000000000)(hnp:np<=maxLen)(hst:aq st)(hwk:aq wk)(hL:(decide (st<=8)&&ef ps wk np)=false):
  C 6 #[.agg #[I st,I sa,I lo,I hi],.slice A n k,I wk,.slice Ap np kp] w (J (.bool true) w):=by
 have c:=zh w (.cells #[I st,I sa,I lo,I hi] 23);have d:=Blk.A8 w 23 #[I st,I sa,I lo,I hi] rfl;have f:=Z1 (λW (hW:M w W)=>pZ st sa lo hi ps wk A Ap n k np kp W (hP.up hW) hn hnp hst hwk);rw[hL]at f;have j:=Z1 (λW=>pY W);have g:=Z2 c d
 go_in
 go_wp2_with fail;refine zm (j.o _) λl b=>?_;have a:=Z2 (af g.o.1 b) (g.o.2.later b);have m:=a.o.2.cell 0;have p:=a.o.2.cell 1;have q:=a.o.2.cell 2;have r:=a.o.2.cell 3;go_wp2_with fail;refine zm (f.o _ a.o.1) λs h=>?_;have i:=Z1 (af a.o.1 h);go_wp2;go_ret;exact⟨rfl,i.o⟩
def SI(A Ap:Option Addr)(n k np kp:Nat)(w:World)(hP:dv w A n ps)(hn:n<=1000000)(hnp:np<=maxLen)(hst:aq st)(hwk:aq wk)(hL:(decide (st<=8)&&ef ps wk np)=true)(h0:cj st sa lo hi ps wk≠0):
  C 6 #[.agg #[I st,I sa,I lo,I hi],.slice A n k,I wk,.slice Ap np kp] w (J (.bool true) w):=by
 have g:=zh w (.cells #[I st,I sa,I lo,I hi] 23);have h:=Blk.A8 w 23 #[I st,I sa,I lo,I hi] rfl;have i:=Z1 (λW (hW:M w W)=>pZ st sa lo hi ps wk A Ap n k np kp W (hP.up hW) zO hnp hst hwk);rw[hL]at i;have q:=Z1 (λW=>pY W);have j:=Z1 (λW (hW:M w W)=>yC W st sa lo hi ps A Ap n k np kp wk (hP.up hW) hn hwk h0);unfold kG at j;generalize cj st sa lo hi ps wk=r at*;have y:(r==0)=false:=by simpa using h0
 have l:=Z2 g h
 go_in
 go_wp2_with fail;refine zm (q.o _) λz c=>?_;have a:=Z2 (af l.o.1 c) (l.o.2.later c);have s:=a.o.2.cell 0;have t:=a.o.2.cell 1;have u:=a.o.2.cell 2;have v:=a.o.2.cell 3;go_wp2_with fail;refine zm (i.o _ a.o.1) λB d=>?_;have b:=Z2 (af a.o.1 d) (a.o.2.later d);have s:=b.o.2.cell 0;have t:=b.o.2.cell 1;have u:=b.o.2.cell 2;have v:=b.o.2.cell 3;go_wp2_with fail;refine zm (j.o _ b.o.1) λx f=>?_;have m:=Blk.A8 x 38 #[.slice none 0 0,I 0,I 0,.slice none 0 0,.bool false] rfl;have p:=Z3 (ae (af b.o.1 f) (.cells #[.slice none 0 0,I 0,I 0,.slice none 0 0,.bool false] 38)) ((b.o.2.later f).alloc (.cells #[.slice none 0 0,I 0,I 0,.slice none 0 0,.bool false] 38)) m;go_wp2;go_ret;exact⟨rfl,p.o.1⟩
def SU(c:Cg)(ps:List (List Cl))(hp:ge c ps)(A Ap:Option Addr)(n k np kp m:Nat)(w:World)(hP:dv w A n ps)(hn:ps.length+m<=32)(hn0:0<ps.length+m)(h0:cj c.st c.sa c.lo c.hi ps m=0)
  (raw:List Int)(hl:∀p∈raw,aq p)(hr:an w w.heap.size 1 Ap np (i64s raw))(hu:np<=30000)(hL:(decide ((c.st:Int)<=8)&&ef ps m np)=true):
  C 6 #[.agg #[I c.st,I c.sa,I c.lo,I c.hi],.slice A n k,I m,.slice Ap np kp] w (J (.bool true) w):=by
 have dq:=zh w (.cells #[I c.st,I c.sa,I c.lo,I c.hi] 23);have dr:=Blk.A8 w 23 #[I c.st,I c.sa,I c.lo,I c.hi] rfl;have fa:=Cg.I0 hp.cfg;have HC:=Z1 (λW (hW:M w W)=>pZ c.st c.sa c.lo c.hi ps m A Ap n k np kp W (hP.up hW) (by have:=hP.len;omega) zU (by unfold aq;omega) (by unfold aq;omega));rw[hL]at HC;have HA:=Z1 (λW=>pY W);have HR:=Z1 (λW (hW:M w W)=>Tc W c ps hp A Ap n k np kp m (hP.up hW) hn hn0 h0 raw hl (hr.up hW) hu);have HI:=Z1 hp.cfg;have HB:=Z2 dq dr;clear dq dr hP hL h0 hp hn hn0 hl hr hu fa
 go_in
 go_wp2_with fail;refine zm (HA.o _) λw1 bz=>?_;have T:=Z2 (af HB.o.1 bz) (HB.o.2.later bz);clear bz;have c0:=T.o.2.cell 0;have c1:=T.o.2.cell 1;have c2:=T.o.2.cell 2;have c3:=T.o.2.cell 3;go_wp2_with fail;refine zm (HC.o _ T.o.1) λw2 b4=>?_;have X:=Z2 (af T.o.1 b4) (T.o.2.later b4);clear b4 c0 c1 c2 c3;have c0:=X.o.2.cell 0;have c1:=X.o.2.cell 1;have c2:=X.o.2.cell 2;have c3:=X.o.2.cell 3;obtain⟨l,mp,ds,fd,a8,dt,du⟩:=HR.o w2 X.o.1;have fe:=Z1 du;have HT:=Z3 ds a8 dt;clear du ds a8 dt;go_wp2_with fail;refine fe.o.mono ?_;rintro e3 w3 ⟨A3,H,u,r,A4,n4,k4,b,rfl,b5,bi,b7⟩;obtain⟨N,hN⟩:∃N,N=l.length:=⟨_,rfl⟩;rw[<-hN]at bi b5;rw[<-hN];have dx:=Blk.A8 w3 38 #[.slice A3 N H,I u,I r,.slice A4 n4 k4,.bool b] rfl;have aa:=ae (Oy _ w3) (.cells #[.slice A3 N H,I u,I r,.slice A4 n4 k4,.bool b] 38);have g:=Z6 (af (af X.o.1 b7) aa) ((X.o.2.later b7).later aa) dx (bi.up aa) hN b5;have gm:N<=60000:=zO;clear b7 aa c0 c1 c2 c3 dx bi hN fd b5;go_upto_region 8 with fail
 generalize w3.alloc (.cells #[.slice A3 N H,I u,I r,.slice A4 n4 k4,.bool b] 38)=w4 at*;have o0:w4.cell? (Y w3.heap.size 0)=some (.slice A3 N H):=g.o.2.2.1.cell 0;go_wp2_with fail;go_loopw [43] (λi wr=>∃(j:Nat),j<=N/\i=I j/\Hid (M w4 wr)) (λi _=>N-(intOf i).toNat)
 case atStart=>exact⟨0,OK _,rfl,Z1 (Oy _ _)⟩
 case round=>
  obtain⟨j,hj,rfl,HM⟩:=hrel;clear o0;by_cases gn:j<N
  ·have bk:j<l.length:=by have:=g.o.2.2.2.2.1;omega
   have dy:j<(l.map aK).length:=by simpa using bk
   have bl:=g.o.2.2.2.1.up HM.o;rw[<-iL]at bl;obtain⟨b6,o6,rfl,go,av⟩:=mw (jU λx hx=>(HT.o.1.O3 x hx).ok) bl dy;have dz:(l.map aK)[j]=aK l[j]:=zS;rw[dz]at av;have cb:=HT.o.1.O3 _ (OR bk);have hx:=oG cb.ok;have d5:=HT.o.2.1 j bk;have f8:(j:Int)<(N:Int):=zO;generalize l[j]=x at*;have ck:=eu (w:=wr) (t:=79) hx.c0;have bm:(aK x).cs=x.arr:=rfl;have d6:(aK x).kind=x.kind:=rfl;rw[bm]at ck;rw[d6]at ck;have d:=Z3 hx.size hx.all (dw av);rw[bm]at d;have d7:=Blk.A8 wr 79 x.arr rfl;have d8:=ae HM.o (.cells x.arr 79);have HX:=Z4 d7 d8 cb d5;clear av hx dz bm d6 d7 d8 cb d5 bl dy;by_cases h6:x.kind=6
   ·rw[h6]at ck;have hd:=HX.o.2.2.2 h6;obtain⟨y,id,hy,ce,bn,d9,a8,ea⟩:=hd.dec;have ff:=hd.N9;have eb:=hd.D9;have fg:=hd.Q3;obtain⟨sI,bs⟩:∃s:Nat,ca (l.take j) 5 x.task=(s:Int):=⟨(ca (l.take j) 5 x.task).toNat,zO⟩;have ec:=(Sx (l.take j) 5 x.task).2;rw[PG,Qp zO,bs]at ec;have fh:sI<=j:=zO;have ed:=λ(U:World) (kd:Int) (hU:M w4 U)=>SJ (l.take j) (λz hz=>(HT.o.1.O3 z (Qb hz)).ok) kd x.task (some (Y b6 o6)) H j U (SM (g.o.2.2.2.1.up hU) hj) zO;have HL:=Z1 ed;have ee:(l.take j).take sI=l.take sI:=by rw[Sf,Qp fh]
    rw[bs]at hy eb;rw[PH,ee]at hy;have fi:=Z1 (λ(U:World) (hU:M w4 U)=>SO c HI.o l HT.o.1.O3 HT.o.1.U0 (some (Y b6 o6)) H N sI U (g.o.2.2.2.1.up hU) zO zO);have eg:=lQ c l sI zO;have cf:=λ(U:World)=>De id U ce;rw[<-bn]at cf;have HU:=Z1 cf;have fj:Blk (wr.alloc (.cells x.arr 79)) wr.heap.size 79 x.arr:=HX.o.1;have B:=Z9 bs hy ce bn d9 a8 ea eg HX.o.2.2.1.ok;have gp:j<=H:=by have:=g.o.2.2.2.2.2;omega
    generalize eh:ca (l.take j) 4 x.task=q4 at*;generalize ei:ca (l.take j) 7 x.task=q7 at*;have gq:¬q4<0:=zO;have gr:¬(sI:Int)<q4:=zO;have gs:¬q4<q7:=zO;have HQ:=Z2 eh ei;clear ed cf fj hy ce bn d9 a8 ea eg hd bs ec ee eh ei ff eb fg h6;go_upto_region 12 with(first|(refine aG ba rfl (.tmp 46) rfl (Y b6 (o6+j*34)) zF x.arr d.o.1 d.o.2.2 ?_)|(refine aS ba rfl rfl ?_)|(refine aT ba rfl (.tmp 12) (.tmp 47) rfl _ rfl zF x.arr _ zF _ d.o.1 ba.D6 d.o.2.1 ?_))
    have HE:=Z2 HX.o.1 (g.o.2.2.1.later HX.o.2.1);have am:=Z2 HX.o.2.1 (g.o.2.1.later HX.o.2.1);clear ck;generalize fl:wr.heap.size=D at*;clear fl;generalize wr.alloc (.cells x.arr 79)=L at*;have a:M L L.drew:=(Oy _ _).drew;refine zH (S:=λW=>M L W) a ?_;refine zq 1 ?_ (λW hW=>?_) ?_;rotate_left
    ·have qq:W.cell? (Y w3.heap.size 0)=some (V b6 o6 N H):=(HE.o.2.later hW).cell 0;exact zf
    refine zL ?_;refine zq 5 ?_ (λW hW=>?_) ?_;rotate_left
    ·have qq:W.cell? (Y D 1)=some (I x.task):=(HE.o.1.later hW).cell 1;exact zf
    refine zo 6 λK hK=>?_;go_simp;refine zm (HL.o _ 5 (af am.o.1 a)) λw5 aa=>?_;have ch:=af a aa;rw[B.o.1];refine hK _ _ ch ?_;clear hK aa;refine zn ?_;refine zL ?_;go_upto_region 13 with fail
    clear a;have a:M L w5.drew:=ch.drew;refine zH (S:=λW=>M L W) a ?_;refine zq 1 ?_ (λW hW=>?_) ?_;rotate_left
    ·have qq:W.cell? (Y w3.heap.size 0)=some (V b6 o6 N H):=(HE.o.2.later hW).cell 0;exact zf
    refine zL ?_;refine zq 5 ?_ (λW hW=>?_) ?_;rotate_left
    ·have qq:W.cell? (Y D 1)=some (I x.task):=(HE.o.1.later hW).cell 1;exact zf
    refine zo 6 λK hK=>?_;go_simp;refine zm (HL.o _ 4 (af am.o.1 a)) λw6 ej=>?_;have ci:=af a ej;rw[HQ.o.1];refine hK _ _ ci ?_;clear hK ej;refine zn ?_;refine zL ?_;go_upto_region 14 with fail
    clear a ch;have a:M L w6.drew:=ci.drew;refine zH (S:=λW=>M L W) a ?_;refine zq 9 ?_ (λW hW=>?_) ?_;rotate_left
    ·have qq:W.cell? (Y w3.heap.size 0)=some (V b6 o6 N H):=(HE.o.2.later hW).cell 0;exact zf
    refine zL ?_;refine zq 13 ?_ (λW hW=>?_) ?_;rotate_left
    ·have qq:W.cell? (Y D 1)=some (I x.task):=(HE.o.1.later hW).cell 1;exact zf
    refine zL ?_;refine zo 14 λK hK=>?_;go_simp;refine zm (HL.o _ 7 (af am.o.1 a)) λw7 ek=>?_;have ao:=af a ek;rw[HQ.o.2];refine hK _ _ ao ?_;clear hK ek;refine zn ?_;refine zL ?_;clear a ci;have ab:=Z4 (HE.o.1.later ao) (HE.o.2.later ao) (af am.o.1 ao) (am.o.2.later ao);clear ao HE am;go_upto_region 16 with fail
    have fn:w7.cell? (Y D 27)=some (E x.key.hi):=ab.o.1.cell 27;have fo:w7.cell? (Y D 28)=some (E x.key.lo):=ab.o.1.cell 28;go_wp2_with fail;refine zm (HU.o _) λw8 bf=>?_;have F:=Z4 (ab.o.1.later bf) (ab.o.2.1.later bf) (af ab.o.2.2.1 bf) (ab.o.2.2.2.later bf);clear bf fn fo ab;go_upto_region 17 with fail
    have c0:=F.o.2.2.2.cell 0;have c1:=F.o.2.2.2.cell 1;have c2:=F.o.2.2.2.cell 2;have c3:=F.o.2.2.2.cell 3;have o0:w8.cell? (Y w3.heap.size 0)=some (V b6 o6 N H):=F.o.2.1.cell 0;go_wp2_with fail;refine(fi.o _ F.o.2.2.1).mono ?_;rintro e9 Q ⟨mb,lb,rfl,cl⟩;obtain⟨fs,kv,cv,bg⟩:=cl.at_;have ap:=cl.below;have G:=Z3 (F.o.1.later ap) (af F.o.2.2.1 ap) bg;have q:=jk bg.C1.ids B.o.2.2.1;rw[<-bg.ls,<-B.o.2.2.2.1,B.o.2.1]at q;have fu:∃f,eA fs id=some f/\f.x=y:=by
     cases hg:eA fs id with
     |none=>rw[hg]at q;cases q
     |some f=>rw[hg]at q;injection q with q;exact⟨f,rfl,q.symm⟩
    obtain⟨f,hg,hf⟩:=fu;have bo:(dG fs id).x=y:=by unfold dG;rw[hg];exact hf
    have bt:y.C6 c:=by rw[<-bo];exact mv bg.C1 id
    have bp:id.size<=maxLen:=by obtain⟨s1,s2,s3⟩:=dn B.o.2.2.1;unfold maxLen;omega
    have ac:=Z1 (λU (hU:M Q U)=>SN U c HI.o mb lb fs kv cv _ (G.o.2.2.up hU) id bp);have cn:=Z1 (λU (hU:M Q U)=>FO U c HI.o mb lb fs kv cv _ (G.o.2.2.up hU) id bp);have el:SF y true=x.E0:=by unfold SF rt;rw[OB ⟨rfl,B.o.2.2.2.2.1⟩,OB B.o.2.2.2.2.2.1,B.o.2.2.2.2.2.2.1]
    have em:SG y true=0:=by unfold SG;rw[OB ⟨rfl,B.o.2.2.2.2.1⟩,B.o.2.2.2.2.2.1]
    rw[bo,hg]at ac cn;simp only[Rl]at ac cn;rw[el,em]at ac;have HF:=Z1 bt;clear cl bg ap q hg hf bo bt bp el em c0 c1 c2 c3 o0 F;go_upto_region 18 with fail
    have ay:∃a0 a1 a2 a3 a4,x.E0=⟨a0,a1,a2,a3,a4⟩:=⟨_,_,_,_,_,rfl⟩;obtain⟨a0,a1,a2,a3,a4,ay⟩:=ay;have bq:=B.o.2.2.2.2.2.2.2.2.E0;have cp:=B.o.2.2.2.2.2.2.1;have cq:Q.cell? (Y D 29)=some (I x.E0.tick):=G.o.1.cell 29;have cr:Q.cell? (Y D 30)=some (I x.E0.load):=G.o.1.cell 30;have ct:Q.cell? (Y D 31)=some (I x.E0.want):=G.o.1.cell 31;have cu:Q.cell? (Y D 32)=some (I x.E0.V1):=G.o.1.cell 32;have cw:Q.cell? (Y D 33)=some (I x.E0.I8):=G.o.1.cell 33;rw[ay]at cq cr ct cu cw ac bq cp;have cx:=Z1 (SZ ⟨a0,a1,a2,a3,a4⟩ bq);have en:=Z1 cp;have fx:D<Q.heap.size:=G.o.1.lt;have HD:=Z5 cq cr ct cu cw;unfold Adv.arr at ac cx;simp only at ac cx;clear ay bq cp cq cr ct cu cw;go_wp2_with fail;refine zm (ac.o _ (Oy _ _)) λcz c4=>?_;have c5:=Blk.A8 cz 62 #[I 0,I 0,I 0,I 0,I 0] rfl;go_upto_region 19 with(refine zj gu c5 ?_;intro gt eo c6)
    have c7:=af c4 (c6.below (zh cz _) (OA _));generalize cz.heap.size=va at*;have az:=Z2 eo c7;clear eo c6 c5 c7 c4;go_wp2_with fail;refine(cn.o _ az.o.2).mono ?_;rintro gv c8 ⟨sv,pv,rfl,bh⟩;obtain⟨A1,s1,rfl,_,_⟩:=ak bh.D2;obtain⟨A2,s2,rfl,_,_⟩:=ak bh.C0;have ep:=Z1 bh;have c9:=bh.below;have da:=Blk.A8 c8 53 (ldC (.slice none 0 0) (.slice none 0 0) .new) rfl;have HY:=Z3 B.o.2.2.2.2.1 B.o.2.2.2.2.2.1 HF.o;have fy:∃R r p0 p1 p2 p3 O P,y=⟨R,r,⟨p0,p1,p2,p3,O,P⟩,true⟩:=by
     obtain⟨R,r,⟨p0,p1,p2,p3,O,P⟩,ru⟩:=y;have h1:ru=true:=HY.o.1;subst h1;exact⟨_,_,_,_,_,_,_,_,rfl⟩
    obtain⟨R,r,p0,p1,p2,p3,O,P,rfl⟩:=fy;simp only[ldV]at*;clear bh;go_upto_region 20 with(refine zj gO da ?_;intro db dc dd)
    have br:=dd.below (zh c8 _) (OA _);have eq:=(ep.o.dec HI.o HY.o.2.2).up br;have aj:=af c9 br;generalize c8.heap.size=vl at*;have a5:=Z2 dc aj;have er:=az.o.1.later a5.o.2;have de:=Z1 (af az.o.2 a5.o.2);have fz:=Z1 eq;clear c9 da dd br aj eq ep;obtain⟨⟨t0,t1,t2,t3,t4,t5,t6,t7,t8⟩,_⟩:=eR dc;obtain⟨⟨k0,k1,k2,gw,gx⟩,_⟩:=eO er;have ar:∀i v,Q.cell? (Y D i)=some v->db.cell? (Y D i)=some v:=λi v h=>(OF de.o (p:=Y D i) fx).trans h;have d0:=ar _ _ HD.o.1;have d1:=ar _ _ HD.o.2.1;have d2:=ar _ _ HD.o.2.2.1;have d3:=ar _ _ HD.o.2.2.2.1;have d4:=ar _ _ HD.o.2.2.2.2;have gy:=cx.o;have al:Pl.right ⟨p0,p1,p2,p3,O,P⟩=true:=HY.o.2.2.D8 rfl;have a6:=JZ al (ofS r (dg R) P (kq ⟨p0,p1,p2,p3,O,P⟩ (atF R (dg R) O).F3 (jG ⟨p0,p1,p2,p3,O,P⟩ r))).1;have es:a3=eW ⟨p0,p1,p2,p3,O,P⟩ (ofS r (dg R) P (kq ⟨p0,p1,p2,p3,O,P⟩ (atF R (dg R) O).F3 (jG ⟨p0,p1,p2,p3,O,P⟩ r))).1:=congrArg Adv.V1 en.o;rw[<-es]at a6;have HH:=Z1 (λU=>SL ⟨p0,p1,p2,p3,O,P⟩ a3 U al a6.1 a6.2.1);have df:=λ(U:World) (hU:M db U)=>SS ⟨p0,p1,p2,p3,O,P⟩ R r A1 A2 R.length r.length s2 U (fz.o.up hU) HY.o.2.1;rw[<-en.o]at df;have dh:=Z1 df;unfold Adv.arr at dh;simp only[Pl.val,Pl.arr]at HH dh;have e7:=Z1 (af G.o.2.1 de.o);generalize R.length=n1 at*;generalize r.length=n2 at*;clear al a6 es df ar er dc
    go_wp2_with (first|(go_at_call 38;(with_reducible refine(HH.o _).mono ?_);rintro e gz ⟨rfl,aj⟩;have a7:=Z1 aj;clear aj;obtain⟨⟨g0,g1,g2,g3,g4,g5,g6,g7,g8⟩,_⟩:=eR (a5.o.1.later a7.o);obtain⟨⟨m0,m1,m2,m3,m4⟩,_⟩:=eO ((az.o.1.later a5.o.2).later a7.o))|(go_at_call 39;(with_reducible refine(dh.o _ a7.o).mono ?_);rintro e g9 ⟨rfl,di⟩;have e8:=Z1 (af (af e7.o a7.o) di);clear di))
    go_roundw
    case rel=>exact⟨j+1,zO,by go_num,e8⟩
    case measure=>simp[intOf];omega
   ·have q6:(x.kind==6)=false:=by simpa using h6
    generalize x.kind=xk at*;generalize et:x.arr=cs at*;have HG:=Z1 et;clear et h6
    go_wp2_with (first|(refine aG ba rfl (.tmp 46) rfl (Y b6 (o6+j*34)) zF cs d.o.1 d.o.2.2 ?_)|(refine aS ba rfl rfl ?_)|(refine aT ba rfl (.tmp 12) (.tmp 47) rfl _ rfl zF cs _ zF _ d.o.1 ba.D6 d.o.2.1 ?_))
    go_roundw
    case rel=>exact⟨j+1,zO,by go_num,Z1 HX.o.2.1⟩
    case measure=>simp[intOf];omega
  ·obtain rfl:N=j:=zO;have o0:wr.cell? (Y w3.heap.size 0)=some (.slice A3 N H):=(g.o.2.2.1.later HM.o).cell 0;have f2:=Z1 (SR l (λz hz=>(HT.o.1.O3 z hz).ok) HT.o.2.2 A3 H N wr (g.o.2.2.2.1.up HM.o) zO);go_wp2_with fail;refine zm f2.o λQ ap=>?_;have f3:=Z1 (af (g.o.1.trans (HM.o.mono g.o.1.size)) ap);clear ap o0;go_wp2;go_ret;exact⟨rfl,f3.o⟩
def SA(ps:List (List Cl))(wk:Int)(l:List Int)(Ap:Option Addr)(kp:Nat)(w:World)(hc:aq st/\aq sa/\aq lo/\aq hi)(hP:dv w A n ps)(hx:∀p∈ps,∀x∈p,x.ok)(hwk:aq wk)(hr:an w w.heap.size 1 Ap l.length (i64s l))(hs:rZ l)(hl:l.length<=maxLen/\l.length<=kp)(hn:n<=10000000000000):
  C 6 #[.agg #[I st,I sa,I lo,I hi],.slice A n k,I wk,.slice Ap l.length kp] w (J (.bool true) w):=by
 cases hL:(decide (st<=8)&&ef ps wk l.length)with
 |false=>exact ST st sa lo hi ps wk A Ap n k l.length kp w hP hn hl.1 hc.1 hwk hL
 |true=>
  obtain⟨h,i,j,o,q⟩:=vR hL;have g:=hP.len;by_cases a:cj st sa lo hi ps wk=0
  ·obtain⟨c,m,rfl,rfl,rfl,rfl,rfl,b,d,f⟩:=DS hL a hx;exact SU c ps b A Ap n k l.length kp m w hP d f a l (KU hs) hr zO hL
  ·exact SI st sa lo hi ps wk A Ap n k l.length kp w hP zO hl.1 hc.1 hwk hL a
end Go.Fw
