/- Lemmas of this claim. Conditions: as each says. -/
import Derived.Test.YtpfmpaolgmoajaaGreatS19
set_option linter.unusedVariables false
set_option linter.unusedSimpArgs false
set_option maxHeartbeats 4000000
set_option maxRecDepth 20000
set_option linter.defProp false
open Go.Proofs.Tryz
namespace Go.Fw
open Go.RowKit open Go.Proofs hiding intOf
def TI{c:Cg}{zs:List (K2×Nd)}{fs:List Fe}(hc:Fk c zs (fls fs))(hd:cw zs)(hi:∀f∈fs,bd f.id=true){id:ByteArray}(h:id∈fs.map (·.id)):
  bd id=true/\∃z,ap zs (av id)=some z/\(dG fs id).x=z.x/\(eA fs id).isSome=true/\z.x.C6 c:=by
 obtain⟨g,b,rfl⟩:=Pa.1 h;have d:=hi g b;obtain⟨f,e⟩:=Tp b;have a:=jk hi d;have i:cw (lds zs):=by unfold cw lds;rw[Px];exact hd
 rw[e,<-uB i hc.perm,tP]at a;refine⟨d,?_⟩
 cases hz:ap zs (av g.id)with
 |none=>rw[hz]at a;cases a
 |some z=>
  rw[hz]at a;injection a with a;exact⟨z,rfl,by unfold dG;rw[e];exact a.symm,by rw[e];rfl,hc.C6 _ (bR hz)⟩
def TA(w:World)(c:Cg)(hc:c.ok)(T:Nat->Tg)(cb:Nat)(ep:Int)(zs:List (K2×Nd))(h:eK w c T cb ep zs)(mb lb:Nat)(fs:List Fe)(kv:List (Option (Nat×List Fe)))(cv:Value)(m:Mp)(hf:cq w c mb lb fs kv cv m)(hr:Fk c zs (fls fs))(TO wd:Int)(ha:aq TO)(hb:aq wd):
  C 34 #[Z cb 0,Z mb 0,I TO,I wd] w (J (.bool true) w):=by
 have hs:=Cg.small hc;have cd:=hr.E5;have t:fs.length=zs.length:=by
  have:=hr.perm.length_eq;simpa[lds,fls]using this.symm
 have HI:=Z1 (Jz w c mb lb fs kv cv m hf zO);have HK:=Z1 (λU (a:M w U)=>Tz U c T cb ep zs (h.up a) zO);have HS:=Z1 (λu (hi:u∈fs.map (·.id))=>TI hr h.D7 hf.C1.ids hi);have HG:=Z1 (λU (a:M w U) k=>xq U c T cb ep zs (h.up a) zO k);have HL:=Z1 (λU (a:M w U) i g=>FO U c hc mb lb fs kv cv m (hf.up a) i g);have HT:=Z1 (λU (a:M w U) k z hg hz hs=>CL U c T cb ep zs (h.up a) zO k z hg hz hs TO wd ha hb);have HN:=Z1 (λU (a:M w U) k z (hg:ap zs k=some z)=>(h.up a).nodes _ (bR hg));obtain⟨n,hn⟩:∃n,n=zs.length:=⟨_,rfl⟩;rw[<-hn]at HK t;have c8:n<=20000:=zO;have HC:=Z3 ha hb hs;clear h hf hr hc hs cd hn ha hb
 go_in
 go_wp2_with fail;refine HI.o.mono ?_;rintro e w1 ⟨v,q,rfl,hp,ho,bd⟩;obtain⟨A1,s1,rfl,_,_⟩:=ak ho;have g:q.length=n:=by rw[hp.length_eq,Pe];exact t
 have ai:=an.C4 ho;rw[g]at ai;rw[g];have H1:=Z4 bd g hp ai;clear ho bd g hp ai t HI;go_wp2_with fail;refine(HK.o w1 H1.o.1).mono ?_;rintro e b ⟨A2,c2,rfl,al⟩;have H2:=Z2 (af H1.o.1 al) (H1.o.2.2.2.up al);clear al HK;go_wp2_with fail;go_loopw [30] (λi wr=>∃(j:Nat),j<=n/\i=I j/\Hid (M b wr)) (λi _=>n-(intOf i).toNat)
 case atStart=>exact⟨0,OK _,rfl,Z1 (Oy _ _)⟩
 case round=>
  obtain⟨j,hj,rfl,HM⟩:=hrel;by_cases cl:j<n
  ·have be:j<q.length:=by have:=H1.o.2.1;omega
   obtain⟨ad,v,rfl,_,hx,a8⟩:=(H2.o.2.up HM.o).at_ cl;have cm:v=.string q[j]:=by simp[be]at hx;exact hx.symm
   subst cm;obtain⟨bf,z,hz,am,bg,p⟩:=HS.o q[j] (H1.o.2.2.1.mem_iff.1 (OR be));have c9:(j:Int)<(n:Int):=zO;generalize q[j]=u at*;have hW:=HM.o;have HP:=Z1 (λU=>oA u U bf);have ao:u.size<=maxLen:=by obtain⟨s1,s2,s3⟩:=dn bf;unfold maxLen;omega
   have D:z.x.D2.length<=1000:=by have:=p.E5;have:=HC.o.2.2;omega
   have F:=uV p;have bh:=Z1 (λU (a:M b U)=>HG.o U (af H2.o.1 a) (av u));rw[hz]at bh;have bi:=Z1 (λU (a:M b U)=>HL.o U (af H2.o.1 a) u ao);rw[am,bg]at bi;have cn:=Z1 (λU (a:M b U)=>HT.o U (af H2.o.1 a) _ z hz D F);have ar:=Z1 (λU (a:M b U)=>HN.o U (af H2.o.1 a) _ z hz);obtain⟨bj,⟨G,b0,⟨p0,p1,p2,p3,p4,p5⟩,ru⟩,da⟩:=z;simp only at D F;have bk:=Z1 (λU (a:M b U)=>uC U c bj _ true _ (ar.o U a));have bl:=Z1 (λU (a:M b U)=>px U c bj _ true _ (ar.o U a) D);have co:=Z1 (λA s (nn:Nat) U (hr:an U U.heap.size 2 A nn (smps G)) (db:nn<=1000)=>tJ G A s nn TO wd U hr zO F HC.o.1 HC.o.2.1);generalize atF G TO wd=st at*;obtain⟨s0,s1,s2,s3,s4⟩:=st;obtain⟨n3,au⟩:∃n3,n3=G.length:=⟨_,rfl⟩;obtain⟨n4,aw⟩:∃n4,n4=b0.length:=⟨_,rfl⟩;have cp:n3<=1000:=zO;generalize av u=f at*;unfold K2.val K2.arr tT St.arr at*;simp only[<-au,<-aw]at bk bl;have ax:=Z2 au aw;have cr:=Z1 hW;clear hW au aw D F hz am bg p ao HG HL HT HN ar HS;go_wp2_with fail;refine(HP.o _).mono ?_;rintro e3 w3 ⟨rfl,bm⟩;have cs:=Z1 (af cr.o bm);clear bm a8 hx;go_upto_region 8 with fail
   have bn:=ae cs.o (.cells #[E f.hi,E f.lo] 58);have H:=Blk.A8 w3 58 #[E f.hi,E f.lo] rfl;generalize w3.alloc (.cells #[E f.hi,E f.lo] 58)=w4 at*;generalize w3.heap.size=vk at*;have ay:=Z2 bn H;have c0:w4.cell? (Y vk 0)=some (E f.hi):=H.cell 0;have c1:w4.cell? (Y vk 1)=some (E f.lo):=H.cell 1;clear bn H;go_wp2_with fail;refine(bh.o _ ay.o.1).mono ?_;rintro e5 w5 ⟨rfl,az⟩;clear c0 c1;have a0:=Z2 (af ay.o.1 az) (ay.o.2.later az);clear az;go_wp2_with fail;refine(bi.o _ a0.o.1).mono ?_;rintro e6 w6 ⟨sv,pv,rfl,r⟩;obtain⟨A3,a1,rfl,_,_⟩:=ak r.D2;obtain⟨A4,cu,rfl,_,_⟩:=ak r.C0;have L:=an.C4 r.D2;have a2:=r.below;simp only at L;rw[<-ax.o.1]at L;have N:=Z3 (af a0.o.1 a2) (a0.o.2.later a2) L;have bo:=Blk.A8 w6 53 (ldC (.slice none 0 0) (.slice none 0 0) .new) rfl;simp only[ldV,<-ax.o.1,<-ax.o.2]at*;clear r a2 L;go_upto_region 10 with(refine zj gO bo ?_;intro w7 bp bq)
   have O:=bq.below (zh w6 _) (OA _);have l:=Z4 (af N.o.1 O) (N.o.2.1.later O) (N.o.2.2.up O) bp;clear N;generalize w6.heap.size=vl at*;clear bo bp bq O;have c0:w7.cell? (Y vk 0)=some (E f.hi):=l.o.2.1.cell 0;have c1:w7.cell? (Y vk 1)=some (E f.lo):=l.o.2.1.cell 1;go_wp2_with fail;refine(cn.o _ l.o.1).mono ?_;rintro e8 w8 ⟨rfl,P⟩;clear c0 c1;have a3:=Z3 (af l.o.1 P) (l.o.2.2.1.up P) (l.o.2.2.2.later P);clear P;go_upto_region 11 with fail
   have Q:=zh w8 (.cells #[I s0,I s1,I s2,I s3,I s4] 75);have br:=Blk.A8 w8 75 #[I s0,I s1,I s2,I s3,I s4] rfl;have d:=Z3 (af a3.o.1 Q) (a3.o.2.1.up Q) (a3.o.2.2.later Q);generalize w8.alloc (.cells #[I s0,I s1,I s2,I s3,I s4] 75)=w9 at*;generalize w8.heap.size=vs at*;have cx:=Z1 br;clear Q br;have R:M w9 w9.drew:=(Oy _ _).drew;refine zH (S:=λW=>M w9 W) R ?_;refine zq 7 ?_ (λW hW=>?_) ?_;rotate_left
   ·obtain⟨⟨q0,q1,q2,q3,q4⟩,_⟩:=eO (cx.o.later hW);exact zf
   refine zL ?_;refine zq 9 ?_ (λW hW=>?_) ?_;rotate_left
   ·have l0:W.cell? (Y vl 0)=some (.slice A3 n3 a1):=(d.o.2.2.later hW).cell 0;exact zf
   refine zL ?_;refine zo 12 λK hK=>?_;go_simp
   (refine(co.o A3 a1 n3 _ (d.o.2.1.up R) cp).mono ?_)
   rintro dc dd ⟨rfl,a5⟩;have X:=af R a5;refine zJ hK X ?_;refine zq 20 ?_ (λW hW=>?_) ?_;rotate_left
   ·have l1:W.cell? (Y vl 1)=some (.slice A4 n4 cu):=(d.o.2.2.later hW).cell 1;exact zf
   refine zL ?_;refine zo 17 λK hK=>?_;go_simp
   (refine(bk.o _ (af d.o.1 X)).mono ?_)
   rintro de df ⟨dg,rfl,y⟩;obtain⟨A5,k5,rfl,_,_,_⟩:=y.form;have aa:=af X y.below;refine zJ hK aa ?_;refine zq 29 ?_ (λW hW=>?_) ?_;rotate_left
   ·have l0:W.cell? (Y vl 0)=some (.slice A3 n3 a1):=(d.o.2.2.later hW).cell 0;exact zf
   refine zL ?_;refine zo 26 λK hK=>?_;go_simp
   (refine(bl.o _ (af d.o.1 aa)).mono ?_)
   rintro dh di ⟨dj,rfl,B⟩;obtain⟨A6,k6,rfl,_,_,_⟩:=B.form;have a6:=af aa B.below;refine zJ hK a6 ?_;have cc:=Z1 (af d.o.1 a6);clear R X aa a6 y B a5;go_wp2;go_roundw
   case rel=>exact⟨j+1,zO,by go_num,cc⟩
   case measure=>simp[intOf];omega
  ·obtain rfl:j=n:=zO;have HB:=Z1 (af H2.o.1 HM.o);go_wp2;go_ret;exact⟨rfl,HB.o⟩
end Go.Fw
