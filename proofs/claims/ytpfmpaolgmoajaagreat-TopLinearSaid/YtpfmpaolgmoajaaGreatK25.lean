/- Lemmas of this claim. Conditions: as each says. -/
import Derived.Test.YtpfmpaolgmoajaaGreatK24
set_option linter.unusedVariables false
set_option linter.unusedSimpArgs false
set_option maxHeartbeats 4000000
set_option maxRecDepth 20000
set_option linter.defProp false
open Go.Proofs.Tryz
namespace Go.Fw
open Go.RowKit open Go.Proofs hiding intOf
variable {j:Nat}{u:Value}(st sa lo hi:Int)(w:World)(ps:List (List Cl))(A:Option Addr)(k:Nat)(wk:Int)(x:Vt)(n kp:Nat)(c:Cg)(Ap:Option Addr)
def Hl(A Ap:Option Addr)(n k np kp:Nat)(w:World)(hP:dv w A n ps)(hn:n<=10000000000000)(hnp:np<=maxLen)(hst:aq st)(hwk:aq wk)(hL:(decide (st<=8)&&ef ps wk np)=false):
  C 4 #[.agg #[I st,I sa,I lo,I hi],.slice A n k,I wk,.slice Ap np kp] w (J (.bool true) w):=by
 have c:=zh w (.cells #[I st,I sa,I lo,I hi] 23);have d:=Blk.A8 w 23 #[I st,I sa,I lo,I hi] rfl;have g:=Z1 (λW (hW:M w W)=>pZ st sa lo hi ps wk A Ap n k np kp W (hP.up hW) hn hnp hst hwk);rw[hL]at g;have j:=Z1 (λW=>pY W);have h:=Z2 c d;clear c d hP hL
 go_in
 go_wp2_with fail;refine zm (j.o _) λr b=>?_;have a:=Z2 (af h.o.1 b) (h.o.2.later b);clear b;have l:=a.o.2.cell 0;have m:=a.o.2.cell 1;have p:=a.o.2.cell 2;have q:=a.o.2.cell 3;go_wp2_with fail;refine zm (g.o _ a.o.1) λs f=>?_;have i:=Z1 (af a.o.1 f);clear f l m p q;go_wp2;go_ret;exact⟨rfl,i.o⟩
def yJ(A Ap:Option Addr)(n k np kp:Nat)(w:World)(hP:dv w A n ps)(hn:n<=1000000)(hnp:np<=maxLen)(hst:aq st)(hwk:aq wk)(hL:(decide (st<=8)&&ef ps wk np)=true)(h0:cj st sa lo hi ps wk≠0):
  C 4 #[.agg #[I st,I sa,I lo,I hi],.slice A n k,I wk,.slice Ap np kp] w (J (.bool true) w):=by
 have p:=zh w (.cells #[I st,I sa,I lo,I hi] 23);have q:=Blk.A8 w 23 #[I st,I sa,I lo,I hi] rfl;have t:=Z1 (λW (hW:M w W)=>pZ st sa lo hi ps wk A Ap n k np kp W (hP.up hW) zO hnp hst hwk);rw[hL]at t;have y:=Z1 (λW=>pY W);have u:=Z1 (λW (hW:M w W)=>yC W st sa lo hi ps A Ap n k np kp wk (hP.up hW) hn hwk h0);have z:=Z1 (λW (hW:M w W)=>yF st sa lo hi ps A n k wk W (hP.up hW) hn hwk);unfold kG at u;generalize cj st sa lo hi ps wk=B at*;have D:(B==0)=false:=by simpa using h0
 have v:=Z2 p q;clear p q hP hL h0
 go_in
 go_wp2_with fail;refine zm (y.o _) λF d=>?_;have a:=Z2 (af v.o.1 d) (v.o.2.later d);clear d;have f:=a.o.2.cell 0;have g:=a.o.2.cell 1;have h:=a.o.2.cell 2;have i:=a.o.2.cell 3;go_wp2_with fail;refine zm (t.o _ a.o.1) λG j=>?_;have b:=Z2 (af a.o.1 j) (a.o.2.later j);clear j f g h i;have f:=b.o.2.cell 0;have g:=b.o.2.cell 1;have h:=b.o.2.cell 2;have i:=b.o.2.cell 3;go_wp2_with fail;refine zm (u.o _ b.o.1) λx l=>?_;have r:=Blk.A8 x 38 #[.slice none 0 0,I 0,I 0,.slice none 0 0,.bool false] rfl;have c:=Z3 (ae (af b.o.1 l) (.cells #[.slice none 0 0,I 0,I 0,.slice none 0 0,.bool false] 38)) ((b.o.2.later l).alloc (.cells #[.slice none 0 0,I 0,I 0,.slice none 0 0,.bool false] 38)) r;clear l f g h i r;go_upto_region 6 with fail
 generalize x.alloc (.cells #[.slice none 0 0,I 0,I 0,.slice none 0 0,.bool false] 38)=H at*;have f:=c.o.2.1.cell 0;have g:=c.o.2.1.cell 1;have h:=c.o.2.1.cell 2;have i:=c.o.2.1.cell 3;go_wp2_with fail;refine zm (z.o _ c.o.1) λL m=>?_;have s:=Z2 (af c.o.1 m) (c.o.2.2.later m);clear m f g h i;have N:=s.o.2.cell 0;go_wp2;go_ret;exact⟨rfl,s.o.1⟩
def yK(h:x.call.arr.toList[j]?=some u):x.cells[3+j]?=some u:=by
 unfold Vt.cells;rw[show 3+j=j+1+1+1 by omega,PL,PL,PL,Pk (show j<x.call.cells.length from(OZ.1 h).1)];exact h
def AW(h:x.rep.arr.toList[j]?=some u):x.cells[14+j]?=some u:=by
 have a:j<x.rep.cells.length:=(OZ.1 h).1;unfold Vt.cells;rw[show 14+j=(11+j)+1+1+1 by omega,PL,PL,PL,Ph (by rw[Cl.C2];omega),Cl.C2,show 11+j-11=j by omega,Pk a];exact h
def MU(ps:List (List Cl))(hp:ge c ps)(A Ap:Option Addr)(n k np kp m:Nat)(hP:dv w A n ps)(hn:ps.length+m<=32)(hn0:0<ps.length+m)(h0:cj c.st c.sa c.lo c.hi ps m=0)
  (l:List Int)(hl:∀p∈l,aq p)(hr:an w w.heap.size 1 Ap np (i64s l))(hu:np<=30000):∃(ev:List Vt) (mp:Mp),kD c ps ev mp/\ev.length<=60000/\
  C 20 #[.agg #[I c.st,I c.sa,I c.lo,I c.hi],.slice A n k,I m,.slice Ap np kp] w λr w'=>∃A3 k3 u op A4 n4 k4 b,r=.returned (.tuple #[.agg #[.slice A3 ev.length k3,I u,I op,.slice A4 n4 k4,.bool b],I 0])/\an w' w'.heap.size 34 A3 ev.length (vts ev)/\M w w':=by
 have i:=tj w c ps hp A Ap n k np kp m hP hn hn0 h0 l hl hr hu;have f:np=l.length:=by have:=hr.len;simpa[i64s]using this
 have a:=(dI.new hp m hn).run hp l (by rw[<-f];simpa[En.new]using hu);have d:=a.1.evs (by have:=a.2.1;have t:(En.new c ps m).used=0:=rfl;omega);generalize En.run c (.new c ps m) l=e at*;refine⟨e.g.ev,e.g.mp,a.1.E.L9,d,i.mono λr w' ⟨v,x,j,h,o,s⟩=>?_⟩;obtain⟨A3,k3,rfl,_⟩:=ak h;obtain⟨A4,k4,rfl,_⟩:=ak o;exact⟨A3,k3,(e.used:Int),(openN e:Int),A4,e.g.q.line.length,k4,_,j,an.C4 h,s⟩
structure yL(w0 w6 wr:World)(c:Cg)(mb lb:Nat)(A:Option Addr)(n:Nat)(J2:List Vt)(j:Nat):Prop where
 U9:kT w0 wr c mb lb (fK c (J2.take j))
 size:w6.heap.size<=wr.heap.size
 rd:an wr w6.heap.size 34 A n (vts J2)
def yL.next{w0 w6 wr w1 w2:World}{c:Cg}{mb lb:Nat}{A:Option Addr}{n:Nat}{J2:List Vt}{m':Mp}(h:yL w0 w6 wr c mb lb A n J2 j)(hb:M wr w1)(hn:dM w1 w2 c mb lb m')(hA:∀ad,A=some ad->0<n->ad.block≠mb/\ad.block≠lb)(hm:m'=fK c (J2.take (j+1))):yL w0 w6 w2 c mb lb A n J2 (j+1):=by
 subst hm;have a:=OJ h.size hb.size;refine⟨h.U9.next hb hn,OJ a hn.2.size,hn.2.reads (h.rd.below (hb.mono h.size)) a λad e b f=>?_⟩
 rcases f with f|f
 ·exact(hA ad e b).1 f
 ·exact(hA ad e b).2 f
def nb(ad:Addr)(j:Nat):(ad.add j).block=ad.block:=by unfold Addr.add;split<;>rfl
def Hm(ps:List (List Cl))(hp:ge c ps)(A Ap:Option Addr)(n k np kp m:Nat)(w:World)(hP:dv w A n ps)(hn:ps.length+m<=32)(hn0:0<ps.length+m)(h0:cj c.st c.sa c.lo c.hi ps m=0)
  (raw:List Int)(hl:∀p∈raw,aq p)(hr:an w w.heap.size 1 Ap np (i64s raw))(hu:np<=30000)(hL:(decide ((c.st:Int)<=8)&&ef ps m np)=true):
  Calls prog 4 #[.agg #[.int .i64 c.st,.int .i64 c.sa,.int .i64 c.lo,.int .i64 c.hi],.slice A n k,.int .i64 m,.slice Ap np kp] w λe w'=>e=.returned (.bool true)/\Below w.heap.size w w':=by
 have cd:=ae (Oy w.heap.size w) (.cells #[.int .i64 c.st,.int .i64 c.sa,.int .i64 c.lo,.int .i64 c.hi] 23);have ce:=Blk.A8 w 23 #[.int .i64 c.st,.int .i64 c.sa,.int .i64 c.lo,.int .i64 c.hi] rfl;have cf:=hP.len;have dr:=Cg.I0 hp.cfg;have HC:=Z1 (λW (hW:Below w.heap.size w W)=>pZ c.st c.sa c.lo c.hi ps m A Ap n k np kp W (hP.up hW) (by omega) (by unfold maxLen;omega) (by unfold aq;omega) (by unfold aq;omega));rw[hL]at HC;have HA:=Z1 (λW=>pY W);have HR:=Z1 (λW (hW:Below w.heap.size w W)=>MU W c ps hp A Ap n k np kp m (hP.up hW) hn hn0 h0 raw hl (hr.up hW) hu);have HN:Hid (∀W,Calls prog 22 #[.agg #[.int .i64 c.st,.int .i64 c.sa,.int .i64 c.lo,.int .i64 c.hi]] W λe w'=>∃P X,e=.returned (.pointer (some ⟨P,0,none⟩))/\kT W w' c P X .new/\P<w'.heap.size/\X<w'.heap.size):=Z1 λW=>(xA c hp.cfg W).mono λe w' ⟨P,X,h1,h2,h3,h4,h5⟩=>⟨P,X,h1,⟨⟨[],[],_,h2⟩,h3,h4,h5⟩,h2.B0.lt,h2.C1.map.lt⟩;have HI:=Z4 hP hp cf hn;have HB:=Z2 cd ce;clear cd ce hP hL h0 hp hn hn0 hl hr hu dr cf
 go_in
 go_wp2_with fail;refine zm (HA.o _) λw1 bd=>?_;have D:=Z2 (af HB.o.1 bd) (HB.o.2.later bd);clear bd;have c0:=D.o.2.cell 0;have c1:=D.o.2.cell 1;have c2:=D.o.2.cell 2;have c3:=D.o.2.cell 3;go_wp2_with fail;refine zm (HC.o _ D.o.1) λw2 bi=>?_;have F:=Z2 (af D.o.1 bi) (D.o.2.later bi);clear bi c0 c1 c2 c3;have c0:=F.o.2.cell 0;have c1:=F.o.2.cell 1;have c2:=F.o.2.cell 2;have c3:=F.o.2.cell 3;obtain⟨l,mp,cg,du,ch⟩:=HR.o w2 F.o.1;have dx:=Z1 ch;have H:=Z1 cg;clear ch cg;go_wp2_with fail;refine dx.o.mono ?_;rintro e3 w3 ⟨A3,L,u,op,A4,n4,k4,b,rfl,ak,bj⟩;obtain⟨N,hN⟩:∃N,N=l.length:=⟨_,rfl⟩;rw[<-hN]at ak;rw[<-hN];have ci:=Blk.A8 w3 38 #[.slice A3 N L,.int .i64 u,.int .i64 op,.slice A4 n4 k4,.bool b] rfl;have az:=ae (Oy _ w3) (.cells #[.slice A3 N L,.int .i64 u,.int .i64 op,.slice A4 n4 k4,.bool b] 38);have d:=Z5 (af (af F.o.1 bj) az) ((F.o.2.later bj).later az) ci (ak.up az) hN;have fm:N<=60000:=by omega
 clear bj az c0 c1 c2 c3 ci ak hN du;go_upto_region 6 with fail
 generalize w3.alloc (.cells #[.slice A3 N L,.int .i64 u,.int .i64 op,.slice A4 n4 k4,.bool b] 38)=w4 at*;have c0:=d.o.2.1.cell 0;have c1:=d.o.2.1.cell 1;have c2:=d.o.2.1.cell 2;have c3:=d.o.2.1.cell 3;go_wp2_with fail;refine(HN.o w4).mono ?_;rintro e5 w5 ⟨P,X,rfl,O,ck,cl⟩;have a0:=Z7 (af d.o.1 O.below) (d.o.2.1.later O.below) (d.o.2.2.1.later O.below) (d.o.2.2.2.1.up O.below) O ck cl;clear O ck cl c0 c1 c2 c3;have o0:=a0.o.2.2.1.cell 0;have dy:Hid (Calls prog 23 #[.slice A3 N L] w5 λe w'=>∃v,e=.returned v/\aL 34 w5 w' 79 v (l.filter ptV).length (vts (l.filter ptV))):=Z1 (by
  have h:=AE (l.map aK) A3 L N w5 (jU λx s=>(H.o.O3 x s).ok) (by rw[iL];exact a0.o.2.2.2.1) (by omega);rw[DR,iL,Pe]at h;exact h)
 go_wp2_with fail;refine dy.o.mono ?_;rintro e6 w6 ⟨v6,rfl,ab⟩;obtain⟨A6,k6,rfl,_,_,Q⟩:=ab.form;have a1:=ab.own.lt;obtain⟨r,z⟩:∃r,r=l.filter ptV:=⟨_,rfl⟩;rw[<-z]at Q a1;rw[<-z];obtain⟨M,hM⟩:∃M,M=r.length:=⟨_,rfl⟩;rw[<-hM]at Q a1;rw[<-hM];have fn:M<=60000:=by
  rw[hM,z];exact OJ (PF _ _) (by have:=d.o.2.2.2.2;omega)
 have H1:Hid (yL w4 w6 w6 c P X A6 M r 0):=Z1 ⟨a0.o.2.2.2.2.1.up ab.below,OA _,Q⟩;have ac:=Z5 (show mT c r from z▸DQ H.o.U0) (show ∀x∈r,nz x from λx s=>H.o.O3 x (Pp.1 (z▸s:x∈l.filter ptV)).1) hM a1 ab.below;clear Q ab z hM a1 o0;go_wp2_with fail;go_loopw [54] (λi wr=>∃(j:Nat),j<=M/\i=.int .i64 j/\Hid (yL w4 w6 wr c P X A6 M r j)) (λi _=>M-(intOf i).toNat)
 case atStart=>exact⟨0,OK _,rfl,H1⟩
 case round=>
  obtain⟨j,hj,rfl,HM⟩:=hrel;by_cases fo:j<M
  ·have G:j<r.length:=by have:=ac.o.2.2.1;omega
   have cm:j<(r.map aK).length:=by simpa using G
   have ao:=HM.o.rd;rw[<-iL]at ao;obtain⟨b6,o6,rfl,fp,T⟩:=mw (jU λx s=>(ac.o.2.1 x s).ok) ao cm;have cn:(r.map aK)[j]=aK r[j]:=by simp
   rw[cn]at T;have bl:=ac.o.2.1 _ (OR G);have s:=oG bl.ok;have co:=ac.o.1 j G;have cp:=oH (c:=c) G;have cq:=lQ c r j (by omega);generalize r[j]=x at*;have g:=Z3 s.size s.all (dw T);have HX:=Z4 co cp bl cq;have bn:(aK x).cs=x.arr:=rfl;rw[bn]at g;generalize bo:x.arr=cs at*;have HG:=Z1 bo;have ey:(j:Int)<(M:Int):=by omega
   clear T s cn co cp bl cq cm G bn bo ao
   go_wp2_with (first|(refine aG ba rfl (.tmp 56) rfl ⟨b6,o6+j*34,none⟩ (by rfl) cs g.o.1 g.o.2.2 ?_)|(refine aS ba rfl rfl ?_)|(refine aT ba rfl (.tmp 13) (.tmp 57) rfl _ rfl (by rfl) cs _ (by rfl) _ g.o.1 ba.D6 g.o.2.1 ?_)|(refine aG ba rfl (.tmp 13) rfl ⟨wr.heap.size,0,none⟩ (by rfl) cs g.o.1 (ff _ _ _) ?_))
   have cr:=ae (Oy wr.heap.size wr) (.cells cs 79);have ct:=Z1 cr;clear cr;obtain⟨fs,kv,cv,bp⟩:=HM.o.U9.at_;have hs:=bp.P4;have HO:=Z1 (sR _ c HI.o.2.1.cfg P X fs kv cv _ (bp.up ct.o) (by have:=HX.o.2.2.2;omega) (by have:=HX.o.2.2.2;omega) x HX.o.2.2.1 HX.o.1);rw[HG.o]at HO;clear bp hs;refine zm HO.o λw8 bq=>?_;have d1:=Z1 (HM.o.next ct.o bq (λad e h0=>by
    have h1:=(ac.o.2.2.2.1 ad.block (by cases e;rfl)).1;have h2:=a0.o.2.2.2.2.2;omega) HX.o.2.1.symm)
   clear bq;go_wp2;go_roundw
   case rel=>exact⟨j+1,by omega,by go_num,d1⟩
   case measure=>simp[intOf];omega
  ·obtain rfl:M=j:=by omega
   have HE:=Z2 HM.o.U9.below HM.o.size;clear HM;have fq:n<=32:=by have h1:=HI.o.2.2.1;have h2:=HI.o.2.2.2;omega
   have d2:=Z1 (λ(t:Nat) W (hW:Below w4.heap.size w4 W)=>show Calls prog 13 #[.slice A3 N L,.int .i64 t] W λe w'=>∃v,e=.returned v/\aL 13 W w' 77 v (da (t:Int) (l.map aK)).length (reps (da (t:Int) (l.map aK)))from yG (l.map aK) A3 L N t W (jU λx s=>(H.o.O3 x s).ok) (by rw[iL];exact d.o.2.2.2.1.up hW) (by omega));go_wp2_with fail;go_loopw [65] (λi wr=>∃(t:Nat),t<=n/\i=.int .i64 t/\Hid (Below w4.heap.size w4 wr)) (λi _=>n-(intOf i).toNat)
   case atStart=>exact⟨0,OK _,rfl,Z1 HE.o.1⟩
   case round=>
    obtain⟨t,ht,rfl,HW⟩:=hrel;by_cases e8:t<n
    ·have fr:(t:Int)<(n:Int):=by omega
     have o0:=(d.o.2.2.1.later HW.o).cell 0;have d3:=Z1 (d2.o t wr HW.o);go_wp2_with fail;refine d3.o.mono ?_;rintro e7 w7 ⟨v7,rfl,br⟩;obtain⟨A7,k7,rfl,_,_,bs⟩:=br.form;have y:=Z2 (af HW.o br.below) bs;obtain⟨R,hR⟩:∃R,R=(da (t:Int) (l.map aK)).length:=⟨_,rfl⟩;rw[<-hR]at y;rw[<-hR];have ft:R<=N:=by
      rw[hR];unfold da;exact OJ (PF _ _) (OJ (PF _ _) (by have:=d.o.2.2.2.2;simp;omega))
     have cu:=Z1 hR;clear br bs o0 hR;go_wp2_with fail;go_loopw [73] (λi wi=>∃(q:Nat),q<=R/\i=.int .i64 q/\Hid (Below w7.heap.size w7 wi)) (λi _=>R-(intOf i).toNat)
     case atStart=>exact⟨0,OK _,rfl,Z1 (Oy _ _)⟩
     case round=>
      obtain⟨q,hq,rfl,U⟩:=hrel;by_cases fa:q<R
      ·have fu:(q:Int)<(R:Int):=by omega
       have cw:q<(da (t:Int) (l.map aK)).length:=by have:=cu.o;omega
       obtain⟨f,a,o,ha,ho,cx,cy,cz,fv,fw,c4,c5,pp,c6,c7⟩:=KT H.o t q cw;have c8:∀e∈da (t:Int) (l.map aK),cV e:=λe he=>by
        unfold da at he;exact jU (λx s=>(H.o.O3 x s).ok) e (Pp.1 (Pp.1 he).1).1
       obtain⟨b8,o8,rfl,d7,a2⟩:=MT c8 (y.o.2.up U.o) cu.o cw;rw[c4]at a2;have bu:(aK l[o]).rep=l[a].rep.arr:=by rw[c5];rfl
       rw[bu]at a2;obtain⟨b9,o9,rfl,a3,bv⟩:=(d.o.2.2.2.1.up (af y.o.1 U.o)).elem (k:=a) Vt.C2 (by decide) d.o.2.2.2.2 ha;obtain⟨d8,d9⟩:=OZ.1 c6;obtain⟨ad,A9,k9,_,ea,bw,_,_,bx⟩:=(HI.o.1.up (d.o.1.trans ((af y.o.1 U.o).mono d.o.1.size))).at_ d8;rw[d9]at bw bx;obtain⟨eb,ec⟩:=OZ.1 c7;obtain⟨c9,db,rfl,dq,ap⟩:=sf bx eb;rw[ec]at ap;have ar:=(H.o.O3 _ (OR ha)).ok;have bz:=FZ l[a].rep ar.rep;have b0:=Mm l[a].call ar.call;have g1:=dw a2;have g2:∀j u,l[a].rep.arr.toList[j]?=some u->wr.cell? ((⟨b9,o9+a*34+14,none⟩:Addr).add j)=some u:=dw λj u h=>by
        have:=bv _ u (AW _ h)
        rwa [<-PQ,<-PQ]at this
       have g3:∀j u,l[a].call.arr.toList[j]?=some u->wr.cell? ((⟨b9,o9+a*34+3,none⟩:Addr).add j)=some u:=dw λj u h=>by
        have:=bv _ u (yK _ h)
        rwa [<-PQ,<-PQ]at this
       have g4:∀j u,l[a].call.arr.toList[j]?=some u->wr.cell? ((⟨c9,db+q*11,none⟩:Addr).add j)=some u:=dw λj u h=>by
        have:=ap j u h
        rwa [<-PQ]at this
       have dc:l[a].rep.arr.all (·.oneCell')=true:=by
        have:=mE l[a];simp[Rp.arr,Rp.cells,St.cells,St.arr,Adv.cells,Value.oneCell']
       have g:=Z8 (show l[a].rep.arr.size=13 from rfl) dc g1 g2 g3 g4 bz b0;generalize l[a].rep.arr=B at*;have dd:=Z1 (show l[a].call.arr.size=11 from rfl);generalize l[a].call.arr=ca at*;have o0:=(d.o.2.2.1.later (af y.o.1 U.o)).cell 0;have HQ:=Z8 bw cx cy cz d7 a3 dq ea;clear a2 bv ap g1 g2 g3 g4 dc bz b0 ar bx bw cx cy cz bu c4 c5 c8 c6 c7;go_upto_region 21 with(first|(refine aG oF rfl (.tmp 76) rfl ⟨b8,o8+q*13,none⟩ (by rfl) B g.o.1 g.o.2.2.1 ?_)|(refine aS oF rfl rfl ?_)|(refine aT oF rfl (.tmp 16) (.tmp 77) rfl _ rfl (by rfl) B _ (by rfl) _ g.o.1 oF.D6 g.o.2.1 ?_))
       have a4:=ae (Oy wr.heap.size wr) (.cells B 77);have de:=Blk.A8 wr 77 B rfl;have HF:Hid (Calls prog 25 #[.slice (some ⟨b9,o9,none⟩) N L,.int .i64 t,.int .i64 q] (wr.alloc (.cells B 77)) λe w'=>e=.returned (.agg #[.int .i64 f,.int .i64 a,.int .i64 o])/\Below (wr.alloc (.cells B 77)).heap.size (wr.alloc (.cells B 77)) w'):=Z1 (by
        have h:=Hf (l.map aK) (some ⟨b9,o9,none⟩) L N t q (wr.alloc (.cells B 77)) (jU λx s=>(H.o.O3 x s).ok) (by rw[iL];exact(d.o.2.2.2.1.up (af y.o.1 U.o)).up a4) (by omega);unfold fT at h;rw[d.o.2.2.2.2,HQ.o.2.1,HQ.o.2.2.1,HQ.o.2.2.2.1,<-d.o.2.2.2.2]at h;exact h)
       have o1:=((d.o.2.2.1.later (af y.o.1 U.o)).later a4).cell 0;have df:=Z2 a4 de;clear a4 de o0;go_wp2_with fail;refine zm HF.o λa5 au=>?_;have av:=ae (Oy a5.heap.size a5) (.cells #[.int .i64 f,.int .i64 a,.int .i64 o] 82);have dg:=Blk.A8 a5 82 #[.int .i64 f,.int .i64 a,.int .i64 o] rfl;have HS:=Z3 (af (af df.o.1 au) av) ((df.o.2.later au).later av) dg;clear au av dg o1;go_upto_region 22 with fail
       generalize a5.alloc (.cells #[.int .i64 f,.int .i64 a,.int .i64 o] 82)=a6 at*;have dh:=af (af y.o.1 U.o) HS.o.1;have s0:=HS.o.2.2.cell 0;have s1:=HS.o.2.2.cell 1;have s2:=HS.o.2.2.cell 2;have s3:=(d.o.2.2.1.later dh).cell 0;have b1:∀(ad:Addr) v,ad.block<wr.heap.size->wr.cell? ad=some v->a6.cell? ad=some v:=λad v h1 h2=>(OI (HS.o.1.block ad.block h1)).trans h2;have b2:=Z1 b1;have s4:=b1 _ _ (by rw[nb];exact HQ.o.2.2.2.2.2.2.2) HQ.o.1;have fk:¬(a:Int)<=(f:Int):=by omega
       have fl:¬(o:Int)<=(a:Int):=by omega
       have fx:(a:Int)<(N:Int):=by have:=d.o.2.2.2.2;omega
       have fy:(q:Int)<(pp.length:Int):=by omega
       clear b1 dh;have ej:a6.drew.heap=a6.heap:=rfl;refine ay (S:=λW=>W.heap=a6.heap) (by kernel_rfl) ej ?_;simp only[zD,zE,Nat.reduceAdd,zG];refine zp 0 ?_;refine zq 1 ?_ (λW hW=>?_) ?_;rotate_left
       ·have qq:=(OI (by rw[hW])).trans s1;exact zf
       refine zp 2 ?_;refine zq 3 ?_ (λW hW=>?_) ?_;rotate_left
       ·have qq:=(OI (by rw[hW])).trans s0;exact zf
       refine zp 4 ?_;refine zp 5 ?_;refine zp 6 ?_;refine zq 7 ?_ (λW hW=>?_) ?_;rotate_left
       ·have qq:=(OI (by rw[hW])).trans s2;exact zf
       refine zp 8 ?_;refine zq 9 ?_ (λW hW=>?_) ?_;rotate_left
       ·have qq:=(OI (by rw[hW])).trans s1;exact zf
       refine zp 10 ?_;refine zp 11 ?_;refine zp 12 ?_;refine zp 13 ?_;refine zq 14 ?_ (λW hW=>?_) ?_;rotate_left
       ·have qq:=(OI (by rw[hW])).trans s3;exact zf
       refine zp 15 ?_;refine zq 16 ?_ (λW hW=>?_) ?_;rotate_left
       ·have qq:=(OI (by rw[hW])).trans s1;exact zf
       refine zp 17 ?_;refine zp 18 ?_;refine zq 19 ?_ (λW hW=>?_) ?_;rotate_left
       ·refine bE oF (.tmp 101) ?_ ⟨b9,o9+a*34+14,none⟩ ?_ B g.o.1 ?_;exact rfl;exact rfl;exact(λj v hv=>(OI (by rw[hW])).trans (b2.o _ _ (by rw[nb];exact HQ.o.2.2.2.2.2.1) (g.o.2.2.2.1 j v hv)))
       refine zq 20 ?_ (λW hW=>?_) ?_;rotate_left
       ·refine bE oF (.tmp 16) ?_ ⟨wr.heap.size,0,none⟩ ?_ B g.o.1 ?_;exact rfl;exact rfl;exact(λj v hv=>(OI (by rw[hW])).trans (bQ HS.o.2.1 j v hv))
       refine zq 21 ?_ (λW hW=>?_) ?_;rotate_left
       ·refine pf .neq 77 77 (.tmp 102) (.tmp 103) ?_ B B ?_ ?_ (by kernel_rfl) (.bool false) (g.o.2.2.2.2.2.2.1 _);exact rfl;exact rfl;exact rfl
       refine zp 22 ?_;refine zp 23 ?_;refine zp 24 ?_;refine zq 25 ?_ (λW hW=>?_) ?_;rotate_left
       ·have qq:=(OI (by rw[hW])).trans s3;exact zf
       refine zp 26 ?_;refine zq 27 ?_ (λW hW=>?_) ?_;rotate_left
       ·have qq:=(OI (by rw[hW])).trans s1;exact zf
       refine zp 28 ?_;refine zp 29 ?_;refine zq 30 ?_ (λW hW=>?_) ?_;rotate_left
       ·refine bE dU (.tmp 112) ?_ ⟨b9,o9+a*34+3,none⟩ ?_ ca dd.o ?_;exact rfl;exact rfl;exact(λj v hv=>(OI (by rw[hW])).trans (b2.o _ _ (by rw[nb];exact HQ.o.2.2.2.2.2.1) (g.o.2.2.2.2.1 j v hv)))
       refine zp 31 ?_;refine zp 32 ?_;refine zp 33 ?_;refine zq 34 ?_ (λW hW=>?_) ?_;rotate_left
       ·have qq:=(OI (by rw[hW])).trans s4;exact zf
       refine zp 35 ?_;refine zp 36 ?_;refine zq 37 ?_ (λW hW=>?_) ?_;rotate_left
       ·refine bE dU (.tmp 119) ?_ ⟨c9,db+q*11,none⟩ ?_ ca dd.o ?_;exact rfl;exact rfl;exact(λj v hv=>(OI (by rw[hW])).trans (b2.o _ _ (by rw[nb];exact HQ.o.2.2.2.2.2.2.1) (g.o.2.2.2.2.2.1 j v hv)))
       refine zq 38 ?_ (λW hW=>?_) ?_;rotate_left
       ·refine pf .neq 73 73 (.tmp 113) (.tmp 120) ?_ ca ca ?_ ?_ (by kernel_rfl) (.bool false) (g.o.2.2.2.2.2.2.2 _);exact rfl;exact rfl;exact rfl
       refine zp 39 ?_;refine zd ?_;go_wp2;go_roundw
       case rel=>exact⟨_,_,_,_,.int .i64 ((q:Int)+1),⟨q+1,by omega,by go_num,Z1 ((af U.o HS.o.1).drew)⟩,rfl,rfl,rfl,rfl,rfl⟩
       case measure=>simp[intOf];omega
      ·obtain rfl:R=q:=by omega
       go_wp2_with fail;go_roundw
       case rel=>exact⟨t+1,by omega,by go_num,Z1 (af y.o.1 U.o)⟩
       case measure=>simp[intOf];omega
    ·obtain rfl:n=t:=by omega
     have o0:=(d.o.2.2.1.later HW.o).cell 0;have b3:=sU (l.map aK) A3 L N wr (jU λx s=>(H.o.O3 x s).ok) (by rw[iL];exact d.o.2.2.2.1.up HW.o) (by omega);rw[H.o.right]at b3;have ek:=Z1 b3;clear b3;go_wp2_with fail;refine zm ek.o λw9 a3=>?_;have el:=Z1 (af (d.o.1.trans (HW.o.mono d.o.1.size)) a3);clear a3 o0;go_wp2;go_ret;exact⟨rfl,el.o⟩
def uj(ps:List (List Cl))(wk:Int)(l:List Int)(Ap:Option Addr)(kp:Nat)(w:World)(hc:aq st/\aq sa/\aq lo/\aq hi)(hP:dv w A n ps)(hx:∀p∈ps,∀x∈p,x.ok)(hwk:aq wk)(hr:an w w.heap.size 1 Ap l.length (i64s l))(hs:rZ l)(hl:l.length<=maxLen/\l.length<=kp)(hn:n<=10000000000000):
  C 4 #[.agg #[I st,I sa,I lo,I hi],.slice A n k,I wk,.slice Ap l.length kp] w (J (.bool true) w):=by
 cases hL:(decide (st<=8)&&ef ps wk l.length)with
 |false=>exact Hl st sa lo hi ps wk A Ap n k l.length kp w hP hn hl.1 hc.1 hwk hL
 |true=>
  obtain⟨h,i,j,o,q⟩:=vR hL;have g:=hP.len;by_cases a:cj st sa lo hi ps wk=0
  ·obtain⟨c,m,rfl,rfl,rfl,rfl,rfl,b,d,f⟩:=DS hL a hx;exact Hm c ps b A Ap n k l.length kp m w hP d f a l (KU hs) hr zO hL
  ·exact yJ st sa lo hi ps wk A Ap n k l.length kp w hP zO hl.1 hc.1 hwk hL a
end Go.Fw
