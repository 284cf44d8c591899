/- Lemmas of this claim. Conditions: as each says. -/
import Derived.Test.YtpfmpaolgmoajaaGreatL10
set_option linter.unusedVariables false
set_option linter.unusedSimpArgs false
set_option maxHeartbeats 4000000
set_option maxRecDepth 20000
set_option linter.defProp false
open Go.Proofs.Tryz
namespace Go.Fw
open Go.RowKit open Go.Proofs hiding intOf
variable {c:Cg}{m:Mp}{fs:List Fe}{x:Ld}{a b lb mb:Nat}{k:K2}{lr:List Smp}(B:Nat)(t:Int)(w:World)(ls:List (K2×Ld))(v:Value)(tb:Nat)(ps:List ((Int×Int)×Rp))(l:List Smp)(ks:List K2)
def FQ(hl:m.ls=fls fs)(hi:∀f∈fs,bd f.id=true){i:ByteArray}(h:bd i=true)(a:Adv):eo c m (av i) a=if(eA fs i).isSome=true then({m with ls:=aR m.ls (av i) (jI c (dG fs i).x a)},true)else(m,false):=by
 unfold eo dG;rw[hl,jk hi h]
 cases eA fs i<;>rfl
def Jv{w:World}{B B' s s' n n':Nat}{e e':TypeId}{v v':Value}{xs xs':List Value}(h:w.ownsRow B e s v n xs)(h':w.ownsRow B' e' s' v' n' xs')(hne:e≠e'):v.ownBlock=none\/v.ownBlock≠v'.ownBlock:=by
 rcases h'.2 with⟨rfl,_⟩|⟨g,c,a,rfl,_,b,_⟩
 ·cases hv:v.ownBlock with
  |none=>exact .inl rfl
  |some g=>exact .inr (by simp[Value.ownBlock])
 ·exact .inr (aB h (show Blk w g e' a from b) hne)
def sO(h:x.C6 c){a:Adv}(ha:a.ok):(jI c x a).C6 c:=by
 refine⟨h.sorted,h.E5,h.right,xx h.C0,λb f=>?_,h.L0,h.D8⟩;have e:b∈jH c.hi x.C0 a:=f;unfold jH at e;have d:b∈x.C0++[a]:=by
  split at e
  ·exact PN e
  ·exact e
 rcases Po.1 d with d|d
 ·exact h.advs b d
 ·rw[Py.1 d];exact ha
def FR(c:Cg)(hc:c.ok)(mb lb:Nat)(fs:List Fe)(kv:List (Option (Nat×List Fe)))(cv:Value)(m:Mp)(h:cq w c mb lb fs kv cv m)(hn:fs.length<=80000)(i:ByteArray)(hi:bd i=true)(a:Adv)(ha:a.ok):
  Calls prog 70 #[.pointer (some ⟨mb,0,none⟩),.string i,.agg a.arr] w λe w'=>e=.returned (.bool (eo c m (av i) a).2)/\dM w w' c mb lb (eo c m (av i) a).1:=by
 have bz:i.size<=maxLen:=by have:=(dn hi).2.1;unfold maxLen;omega
 have b0:=zh w (.cells a.arr 62);have cl:=Blk.A8 w 62 a.arr rfl;have R:=h.up b0;have HL:=Z1 (FO _ c hc mb lb fs kv cv m R i bz);have b1:=mv R.C1 i;have hs:=Cg.small hc;have ds:(dG fs i).x.C0.length<=64:=by have:=b1.C0;omega
 have HN:=Z1 (FQ (c:=c) h.ls h.C1.ids hi a);have H:=Z7 hc h hi bz ha hn b1;have L:∀V,Below w.heap.size w V->V.cell? ⟨mb,4,none⟩=some (.map (some lb))/\V.cell? ⟨mb,3,none⟩=some (.int .i64 c.hi):=λV hb=>⟨(h.up hb).B0.cell 4,(h.up hb).B0.cell 3⟩;have c6:=Z1 L;have c2:=qn fs i;have HB:=Z2 b0 cl;have dd:(c.hi:Int)<=64:=by have:=hs.2.2.2.2.2.2.2;omega
 have db:=hs.2.2.2.2.2.2.1;generalize c7:(eA fs i).isSome=is at*;generalize (dG fs i).x=x at*;obtain⟨j,l,n,p,q⟩:=a;unfold Adv.arr at*;simp only at*;clear h R b0 cl b1 c7 hc hn L hs ha hi c2 bz
 go_in
 go_wp2_with fail;generalize cm:w.heap.size=v9 at*;have aq:=Z1 cm;clear cm;generalize w.alloc (.cells #[.int .i64 j,.int .i64 l,.int .i64 n,.int .i64 p,.int .i64 q] 62)=W at*;refine HL.o.mono ?_;rintro e w1 ⟨sv,pv,rfl,au⟩;obtain⟨A1,s1,rfl,_,_⟩:=ak au.D2;obtain⟨A2,s2,rfl,_,_⟩:=ak au.C0;have HD:=Z1 au;have cn:=Z1 (HB.o.2.later au.below);obtain⟨S,d,⟨p0,p1,p2,p3,p4,p5⟩,F⟩:=x;simp only[ldV]at*;generalize co:S.length=n1 at*;generalize cp:d.length=f at*;have ax:=Z2 co cp;clear au co cp;go_upto_region 2 with(refine zj gO (Blk.A8 w1 53 (ldC (.slice none 0 0) (.slice none 0 0) .new) rfl) ?_;intro w3 bq cr;have N:=Z2 bq (cr.below (zh w1 _) (OA _));obtain⟨⟨t0,t1,t2,t3,t4,t5,t6,t7,t8⟩,_⟩:=eR bq;have f1:=bq.frozen 1;clear bq cr)
 have b2:=af (by first|exact HB.o.1|(have:Below _ _ _:=HB.o.1;rw[<-aq.o]at this;exact this)) (af HD.o.below N.o.2);have c8:=Z1 b2;have cs:=cn.o.later N.o.2;obtain⟨⟨r0,r1,r2,r3,r4⟩,_⟩:=eO cs;clear cs b2
 cases is with
 |false=>
  have HX:=HN.o;rw[Oz (by simp)]at HX;have HX:=Z1 HX;clear HN;go_wp2;go_ret;rw[HX.o];exact⟨rfl,H.o.2.1.same c8.o⟩
 |true=>
  have HX:=HN.o;rw[OB rfl]at HX;have HX:=Z1 HX;clear HN;have an:=aN HD.o.C0 N.o.2;simp only[ax.o.2]at an;have ct:=Z1 an;have b3:∀g,(Value.slice A2 f s2).ownBlock=some g->W.heap.size<=g/\g<w1.heap.size:=λg u=>by
   have h9:=HD.o.C0;simp only[ax.o.2]at h9;exact h9.lt g u
  have di:=HB.o.2.lt;have b4:=Z1 b3;have b5:=N.o.2.size;have bn:=HD.o.below.size;obtain⟨z,hE⟩:=pI;clear an b3;go_upto_region 5 with(at_builtin;go_must (refine d9 (w:=w3) hE (by decide) rfl (.tmp 18) (.tmp 20) rfl (by rfl) ct.o (OJ bn b5) rfl (by rfl) rfl (by simp[Value.oneCell']) (by omega) (by unfold maxLen;omega) ?_);intro v4 w4 b6 br b7;obtain⟨A4,k4,rfl,dt,dk⟩:=ak b6;have T:=N.o.1.grown br (λe=>by have:=b4.o _ e.symm;omega);have cu:=(cn.o.later N.o.2).grown br (λe=>by have:=b4.o _ e.symm;omega);obtain⟨⟨t0,t1,t2,t3,t4,t5,t6,t7,t8⟩,_⟩:=eR T;have f1:=T.frozen 1;have H4:=Z5 b6 br b7 T cu;clear b6 br b7 T cu)
  have bf:=H4.o.2.2.2.1.B4 1 (.slice A4 (f+1) k4);have bg:=aI.B4 w1.heap.size w4 1 (.slice A4 (f+1) k4);have bs:=bg.B7.C8 H4.o.1 λg u e=>aB H4.o.1 H4.o.2.2.2.1 (by decide) (e▸u);have cw:=bg.B0 H4.o.2.2.2.2 (by omega);have b8:=(aN HD.o.D2 N.o.2).kept H4.o.2.1 (Jv (aN HD.o.D2 N.o.2) ct.o (by decide));have b9:=bg.B7.C8 b8 λg u e=>aB b8 H4.o.2.2.2.1 (by decide) (e▸u);have T:=(af HD.o.below N.o.2).grown H4.o.2.1 (OJ bn b5) λk hk=>(b4.o k hk).1;have cx:=bg.below T bn;have U:=(by first|exact HB.o.1|(have:Below _ _ _:=HB.o.1;rw[<-aq.o]at this;exact this):Below w.heap.size w W).trans (cx.mono (by have:=aq.o;omega));generalize w4.setCell ⟨w1.heap.size,1,none⟩ (.slice A4 (f+1) k4)=V5 at*;simp only[ldC,Ou,Ov,Ow]at bf;obtain⟨L,cy⟩:=c6.o V5 (by first|exact U|(have:Below _ _ _:=U;rw[aq.o]at this;exact this));have du:=Z1 (H.o.2.1.up U);obtain⟨⟨t0,t1,t2,t3,t4,t5,t6,t7,t8⟩,_⟩:=eR bf;have f1:=bf.frozen 1;have X:=Z5 bf bs b9 U cw;have dv:(f:Int)<=64:=by omega
  have cz:=ax.o.2;have bt:jH c.hi d ⟨j,l,n,p,q⟩=if c.hi<f+1 then(d++[(⟨j,l,n,p,q⟩:Adv)]).drop 1 else d++[(⟨j,l,n,p,q⟩:Adv)]:=by unfold jH;rw[cz]
  have c0:=Z1 bt;clear bf bg bs cw b8 b9 T cx U cz bt;by_cases bu:c.hi<f+1
  ·have d1:decide ((c.hi:Int)<(f:Int)+1)=true:=by simp;omega
   refine cM (by kernel_rfl) (by kernel_rfl) ?_;repeat still_step
   refine wpStill_nil ?_;obtain⟨g,A,B,hv,dp,ca,hT⟩:=(aQ.C4 X.o.2.1).rest;injection hv with hA _ hk;subst hA hk;rw[Oz (by omega)]at hT;rw[show(⟨g,A,none⟩:Addr).add 5=⟨g,A+5,none⟩from rfl]at hT;have bv:(advs d++(#[.int .i64 j,.int .i64 l,.int .i64 n,.int .i64 p,.int .i64 q]:Array Value).toList).drop 5=advs ((d++[(⟨j,l,n,p,q⟩:Adv)]).drop 1):=by
    have R:advs d++(#[.int .i64 j,.int .i64 l,.int .i64 n,.int .i64 p,.int .i64 q]:Array Value).toList=advs (d++[(⟨j,l,n,p,q⟩:Adv)]):=uk d ⟨j,l,n,p,q⟩;rw[R]
    cases d with
    |nil=>rfl
    |cons y r=>simp[advs,Adv.cells]
   rw[bv]at hT;have HT:=Z1 hT;have cc:=Z1 bu;have dr:B<9223372036854775807:=by simpa[maxLen]using ca
   have dw:¬B=0:=by omega
   have O:((d++[(⟨j,l,n,p,q⟩:Adv)]).drop 1).length=f:=by rw[PW,OS,ax.o.2];rfl
   have cd:=Z1 O;clear hT ca bu bv O;go_upto_region 7 with fail
   have am:=(X.o.1.B4 1 (.slice (some ⟨g,A+5,none⟩) f B)).drew;have bw:=aI.B4 w1.heap.size V5 1 (.slice (some ⟨g,A+5,none⟩) f B);have bh:=RG (bw.B7.C8 (by have:=X.o.2.2.1;exact this) λb u e=>aB X.o.2.2.1 X.o.1 (by decide) (e▸u));have bi:aQ (V5.setCell ⟨w1.heap.size,1,none⟩ (.slice (some ⟨g,A+5,none⟩) f B)).drew W.heap.size 62 5 (.slice (some ⟨g,A+5,none⟩) f B) ((d++[(⟨j,l,n,p,q⟩:Adv)]).drop 1).length (advs ((d++[(⟨j,l,n,p,q⟩:Adv)]).drop 1)):=by
    rw[cd.o];exact HT.o.D3 λb u=>bw.B7.block b (HT.o.lt b u).2 λe=>HT.o.ne X.o.1 (by decide) (e▸u)
   have G:=(bw.below X.o.2.2.2.1 (by have:=HB.o.2.lt;have:=aq.o;omega)).drew;simp only[ldC,Ou,Ov,Ow]at am;clear bw;generalize (V5.setCell ⟨w1.heap.size,1,none⟩ (.slice (some ⟨g,A+5,none⟩) f B)).drew=V6 at*;have P:=Z4 am bi bh G;have D:=Z1 (H.o.2.1.up G);clear am bi bh G t0 t1 t2 t3 t4 t5 t6 t7 t8 f1 L cy;have L:=D.o.B0.cell 4;obtain⟨⟨t0,t1,t2,t3,t4,t5,t6,t7,t8⟩,_⟩:=eR P.o.1;refine zb 6 ?_;repeat still_step
   refine wpStill_nil ?_;refine cZ rfl _ _ _ 133 53 rfl lE underlying133 i H.o.2.2.2.1 (ldV (.slice A1 n1 s1) (.slice (some ⟨g,A+5,none⟩) f B) ⟨S,(d++[(⟨j,l,n,p,q⟩:Adv)]).drop 1,⟨p0,p1,p2,p3,p4,p5⟩,F⟩) rfl rfl rfl (aw.D3 D.o.C1.map rfl) (by rw[Pe];have:=H.o.2.2.2.2.2.1;omega) ?_;intro V7 bj s cg;have bk:=Z2 bj s;clear bj s cg t0 t1 t2 t3 t4 t5 t6 t7 t8 L;go_wp2;go_ret;refine⟨rfl,?_⟩;have hD:=bk.o.1;have s:=bk.o.2;have v:ag (λb=>b=lb) V6 V7:=⟨s.os,s.tape,s.output,s.size,s.block⟩;have bo:=kz fs ⟨i,.slice A1 n1 s1,(.slice (some ⟨g,A+5,none⟩) f B),⟨S,(d++[(⟨j,l,n,p,q⟩:Adv)]).drop 1,⟨p0,p1,p2,p3,p4,p5⟩,F⟩⟩;rw[bo]at hD;have t:gN V6 ⟨i,.slice A1 n1 s1,(.slice (some ⟨g,A+5,none⟩) f B),⟨S,(d++[(⟨j,l,n,p,q⟩:Adv)]).drop 1,⟨p0,p1,p2,p3,p4,p5⟩,F⟩⟩:=⟨by have R:=aP P.o.2.2.1 (OK _);exact R,P.o.2.1.lower (OK _)⟩;have bp:gN V7 ⟨i,.slice A1 n1 s1,(.slice (some ⟨g,A+5,none⟩) f B),⟨S,(d++[(⟨j,l,n,p,q⟩:Adv)]).drop 1,⟨p0,p1,p2,p3,p4,p5⟩,F⟩⟩:=
    ⟨v.C8 t.D2 λg u e=>aw.E7 D.o.C1.map t.D2 (e▸u),t.C0.D3 λg u=>v.block g (t.C0.lt g u).2 λe=>fZ D.o.C1.map t.C0 (e▸u)⟩
   have Q:=sO H.o.2.2.2.2.2.2 H.o.2.2.2.2.1;unfold jI at Q ⊢;simp only at Q ⊢;rw[c0.o,OB cc.o]at Q ⊢;have ci:=D.o.put ⟨i,.slice A1 n1 s1,(.slice (some ⟨g,A+5,none⟩) f B),⟨S,(d++[(⟨j,l,n,p,q⟩:Adv)]).drop 1,⟨p0,p1,p2,p3,p4,p5⟩,F⟩⟩ H.o.2.2.1 Q bp v hD;exact⟨⟨_,_,_,ci⟩,(ag.B5 P.o.2.2.2).trans (v.C3 λb e=>.inr e)⟩
  ·have d1:decide ((c.hi:Int)<(f:Int)+1)=false:=by simp;omega
   refine cM (by kernel_rfl) (by kernel_rfl) ?_;repeat still_step
   refine wpStill_nil ?_;have cc:=Z1 bu;have O:(d++[(⟨j,l,n,p,q⟩:Adv)]).length=f+1:=by rw[OS,ax.o.2];rfl
   have cd:=Z1 O;clear bu O;go_upto_region 7 with fail
   have am:=X.o.1.drew;have bh:=RG X.o.2.2.1;have bi:aQ V5.drew W.heap.size 62 5 (.slice A4 (f+1) k4) (d++[(⟨j,l,n,p,q⟩:Adv)]).length (advs (d++[(⟨j,l,n,p,q⟩:Adv)])):=by
    rw[cd.o];have R:=uk d ⟨j,l,n,p,q⟩;rw[<-R];exact aQ.C4 (RG X.o.2.1)
   have G:=X.o.2.2.2.1.drew;generalize V5.drew=V6 at*;have P:=Z4 am bi bh G;have D:=Z1 (H.o.2.1.up G);clear am bi bh G t0 t1 t2 t3 t4 t5 t6 t7 t8 f1 L cy;have L:=D.o.B0.cell 4;obtain⟨⟨t0,t1,t2,t3,t4,t5,t6,t7,t8⟩,_⟩:=eR P.o.1;refine zb 6 ?_;repeat still_step
   refine wpStill_nil ?_;refine cZ rfl _ _ _ 133 53 rfl lE underlying133 i H.o.2.2.2.1 (ldV (.slice A1 n1 s1) (.slice A4 (f+1) k4) ⟨S,d++[(⟨j,l,n,p,q⟩:Adv)],⟨p0,p1,p2,p3,p4,p5⟩,F⟩) rfl rfl rfl (aw.D3 D.o.C1.map rfl) (by rw[Pe];have:=H.o.2.2.2.2.2.1;omega) ?_;intro V7 bj s cg;have bk:=Z2 bj s;clear bj s cg t0 t1 t2 t3 t4 t5 t6 t7 t8 L;go_wp2;go_ret;refine⟨rfl,?_⟩;have hD:=bk.o.1;have s:=bk.o.2;have v:ag (λb=>b=lb) V6 V7:=⟨s.os,s.tape,s.output,s.size,s.block⟩;have bo:=kz fs ⟨i,.slice A1 n1 s1,(.slice A4 (f+1) k4),⟨S,d++[(⟨j,l,n,p,q⟩:Adv)],⟨p0,p1,p2,p3,p4,p5⟩,F⟩⟩;rw[bo]at hD;have t:gN V6 ⟨i,.slice A1 n1 s1,(.slice A4 (f+1) k4),⟨S,d++[(⟨j,l,n,p,q⟩:Adv)],⟨p0,p1,p2,p3,p4,p5⟩,F⟩⟩:=⟨by have R:=aP P.o.2.2.1 (OK _);exact R,P.o.2.1.lower (OK _)⟩;have bp:gN V7 ⟨i,.slice A1 n1 s1,(.slice A4 (f+1) k4),⟨S,d++[(⟨j,l,n,p,q⟩:Adv)],⟨p0,p1,p2,p3,p4,p5⟩,F⟩⟩:=
    ⟨v.C8 t.D2 λg u e=>aw.E7 D.o.C1.map t.D2 (e▸u),t.C0.D3 λg u=>v.block g (t.C0.lt g u).2 λe=>fZ D.o.C1.map t.C0 (e▸u)⟩
   have Q:=sO H.o.2.2.2.2.2.2 H.o.2.2.2.2.1;unfold jI at Q ⊢;simp only at Q ⊢;rw[c0.o,Oz cc.o]at Q ⊢;have ci:=D.o.put ⟨i,.slice A1 n1 s1,(.slice A4 (f+1) k4),⟨S,d++[(⟨j,l,n,p,q⟩:Adv)],⟨p0,p1,p2,p3,p4,p5⟩,F⟩⟩ H.o.2.2.1 Q bp v hD;exact⟨⟨_,_,_,ci⟩,(ag.B5 P.o.2.2.2).trans (v.C3 λb e=>.inr e)⟩
def pJ(l:List Smp)(t:Int):Int:=match l.findIdx? λs=>decide (s.tick<t)with
 |some i=>(i:Int)
 |none=> -1
def lx(l:List Smp)(j:Nat):Int:=(l.getD j ⟨0,0⟩).tick
def gA{l:List Smp}{j:Nat}(h:j<l.length):lx l j=l[j].tick:=by simp[lx,List.getD,h]
def FS{l:List Smp}{t:Int}{k:Nat}(hk:k<l.length)(h:lx l k<t)(hb:∀j,j<k->t<=lx l j):pJ l t=k:=by
 unfold pJ;have:l.findIdx? (λs=>decide (s.tick<t))=some k:=RK.2 ⟨hk,by rw[<-gA hk];simpa using h,λj a=>by have:=hb j a;rw[gA zO]at this;simpa using this⟩;rw[this]
def FT{l:List Smp}{t:Int}(hb:∀j,j<l.length->t<=lx l j):pJ l t= -1:=by
 unfold pJ;have:l.findIdx? (λs=>decide (s.tick<t))=none:=List.findIdx?_eq_none_iff.2 λs b=>by
  obtain⟨j,a,rfl⟩:=PJ b;have:=hb j a;rw[gA a]at this
  simpa using this
 rw[this]
def keepT(t:Int)(l:List Smp):List Smp:=l.filter λs=>decide (t<=s.tick)
def vi(s:Smp)(tb:Nat)(ty:TypeId)(t:Int)(w:World)(h:Blk w tb ty #[I t]):
  C 151 #[.agg #[I s.tick,I s.value],Z tb 0] w λe w'=>e=.returned (.bool (decide (s.tick<t)))/\M w w':=by
 obtain⟨b,c⟩:=s;have d:=(h.alloc (.cells #[I b,I c] 66)).cell 0;have a:=zh w (.cells #[I b,I c] 66);have f:=Z1 a;simp at d;clear h a
 go_in
 go_wp2;go_ret;exact⟨rfl,f.o⟩
def By(A:Option Addr)(c n tb:Nat)(ty:TypeId)(t:Int)(w:World)(hr:an w w.heap.size 2 A n (smps l))(hn:n<=1000)(h:Blk w tb ty #[I t]):
  C 192 #[.slice A n c,.func (.func 151) #[] #[Z tb 0]] w (J (I (pJ l t)) w):=by
 have s:=Z1 (iB hr);have u:=Z1 h;clear h
 go_in
 go_wp2;go_loopw [8] (λi wr=>∃(k:Nat),k<=n/\i=I k/\Hid ((∀j,j<k->t<=lx l j)/\M w wr)) (λi _=>n-(intOf i).toNat)
 case atStart=>exact⟨0,OK _,rfl,Z1 ⟨λj h=>zO,Oy _ _⟩⟩
 case round=>
  obtain⟨k,L,rfl,b⟩:=hrel;by_cases F:k<n
  ·have d:k<l.length:=by have:=s.o;omega
   obtain⟨N,o,rfl,G,v,y⟩:=il (hr.up b.o.2) d;have z:=Z1 (u.o.later b.o.2);have q:=gA d;generalize l[k]=x at*;obtain⟨g,B⟩:=x;simp only at v y q;have r:=Z2 q d;clear q hr d;go_wp2_with fail;refine zm (vi ⟨g,B⟩ tb ty t wr z.o) λO m=>?_;have p:=Z1 (af b.o.2 m);clear m;by_cases a:g<t
   ·have D:decide (g<t)=true:=by simpa using a
    have f:=Z1 (FS r.o.2 (by rw[r.o.1];exact a) b.o.1);clear a;go_wp2;go_ret;exact⟨aC f.o.symm,p.o⟩
   ·have D:decide (g<t)=false:=by simpa using a
    have f:Hid (∀j,j<k+1->t<=lx l j):=Z1 (λj H=>by
     by_cases e:j=k
     ·subst e;rw[r.o.1];omega
     ·exact b.o.1 j zO)
    clear a;go_wp2;go_roundw
    case rel=>exact⟨k+1,zO,by go_num,Z1 ⟨f.o,p.o⟩⟩
    case measure=>simp[intOf];omega
  ·obtain rfl:k=n:=zO;have f:=Z1 (FT λj P=>b.o.1 j (by have:=s.o;omega));go_wp2;go_ret;exact⟨aC f.o.symm,b.o.2⟩
def vj{t:Int}{l:List Smp}(h:∀j,j<l.length->t<=lx l j):keepT t l=l:=by
 unfold keepT;refine QR.2 λs b=>?_;obtain⟨j,a,rfl⟩:=PJ b;have:=h j a;rw[gA a]at this
 simpa using this
def oE(x:Smp):keepT t (l++[x])=keepT t l++if t<=x.tick then[x]else[]:=by
 unfold keepT;rw[Ql];by_cases h:t<=x.tick<;>simp[h]
def CZ(t:Int):(pJ l t= -1/\keepT t l=l)\/∃k:Nat,pJ l t=k/\k<l.length/\keepT t (l.take (k+1))=l.take k:=by
 unfold pJ
 cases h:l.findIdx? λs=>decide (s.tick<t)with
 |none=>
  left
  refine⟨rfl,vj λj a=>?_⟩;have:=List.findIdx?_eq_none_iff.1 h l[j] (OR a);rw[gA a]
  simpa using this
 |some k=>
  right
  obtain⟨b,c,d⟩:=RK.1 h;refine⟨k,rfl,b,?_⟩;rw[OG b,oE,Oz (by simpa using c),PC];refine vj λj a=>?_;rw[PG]at a;have:=d j zO;rw[gA (by rw[PG];omega),Sn]
  simpa using this
structure gT(t:Int)(l lr:List Smp)(a b:Nat):Prop where
 len:lr.length=l.length
 ahead:lr.take a=keepT t (l.take b)
 rest:lr.drop b=l.drop b
 lt:a<b
 le:b<=l.length
def gT.at_{t:Int}{l:List Smp}(h:gT t l lr a b)(hb:b<l.length):lr[b]'(by rw[h.len];exact hb)=l[b]:=by
 have c:lr[b]?=l[b]?:=by
  have d:(lr.drop b)[0]?=(l.drop b)[0]?:=by rw[h.rest]
  rw[PM,PM]at d;exact d
 rw[OL (by rw[h.len];exact hb),OL hb]at c;injection c
def gT.skip{t:Int}{l:List Smp}(h:gT t l lr a b)(hb:b<l.length)(hx:¬t<=l[b].tick):gT t l lr a (b+1):=by
 refine⟨h.len,?_,?_,by have:=h.lt;omega,hb⟩
 ·rw[OG hb,oE,Oz hx,PC];exact h.ahead
 ·rw[<-Rs,<-Rs,h.rest]
def gT.B7{t:Int}{l:List Smp}(h:gT t l lr a b)(hb:b<l.length)(hx:t<=l[b].tick):gT t l (lr.set a l[b]) (a+1) (b+1):=by
 have d:=h.lt;have c:=h.len;refine⟨by rw[PI,c],?_,?_,zO,hb⟩
 ·rw[OG hb,oE,OB hx,<-h.ahead];rw[OG (by rw[PI];omega),List.getElem_set_self,List.take_set_of_le (OA _)]
 ·rw[List.drop_set_of_lt zO,<-Rs,<-Rs,h.rest]
def gT.done{t:Int}{l:List Smp}(h:gT t l lr a l.length):lr.take a=keepT t l:=by
 have:=h.ahead
 rwa [PO]at this
def Jw(B:Nat)(w:World)(v:Value)(t:Int)(l:List Smp)(e:Ending)(w':World):Prop:=
 ∃v',e=.returned v'/\w'.ownsRow B 66 2 v' (keepT t l).length (smps (keepT t l))/\ag (λj=>v.ownBlock=some j) w w'/\v'.ownBlock=v.ownBlock
def Jy(n:Nat)(v:Value)(l:List Smp)(w:World)(h:w.ownsRow B 66 2 v n (smps l))(hn:n=l.length)(hN:n<=1000)(tb:Nat)(ty:TypeId)(t:Int)(ht:Blk w tb ty #[I t])(hne:66≠ty):
  C 150 #[v,.func (.func 151) #[] #[Z tb 0]] w (Jw B w v t l):=by
 have L:=aB h ht hne
 rcases CZ l t with⟨X,hk⟩|⟨k,X,a5,hk⟩
 ·obtain⟨A,c,rfl,_,_⟩:=ak h;have HI:=Z1 (By l A c n tb ty t w (an.C4 h) hN ht);rw[X]at HI;have H:=Z3 h hk hn;clear h X hk ht L hn
  go_in
  go_wp2_with fail;refine zm HI.o λw1 F=>?_;have HB:=Z1 F;clear F;go_wp2;go_ret;exact⟨_,rfl,by rw[H.o.2.1,<-H.o.2.2];exact aN H.o.1 HB.o,ag.B5 HB.o,rfl⟩
 ·obtain⟨g,c,a6,rfl,bn,y,bo,ap,P,Q⟩:=fj h zO;have HI:=Z1 (By l (some (Y g 0)) c n tb ty t w (an.C4 h) hN ht);rw[X]at HI;have aq:tb≠g:=λe=>L (by rw[e];rfl);have H:=Z5 h hk hn ht aq;have bp:k<n:=zO;have bq:((k:Int)== -1)=false:=zS;have bd:c<=9223372036854775807:=by simpa[maxLen]using ap
  clear h X hk ht L hn y P Q a5 aq ap
  go_in
  go_wp2_with fail;refine zm HI.o λw1 F=>?_;have HB:=Z1 F;clear F;go_wp2;go_loopw [5,6] (λi j wr=>∃(a b:Nat),i=I a/\j=I b/\a<b/\b<=n/\Hid (∃r,gT t l r a b/\wr.ownsRow B 66 2 (V g 0 n c) n (smps r)/\ag (λj=>j=g) w wr)) (λ_ j _=>n-(intOf j).toNat)
  case atStart=>exact⟨k,k+1,by go_num,by go_num,zO,zO,Z1 ⟨l,⟨rfl,H.o.2.1.symm,rfl,zO,by have:=H.o.2.2.1;omega⟩,aN H.o.1 HB.o,ag.B5 HB.o⟩⟩
  case round=>
   obtain⟨a,b,rfl,rfl,br,bs,HM⟩:=hrel;obtain⟨r,d,q,f⟩:=HM.o;by_cases bt:b<n
   ·have u:b<l.length:=by have:=H.o.2.2.1;omega
    have ar:b<r.length:=by rw[d.len];exact u
    obtain⟨bb,o,he,_,g0,g1⟩:=il (k:=b) (an.C4 q) ar;injection he with he;injection he with e1 e2;subst e1 e2;rw[d.at_ u]at g0 g1;have U:=gA u;have z:=λU=>d.skip u U;have ad:=λU=>d.B7 u U;generalize l[b]=x at*;obtain⟨N,x1⟩:=x;simp only[PS]at g0 g1 z ad U;have au:=f.B0 H.o.2.2.2.1 H.o.2.2.2.2;have av:=zh wr (.cells #[I N,I x1] 66);have D:=Z7 au z ad q f d av;clear au z ad q f d av U u ar HM;go_wp2_with fail;refine zm (vi ⟨N,x1⟩ tb ty t _ (D.o.1.later D.o.2.2.2.2.2.2)) λw5 ae=>?_;have O:=af D.o.2.2.2.2.2.2 ae;have aw:=(Blk.A8 wr 66 #[I N,I x1] rfl).later ae;have m:=aN D.o.2.2.2.1 O;have G:n=r.length:=by rw[D.o.2.2.2.2.2.1.len];exact H.o.2.2.1
    obtain⟨g9,ah,bu,_,_,f0,f1,ai⟩:=ri (k:=a) m G zO;obtain⟨_,_,aj,_,q0,q1⟩:=il (k:=a) (an.C4 m) zO;injection ah with ah;injection ah with e9 _;subst e9;injection aj with aj;injection aj with e8 e7;subst e8 e7;rw[PS]at q0 q1;obtain⟨v0,v1⟩:=ao aw;have R:=Z3 O m ai;generalize r[a].tick=u0 at*;generalize r[a].value=u1 at*;clear ae O aw m G ai;by_cases S:N<t
    ·have d1:decide (N<t)=true:=by simpa using S
     have HS:=Z1 (D.o.2.1 zO);clear S;go_wp2;go_roundw
     case rel=>exact⟨a,b+1,rfl,by go_num,zO,zO,Z1 ⟨r,HS.o,R.o.2.1,(D.o.2.2.2.2.1).trans (ag.B5 R.o.1)⟩⟩
     case measure=>simp[intOf];omega
    ·have d1:decide (N<t)=false:=by simpa using S
     have HS:=Z1 (D.o.2.2.1 zO);clear S;go_wp2;go_roundw
     case rel=>
      refine⟨a+1,b+1,by go_num,by go_num,zO,zO,Z1 ⟨_,HS.o,R.o.2.2 ⟨N,x1⟩,?_⟩⟩;exact(((D.o.2.2.2.2.1).trans (ag.B5 R.o.1)).setCell (p:=Y g (a*2)) (.inl rfl) _).setCell (p:=Y g (a*2+1)) (.inl rfl) _
     case measure=>simp[intOf];omega
   ·obtain rfl:b=n:=zO;have T:=(show gT t l r a l.length by rw[<-H.o.2.2.1];exact d).done;obtain⟨g9,bv,a6,a9,a4,y,_,_,P,Q⟩:=fj q zO;injection a9 with hA _ ba;subst ba;injection hA with hA;injection hA with hA _;subst hA;have G:r.length=b:=by rw[d.len];exact H.o.2.2.1.symm
    have s:=Z6 T y P Q f G;have bw:¬c=a:=zO;have bx:((b:Nat):Int)<=(c:Int):=zO;clear T y P Q f d q HM G
    go_wp2_with (refine jd rfl (.tmp 38) 48 rfl underlying48 (.agg #[I 0,I 0]) tG g (a*2) (b-a) (c-a) zO (by simp[Act.eval,Act.put]) s.o.2.1 (by rw[fp,s.o.2.2.1];omega) (nf _) ?_;intro W2 ax ay;have az:=Z2 ax ay;clear ax ay)
    go_ret;refine⟨_,rfl,?_,(s.o.2.2.2.2.1.trans az.o.2.B7).C3 λj e=>by rw[e];rfl,rfl⟩;have a0:(keepT t l).length=a:=by rw[<-s.o.1,PG,s.o.2.2.2.2.2];omega
    rw[a0];refine lf a4 az.o.1 zO zU (by rw[bV,s.o.2.2.1]) ?_ (by rw[dc,a0]);rw[fU _ (a*2) _ (by rw[s.o.2.2.1,QQ,fp];omega)];rw[QG (by rw[PG,QQ,s.o.2.2.1];omega),<-s.o.1,uo,<-s.o.2.2.2.1,Sf,Qp zO]
def fF(t:Int)(ls:List (K2×Ld))(ks:List K2):List (K2×Ld):=ls.map λe=>(e.1,if e.1∈ks then eP t e.2 else e.2)
def FV:fF t ls []=ls:=by simp[fF]
def sP:(fF t ls ks).map (·.1)=ls.map (·.1):=by simp[fF,Px,Function.comp_def]
def Da{t:Int}{ls:List (K2×Ld)}{ks:List K2}(hd:cw ls)(hg:ap (fF t ls ks) k=some x)(hn:k∉ks):aR (fF t ls ks) k (eP t x)=fF t ls (ks++[k]):=by
 have d:k∈(fF t ls ks).map (·.1):=Pa.2 ⟨_,bR hg,rfl⟩;have b:cw (fF t ls ks):=by unfold cw;rw[sP];exact hd
 rw[xj b d];unfold fF;rw[Px];refine PD λe c=>?_;simp only[Function.comp];by_cases h:e.1=k
 ·have g:=c;have a:ap (fF t ls ks) e.1=some e.2:=by
   refine im b ?_;have:=Pq (f:=λe:K2×Ld=>(e.1,if e.1∈ks then eP t e.2 else e.2)) c;rw[Oz (by rw[h];exact hn)]at this;exact this
  rw[h,hg]at a;injection a with a;rw[OB h,OB (by simp[h]),a]
 ·rw[Oz h];by_cases a:e.1∈ks
  ·rw[OB a,OB (by simp[a])]
  ·rw[Oz a,Oz (by simp[a,h])]
def FW{t:Int}{ls:List (K2×Ld)}{ks:List K2}(h:∀e∈ls,e.1∈ks):fF t ls ks=ls.map λe=>(e.1,eP t e.2):=by
 unfold fF;refine PD λe a=>?_;rw[OB (h e a)]
def pK(t:Int):Rp:=if t<0 then .of 3 else .zero
def rN(m:Mp)(t:Int):Mp:=if t<0 then m else{m with ls:=m.ls.map λe=>(e.1,eP t e.2)}
def Db(h:x.C6 c)(t:Int):(eP t x).C6 c:=
 ⟨h.sorted.sublist List.filter_sublist,OJ (PF _ _) h.E5,λs a=>h.right s (Pp.1 a).1,h.C0,h.advs,h.L0,h.D8⟩
def xD(fs:List Fe):(fls fs).map (·.1)=fs.map λf=>av f.id:=by simp[fls,Fe.mod,Px,Function.comp_def]
def xE{w:World}(h:iw w c lb fs):(fs.map (·.id)).Nodup:=by
 have:=h.map.D7;unfold cw at this;rw[Px]at this;exact this
def Md{w:World}(h:iw w c lb fs):cw (fls fs):=by
 unfold cw;rw[xD];refine List.pairwise_map.2 ?_;have f:=List.pairwise_map.1 (xE h);refine f.imp_of_mem λ{a b} g i d e=>d (mL (h.ids a g) (h.ids b i) e)
def FX(c:Cg)(hc:c.ok)(mb lb:Nat)(fs:List Fe)(kv:List (Option (Nat×List Fe)))(cv:Value)(m:Mp)(h:cq w c mb lb fs kv cv m)(hn:fs.length<=80000)(t:Int):
  C 114 #[Z mb 0,I t] w λe w'=>e=.returned (pK t).val/\dM w w' c mb lb (rN m t):=by
 have D:=zh w (.cells #[I t] 2);have cg:=ae D (.cells Rp.zero.arr 77);have bi:=(Blk.A8 w 2 #[I t] rfl).alloc (.cells Rp.zero.arr 77);have ch:=Blk.A8 (w.alloc (.cells #[I t] 2)) 77 Rp.zero.arr (g:=w.heap.size+1) zS;have eh:=h.B0.lt;have ei:=h.C1.map.lt;have H:=Z3 hc h hn;have HB:=Z3 cg bi ch;have c0:=bi.cell 0;simp only[Rp.zero,Rp.arr,St.zero,St.arr,az]at*;simp at c0;clear h D cg bi ch hc hn
 go_in
 by_cases p:t<0
 ·have d1:decide (t<0)=true:=by simpa using p
  have HX:Hid (pK t=.of 3/\rN m t=m):=Z1 (by unfold pK rN;exact⟨OB p,OB p⟩);clear p
  go_wp2_with (refine zj aA HB.o.2.2 ?_;intro w6 bk a7)
  refine OH (au aA rfl bk rfl _ rfl) rfl ⟨by rw[HX.o.1];rfl,?_⟩;rw[HX.o.2];exact H.o.2.1.same (a7.below HB.o.1 zO)
 ·have d1:decide (t<0)=false:=by simpa using p
  have HX:Hid (pK t=.zero/\rN m t={m with ls:=m.ls.map λe=>(e.1,eP t e.2)}):=Z1 (by unfold pK rN;exact⟨Oz p,Oz p⟩);clear p;go_wp2_with fail;generalize hV:(w.alloc (.cells #[I t] 2)).alloc (.cells #[I 0,I 0,I 0,I 0,I 0,I 0,I 0,I 0,I 0,I 0,I 0,I 0,I 0] 77)=V at*;have ej:=Z1 hV;clear hV;generalize bl:w.heap.size=v9 at*;have bm:=Z1 bl;clear bl;have F:M w V:=by first|exact HB.o.1|(have:Below _ _ _:=HB.o.1;rw[<-bm.o]at this;exact this)
  refine(Jz V c mb lb fs kv cv m (H.o.2.1.up F) (by have:=H.o.2.2;omega)).mono ?_;rintro e w1 ⟨v,a,rfl,hp,a0,D⟩;obtain⟨A,k,rfl,ek,ci⟩:=ak a0;have dz:a.length<=80000:=by have:=hp.length_eq;rw[Pe]at this;have:=H.o.2.2;omega
  generalize hn:a.length=n at*;have N:=Z4 hp a0 (af F D) hn;have bn:=Z2 (HB.o.2.1.later D) (HB.o.2.2.later D);have el:k<=9223372036854775807:=by simpa[maxLen]using ci
  clear hp a0 D F hn ci c0;go_wp2;go_loopw [14] (λi wr=>∃(j:Nat),j<=n/\i=I j/\Hid (∃r,cq wr c mb lb r kv cv {m with ls:=fF t m.ls ((a.take j).map av)}/\ag (λb=>b=lb) w1 wr)) (λi _=>n-(intOf i).toNat)
  case atStart=>exact⟨0,OK _,by go_num,Z1 ⟨fs,by rw[OO,Qs,FV];exact H.o.2.1.up N.o.2.2.1,ag.refl _ _⟩⟩
  case round=>
   obtain⟨j,hj,rfl,HM⟩:=hrel;obtain⟨r,d,l⟩:=HM.o;by_cases cj:j<n
   ·have ab:j<a.length:=by rw[N.o.2.2.2];exact cj
    have ck:=l.C8 N.o.2.1 λg hg e=>by have:=(N.o.2.1.lt g hg).1;have h2:=HB.o.1.size;have h3:g=lb:=e;have:=bm.o;omega
    obtain⟨g,c1,db,_,_,_,a8,_,_⟩:=MX ck cj;injection db with hA _ dc;subst hA dc;have d2:wr.cell? (Y g j)=some (.string a[j]):=by rw[a8];simp[ab]
    have cl:=OG ab;have a1:=N.o.1.mem_iff.1 (OR ab);have u:bd a[j]=true:=by
     obtain⟨f,hf,O⟩:=Pa.1 a1;rw[<-O];exact H.o.2.1.C1.ids f hf
    have cm:=N.o.1.nodup_iff.2 (xE H.o.2.1.C1);have ad:av a[j]∉(a.take j).map av:=by
     intro hc;obtain⟨y,hy,O⟩:=Pa.1 hc;have de:bd y=true:=by
      obtain⟨f,hf,O⟩:=Pa.1 (N.o.1.mem_iff.1 (Qb hy));rw[<-O];exact H.o.2.1.C1.ids f hf
     have cn:=mL de u O;obtain⟨q,hq,rfl⟩:=PJ hy;rw[Sn]at cn;rw[PG]at hq;have:=Qq.1 cm q j zO ab zO;exact this cn
    have bo:av a[j]∈(fls r).map (·.1):=by
     have e1:=d.ls;rw[<-e1,sP,H.o.2.1.ls,xD];obtain⟨f,hf,O⟩:=Pa.1 a1;exact Pa.2 ⟨f,hf,by rw[O]⟩
    have co:ap (fF t m.ls ((a.take j).map av)) (av a[j])=some (dG r a[j]).x:=by
     have e1:fF t m.ls ((a.take j).map av)=fls r:=d.ls;rw[e1,jk d.C1.ids u];have h2:=gY.2 bo;rw[jk d.C1.ids u]at h2;unfold dG
     cases hq:eA r a[j]with
     |none=>rw[hq]at h2;cases h2
     |some f=>rfl
    have bp:=Md H.o.2.1.C1;rw[<-H.o.2.1.ls]at bp;have s:=Da bp co ad;have bq:(a.take (j+1)).map av=(a.take j).map av++[av a[j]]:=by rw[cl,QC];rfl
    rw[<-bq]at s;have R:r.length=fs.length:=by
     have e1:=d.ls;have e2:=congrArg List.length e1;rw[H.o.2.1.ls]at e2;simpa[fF,fls]using e2.symm
    generalize a[j]=P at*;have aj:P.size<=maxLen:=by have:=(dn u).2.1;unfold maxLen;omega
    have G:=sK d.C1 P;have Q:=mv d.C1 P;have S:=qn r P;have cp:=Z1 (λU (hb:M wr U)=>((d.up hb).C1.map).K0 aj);have bs:=d.B0.cell 4;have d3:=d.B0.lt;obtain⟨A1,s1,A2,s2,e1,e2⟩:=jl G;have df:=Cg.small H.o.1;have dg:(dG r P).x.D2.length<=256:=by have:=Q.E5;omega
    have bv:=Z7 G Q S u s R aj;have al:=Z2 d l;have cr:=l.B0 bn.o.1 (λe=>by have h3:v9=lb:=e;omega);have am:=l.B0 bn.o.2 (λe=>by have h3:v9+1=lb:=e;omega);have dh:=Z2 cr am;generalize dG r P=di at*;obtain⟨dj,em,en,⟨T,op,⟨p0,p1,p2,p3,p4,p5⟩,ao⟩⟩:=di;simp only at e1 e2 dg;subst e1 e2;simp only[ldV]at cp;have cs:=an.C4 G.D2;generalize ct:T.length=n1 at*;generalize cu:op.length=n2 at*;have dl:=Z2 ct cu;have dm:=Z1 (λU (hb:M wr U)=>kI (smps T) A1 s1 n1 U (cs.up hb) (jf _) zO);clear G Q S u s R d l aj df co bo ad cm a1 cl bq bp ct cu cs ck a8 ab cr am HM;have dp:=cp.o wr (Oy _ _)
    go_wp2_with (refine zj gO (Blk.A8 wr 53 (ldC (.slice none 0 0) (.slice none 0 0) .new) rfl) ?_;intro w3 b4 cw;have a9:=Z2 b4 (cw.below (zh wr _) (OA _));have t0:=b4.cell 0;simp[ldC]at t0;clear b4 cw)
    refine zX (dm.o _ a9.o.2) λsv w5 ba=>?_;have a4:=af a9.o.2 ba.below;have bb:=Z3 ba.own a4 ba.below;have dq:=Z1 (dh.o.1.later a4);clear ba a4 t0;go_wp2_with fail;refine(Jy w3.heap.size n1 _ T w5 bb.o.1 dl.o.1.symm zO v9 _ t dq.o zP).mono ?_;rintro e6 w6 ⟨eo,rfl,X,cx,c7⟩;obtain⟨A6,k6,rfl,_,_⟩:=ak X;have a5:=bb.o.2.2.trans (cx.below bb.o.2.2.size λq hq=>(bb.o.1.lt q hq).1);have aa:=a9.o.1.later a5;have t0:=aa.cell 0;have f0:=aa.frozen 0;simp[ldC]at t0;generalize hq:(keepT t T).length=q at*;have H6:=Z4 a5 aa X hq;clear a5 aa X cx c7 hq;go_upto_region 8 with fail
    have F:=H6.o.2.1.B4 0 (.slice A6 q k6);have b5:=aI.B4 wr.heap.size w6 0 (.slice A6 q k6);have bc:=b5.B7.C8 H6.o.2.2.1 λg hg e=>aB H6.o.2.2.1 H6.o.2.1 zP (e▸hg);have b6:=b5.below (af a9.o.2 H6.o.1) (OA _);generalize w6.setCell (Y wr.heap.size 0) (.slice A6 q k6)=V5 at*;simp only[ldC,Ou,Ov]at F;have be:=Z3 b6 F bc;have ax:=Z1 (al.o.1.up b6);clear t0 f0 b5 b6 F bc dp bs;have bs:=ax.o.B0.cell 4;obtain⟨⟨t0,t1,t2,t3,t4,t5,t6,t7,t8⟩,_⟩:=eR be.o.2.1;refine zb 6 ?_;repeat still_step
    refine wpStill_nil ?_;refine cZ rfl _ _ _ 133 53 rfl lE underlying133 P bv.o.2.2.2.2.2.2 (ldV (.slice A6 q k6) (.slice A2 n2 s2) ⟨keepT t T,op,⟨p0,p1,p2,p3,p4,p5⟩,ao⟩) rfl rfl rfl (aw.D3 ax.o.C1.map rfl) (by rw[Pe];have:=bv.o.2.2.2.2.2.1;have:=H.o.2.2;omega) ?_;intro V6 cy z dt;have cz:=Z2 cy z;clear cy z dt t0 t1 t2 t3 t4 t5 t6 t7 t8 bs;go_wp2;have hD:=cz.o.1;have z:=cz.o.2;have L:ag (λb=>b=lb) V5 V6:=⟨z.os,z.tape,z.output,z.size,z.block⟩;obtain⟨G,Q,S,u,s,R,aj⟩:=bv.o;have b7:=kz r ⟨P,.slice A6 q k6,.slice A2 n2 s2,⟨keepT t T,op,⟨p0,p1,p2,p3,p4,p5⟩,ao⟩⟩;rw[b7]at hD;have B:gN V5 ⟨dj,.slice A6 q k6,.slice A2 n2 s2,⟨keepT t T,op,⟨p0,p1,p2,p3,p4,p5⟩,ao⟩⟩:=⟨by have h1:=aP be.o.2.2 (OK _);rw[<-H6.o.2.2.2]at h1 ⊢;exact h1,by have h1:=G.C0.later be.o.1;exact h1⟩;have b8:gN V6 ⟨P,.slice A6 q k6,.slice A2 n2 s2,⟨keepT t T,op,⟨p0,p1,p2,p3,p4,p5⟩,ao⟩⟩:=
     ⟨L.C8 B.D2 λg hg e=>aw.E7 ax.o.C1.map B.D2 (e▸hg),B.C0.D3 λg hg=>L.block g (B.C0.lt g hg).2 λe=>fZ ax.o.C1.map B.C0 (e▸hg)⟩
    have c2:=Db Q t;have c3:=ax.o.put ⟨P,.slice A6 q k6,.slice A2 n2 s2,⟨keepT t T,op,⟨p0,p1,p2,p3,p4,p5⟩,ao⟩⟩ u c2 b8 L hD;have du:=Z1 c3;clear hD z b7 B b8 c2 c3 G Q S u aj;have dv:=Z1 ((al.o.2.trans (ag.B5 be.o.1)).trans L);have dw:=Z1 s;clear L s R;go_roundw
    case rel=>exact⟨j+1,zO,by go_num,Z1 ⟨_,by rw[<-dw.o];exact du.o,dv.o⟩⟩
    case measure=>simp[intOf];omega
   ·obtain rfl:j=n:=zO;have bf:(a.take j).map av=a.map av:=by rw[OT (by rw[N.o.2.2.2];omega)]
    have b9:fF t m.ls (a.map av)=m.ls.map λe=>(e.1,eP t e.2):=FW λe O=>by
     rw[H.o.2.1.ls]at O;obtain⟨f,hf,rfl⟩:=Pa.1 O;exact Pa.2 ⟨f.id,N.o.1.mem_iff.2 (Pa.2 ⟨f,hf,rfl⟩),rfl⟩
    have a6:=d;rw[bf,b9,<-HX.o.2]at a6;have al:=Z2 a6 l;have am:=l.B0 bn.o.2 (λe=>by have h3:v9+1=lb:=e;omega);have c4:=Z1 am;clear d a6 l am bf b9 HM
    go_wp2_with (refine zj aA c4.o ?_;intro w6 bk a7)
    refine OH (au aA rfl bk rfl _ rfl) rfl ⟨by rw[HX.o.1];rfl,?_⟩;have bl:=bm.o;refine⟨⟨_,_,_,al.o.1.only a7 c4.o⟩,bL ((ag.B5 N.o.2.2.1).trans (al.o.2.C3 λb e=>.inr e)) a7.B7 λb hb e=>?_⟩;have h3:=e;omega
section
variable {w w1 w5 w6:World} {c:Cg} {mb lb g:Nat} {m m':Mp} {cs:Array Value}
def dM.rep(hn:dM w1 w5 c mb lb m')(hr:Blk w1 g 77 cs)(h1:g≠mb)(h2:g≠lb):Blk w5 g 77 cs:=hn.2.B0 hr (by rintro(e|e);exact h1 e;exact h2 e)
def dM.fin(hb:M w w1)(hn:dM w1 w5 c mb lb m')(hr:Blk w5 g 77 cs)(hg:w.heap.size<=g)(ho:aI g w5 w6):dM w w6 c mb lb m':=by
 obtain⟨⟨a,d,f,h⟩,hK⟩:=hn;refine⟨⟨a,d,f,h.only ho hr⟩,bL ((ag.B5 hb).trans hK) ho.B7 λb i e=>?_⟩;have j:b=g:=e;omega
end
def Nt{c:Cg}{m:Mp}{x:Cl}(hk:x.k=1)(hi:bd x.id=true):ny c m x=(doM c m x).2/\oC c m x=(doM c m x).1:=by
 have a:aH x=bG x.tick x.value:=by unfold aH;rw[OB hk,OB hi]
 unfold ny oC;by_cases b:bG x.tick x.value=0
 ·rw[La (by rw[a,b]) hk,b];have d:¬(0:Int)≠0:=zS;simp only[Oz d];unfold fO
  cases dR c m (av x.id)<;>simp
 ·rw[nP (by rw[a];exact b),OB b,OB b,a];exact⟨rfl,rfl⟩
def Nu{c:Cg}{m:Mp}{x:Cl}(hk:x.k=6)(hi:bd x.id=true):nx c m x=(doM c m x).2/\oB c m x=(doM c m x).1:=by
 have a:aH x=fY x.D8:=by unfold aH;rw[Oz zO,Oz zO,Oz zO,OB hk,OB hi];rfl
 unfold nx oB;by_cases b:fY x.D8=0
 ·rw[Lg (by rw[a,b]) hk,b];have d:¬(0:Int)≠0:=zS;simp only[Oz d];unfold fO
  cases dR c m (av x.id)<;>simp
 ·rw[nP (by rw[a];exact b),OB b,OB b,a];exact⟨rfl,rfl⟩
def Me{c:Cg}{m:Mp}{x:Cl}(hk:x.k=2):pK x.tick=(doM c m x).2/\rN m x.tick=(doM c m x).1:=by
 have b:aH x=bG x.tick 0:=by unfold aH;rw[Oz zO,OB hk]
 unfold pK rN;by_cases a:x.tick<0
 ·rw[nP (by rw[b];unfold bG;rw[OB a];decide),OB a,OB a,b];unfold bG;rw[OB a];exact⟨rfl,rfl⟩
 ·rw[Lb (by rw[b];unfold bG;rw[Oz a];rfl) hk,Oz a,Oz a];exact⟨rfl,rfl⟩
def sQ{c:Cg}{m:Mp}{x:Cl}(hk:x.k=1\/x.k=5\/x.k=6\/x.k=7)(hi:bd x.id=false):doM c m x=(m,.of 2):=by
 have a:aH x=2:=by
  unfold aH
  rcases hk with hk|hk|hk|hk<;>simp[hk,hi,idE]
 rw[nP (by rw[a];decide),a]
def Mf{c:Cg}{m:Mp}{x:Cl}(hk:x.k<1\/8<x.k):doM c m x=(m,.of 14):=by
 have a:aH x=14:=by
  unfold aH;rw[Oz zO,Oz zO,Oz zO,Oz zO,Oz zO,Oz zO]
 rw[nP (by rw[a];decide),a]
def xF{x:Cl}(hk:x.k=3\/x.k=4\/x.k=8):aH x=0:=by
 unfold aH
 rcases hk with hk|hk|hk<;>simp[hk]
def Bz{x:Cl}(hk:x.k=5\/x.k=7)(hi:bd x.id=true):aH x=0:=by
 unfold aH
 rcases hk with hk|hk<;>simp[hk,hi,idE]
def JA(w:World)(c:Cg)(hc:c.ok)(mb lb:Nat)(fs:List Fe)(kv:List (Option (Nat×List Fe)))(cv:Value)(m:Mp)(h:cq w c mb lb fs kv cv m)(hn:fs.length<=80000)(hl:kv.length<=80000)(x:Cl)(hx:x.ok)(hk:x.k<1\/8<x.k):
  C 69 #[Z mb 0,x.val] w λe w'=>e=.returned (doM c m x).2.val/\dM w w' c mb lb (doM c m x).1:=by
 have y:=hx.L7;have q:=zh w (.cells x.arr 73);have r:=ae q (.cells Rp.zero.arr 77);have i:=(Blk.A8 w 73 x.arr rfl).alloc (.cells Rp.zero.arr 77);have s:=Blk.A8 (w.alloc (.cells x.arr 73)) 77 Rp.zero.arr (g:=w.heap.size+1) zS;have z:=h.B0.lt;have A:=h.C1.map.lt;have H:=Z5 hc h hn hl hx;have n:=Z3 r i s;have p:=Z1 (Mf (c:=c) (m:=m) hk);obtain⟨t,D,F,G,L,a,b,N,d,O,f⟩:=x;unfold Cl.val;simp only[Cl.arr,Rp.zero,Rp.arr,St.zero,St.arr,az,Cl.D8]at*;obtain⟨⟨P,Q,R,S,T,U⟩,X,c7,c8,c9,B⟩:=bh i;clear h q r i s hx hc hn hl
 go_in
 rcases hk with hk|hk
 ·have u:decide (t<1)=true:=by simpa using hk
  clear hk
  go_wp2_with (refine zj aA n.o.2.2 ?_;intro v j l)
  refine OH (au aA rfl j rfl _ rfl) rfl ⟨by rw[p.o];rfl,?_⟩;rw[p.o];exact H.o.2.1.same (l.below n.o.1 zO)
 ·have u:decide (t<1)=false:=zT;have d2:decide (8<t)=true:=by simpa using hk
  clear hk
  go_wp2_with (refine zj aA n.o.2.2 ?_;intro v j l)
  refine OH (au aA rfl j rfl _ rfl) rfl ⟨by rw[p.o];rfl,?_⟩;rw[p.o];exact H.o.2.1.same (l.below n.o.1 zO)
def NW(w:World)(c:Cg)(hc:c.ok)(mb lb:Nat)(fs:List Fe)(kv:List (Option (Nat×List Fe)))(cv:Value)(m:Mp)(h:cq w c mb lb fs kv cv m)(hn:fs.length<=80000)(hl:kv.length<=80000)(x:Cl)(hx:x.ok)(hk:x.k=1):
  C 69 #[Z mb 0,x.val] w λe w'=>e=.returned (doM c m x).2.val/\dM w w' c mb lb (doM c m x).1:=by
 have X:=hx.L7;have i:=zh w (.cells x.arr 73);have y:=ae i (.cells Rp.zero.arr 77);have n:=(Blk.A8 w 73 x.arr rfl).alloc (.cells Rp.zero.arr 77);have z:=Blk.A8 (w.alloc (.cells x.arr 73)) 77 Rp.zero.arr (g:=w.heap.size+1) zS;have a4:=h.B0.lt;have a5:=h.C1.map.lt;have H:=Z5 hc h hn hl hx;have s:=Z3 y n z;have u:=Z1 (λW=>dN x.id X W)
 cases hid:bd x.id with
 |false=>
  as_aux_lemma=>
  have A:=Z1 (sQ (c:=c) (m:=m) (x:=x) zO hid);rw[jz hid]at u;obtain⟨xk,B,D,F,G,a,b,L,d,N,f⟩:=x;simp only at hk;subst hk;unfold Cl.val;simp only[Cl.arr,Rp.zero,Rp.arr,St.zero,St.arr,az,Cl.D8]at*;obtain⟨⟨c0,c1,c2,c3,c4,c5⟩,c6,c7,c8,c9,R⟩:=bh n;clear h i y n z hx hc hn hl
  go_in
  go_wp2_with fail;generalize p:w.heap.size=v9 at*;generalize (w.alloc (.cells #[I 1,.string B,I D,I F,I G,I a,I b,I L,I d,I N,I f] 73)).alloc (.cells #[I 0,I 0,I 0,I 0,I 0,I 0,I 0,I 0,I 0,I 0,I 0,I 0,I 0] 77)=W at*;have j:=Z1 p;clear p;have q:M w W:=by first|exact s.o.1|(have:Below _ _ _:=s.o.1;rw[<-j.o]at this;exact this)
  have v:=Z1 q;clear q;refine zm (u.o _) λT i=>?_;have l:=Z2 (s.o.2.2.later i) (af v.o i);clear i
  go_wp2_with (refine zj aA l.o.1 ?_;intro w6 O P)
  refine OH (au aA rfl O rfl _ rfl) rfl ⟨by rw[A.o];rfl,?_⟩;rw[A.o];exact H.o.2.1.same (P.below l.o.2 (by have:=j.o;omega))
 |true=>
  as_aux_lemma=>
  have A:=Z1 (Nt (c:=c) (m:=m) hk hid);rw[lT hid]at u;obtain⟨xk,B,D,F,G,a,b,L,d,N,f⟩:=x;simp only at hk;subst hk;unfold Cl.val;simp only[Cl.arr,Rp.zero,Rp.arr,St.zero,St.arr,az,Cl.D8]at*;obtain⟨⟨c0,c1,c2,c3,c4,c5⟩,c6,c7,c8,c9,R⟩:=bh n;clear h i y n z hx hc hn hl
  go_in
  go_wp2_with fail;generalize p:w.heap.size=v9 at*;generalize (w.alloc (.cells #[I 1,.string B,I D,I F,I G,I a,I b,I L,I d,I N,I f] 73)).alloc (.cells #[I 0,I 0,I 0,I 0,I 0,I 0,I 0,I 0,I 0,I 0,I 0,I 0,I 0] 77)=W at*;have j:=Z1 p;clear p;have q:M w W:=by first|exact s.o.1|(have:Below _ _ _:=s.o.1;rw[<-j.o]at this;exact this)
  have v:=Z1 q;clear q;refine zm (u.o _) λT i=>?_;have Q:=H.o.2.1.up (af v.o i);have l:=Z3 (s.o.2.2.later i) (af v.o i) Q;obtain⟨⟨g0,g1,g2,g3,g4,g5⟩,g6,g7,g8,g9,am⟩:=bh (s.o.2.1.later i);clear c0 c1 c2 c3 c4 c5 c6 c7 c8 c9 R i Q;go_wp2_with fail;refine zY (fg T c mb lb fs kv cv m l.o.2.2) ?_;go_wp2_with fail;refine zm (Jr T c H.o.1 mb lb fs kv cv m l.o.2.2 H.o.2.2.1 ⟨1,B,D,F,G,a,b,L,d,N,f⟩ H.o.2.2.2.2 hid) λw5 t=>?_;have S:=t.rep l.o.1 (by have:=j.o;omega) (by have:=j.o;omega);have U:=Z2 t S;clear t S g0 g1 g2 g3 g4 g5 g6 g7 g8 g9 am;generalize ny c m ⟨1,B,D,F,G,a,b,L,d,N,f⟩=r at*;unfold Rp.val
  go_wp2_with (refine zj aA (cs:=r.arr) U.o.2 ?_;intro w6 O P)
  refine OH (au aA rfl O rfl _ rfl) rfl ⟨by rw[<-A.o.1];rfl,?_⟩;rw[<-A.o.2];exact U.o.1.fin l.o.2.1 U.o.2 (by have:=j.o;omega) P
def NX(w:World)(c:Cg)(hc:c.ok)(mb lb:Nat)(fs:List Fe)(kv:List (Option (Nat×List Fe)))(cv:Value)(m:Mp)(h:cq w c mb lb fs kv cv m)(hn:fs.length<=80000)(hl:kv.length<=80000)(x:Cl)(hx:x.ok)(hk:x.k=2):
  C 69 #[Z mb 0,x.val] w λe w'=>e=.returned (doM c m x).2.val/\dM w w' c mb lb (doM c m x).1:=by
 have F:=hx.L7;have i:=zh w (.cells x.arr 73);have t:=ae i (.cells Rp.zero.arr 77);have p:=(Blk.A8 w 73 x.arr rfl).alloc (.cells Rp.zero.arr 77);have u:=Blk.A8 (w.alloc (.cells x.arr 73)) 77 Rp.zero.arr (g:=w.heap.size+1) zS;have a1:=h.B0.lt;have a2:=h.C1.map.lt;have H:=Z5 hc h hn hl hx;have s:=Z3 t p u;have G:=Z1 (λW=>dN x.id F W);have L:=Z1 (Me (c:=c) (m:=m) hk);generalize idE x.id=ie at*;obtain⟨xk,S,B,T,U,a,b,X,d,e0,f⟩:=x;simp only at hk;subst hk;unfold Cl.val;simp only[Cl.arr,Rp.zero,Rp.arr,St.zero,St.arr,az,Cl.D8]at*;obtain⟨⟨c0,c1,c2,c3,c4,c5⟩,c6,c7,c8,c9,N⟩:=bh p;clear h i t p u hx hc hn hl
 go_in
 go_wp2_with fail;generalize v:w.heap.size=v9 at*;generalize (w.alloc (.cells #[I 2,.string S,I B,I T,I U,I a,I b,I X,I d,I e0,I f] 73)).alloc (.cells #[I 0,I 0,I 0,I 0,I 0,I 0,I 0,I 0,I 0,I 0,I 0,I 0,I 0] 77)=W at*;have l:=Z1 v;clear v;have y:M w W:=by first|exact s.o.1|(have:Below _ _ _:=s.o.1;rw[<-l.o]at this;exact this)
 have z:=Z1 y;clear y;refine zm (G.o _) λO i=>?_;have q:=H.o.2.1.up (af z.o i);have n:=Z3 (s.o.2.2.later i) (af z.o i) q;obtain⟨⟨g0,g1,g2,g3,g4,g5⟩,g6,g7,g8,g9,P⟩:=bh (s.o.2.1.later i);clear c0 c1 c2 c3 c4 c5 c6 c7 c8 c9 N i q;go_wp2_with fail;refine zY (fg O c mb lb fs kv cv m n.o.2.2) ?_;go_wp2_with fail;refine zm (FX O c H.o.1 mb lb fs kv cv m n.o.2.2 H.o.2.2.1 B) λw5 j=>?_;have A:=j.rep n.o.1 (by have:=l.o;omega) (by have:=l.o;omega);have D:=Z2 j A;clear j A g0 g1 g2 g3 g4 g5 g6 g7 g8 g9 P;generalize pK B=r at*;unfold Rp.val
 go_wp2_with (refine zj aA (cs:=r.arr) D.o.2 ?_;intro w6 Q R)
 refine OH (au aA rfl Q rfl _ rfl) rfl ⟨by rw[<-L.o.1];rfl,?_⟩;rw[<-L.o.2];exact D.o.1.fin n.o.2.1 D.o.2 (by have:=l.o;omega) R
def NY(w:World)(c:Cg)(hc:c.ok)(mb lb:Nat)(fs:List Fe)(kv:List (Option (Nat×List Fe)))(cv:Value)(m:Mp)(h:cq w c mb lb fs kv cv m)(hn:fs.length<=80000)(hl:kv.length<=80000)(x:Cl)(hx:x.ok)(hk:x.k=3):
  C 69 #[Z mb 0,x.val] w λe w'=>e=.returned (doM c m x).2.val/\dM w w' c mb lb (doM c m x).1:=by
 have D:=hx.L7;have i:=zh w (.cells x.arr 73);have t:=ae i (.cells Rp.zero.arr 77);have p:=(Blk.A8 w 73 x.arr rfl).alloc (.cells Rp.zero.arr 77);have u:=Blk.A8 (w.alloc (.cells x.arr 73)) 77 Rp.zero.arr (g:=w.heap.size+1) zS;have a1:=h.B0.lt;have a2:=h.C1.map.lt;have H:=Z5 hc h hn hl hx;have s:=Z3 t p u;have F:=Z1 (λW=>dN x.id D W);have G:=Z1 ((show fa m=(doM c m x).2/\iK m=(doM c m x).1 by rw[Lc (xF (.inl hk)) hk];exact⟨rfl,rfl⟩));generalize idE x.id=ie at*;obtain⟨xk,R,S,T,U,a,b,X,d,e0,f⟩:=x;simp only at hk;subst hk;unfold Cl.val;simp only[Cl.arr,Rp.zero,Rp.arr,St.zero,St.arr,az,Cl.D8]at*;obtain⟨⟨c0,c1,c2,c3,c4,c5⟩,c6,c7,c8,c9,L⟩:=bh p;clear h i t p u hx hc hn hl
 go_in
 go_wp2_with fail;generalize v:w.heap.size=v9 at*;generalize (w.alloc (.cells #[I 3,.string R,I S,I T,I U,I a,I b,I X,I d,I e0,I f] 73)).alloc (.cells #[I 0,I 0,I 0,I 0,I 0,I 0,I 0,I 0,I 0,I 0,I 0,I 0,I 0] 77)=W at*;have l:=Z1 v;clear v;have y:M w W:=by first|exact s.o.1|(have:Below _ _ _:=s.o.1;rw[<-l.o]at this;exact this)
 have z:=Z1 y;clear y;refine zm (F.o _) λN i=>?_;have q:=H.o.2.1.up (af z.o i);have n:=Z3 (s.o.2.2.later i) (af z.o i) q;obtain⟨⟨g0,g1,g2,g3,g4,g5⟩,g6,g7,g8,g9,O⟩:=bh (s.o.2.1.later i);clear c0 c1 c2 c3 c4 c5 c6 c7 c8 c9 L i q;go_wp2_with fail;refine zY (fg N c mb lb fs kv cv m n.o.2.2) ?_;go_wp2_with fail;refine zm (FM N c mb lb fs kv cv m n.o.2.2 H.o.2.2.2.1) λw5 j=>?_;have A:=j.rep n.o.1 (by have:=l.o;omega) (by have:=l.o;omega);have B:=Z2 j A;clear j A g0 g1 g2 g3 g4 g5 g6 g7 g8 g9 O;generalize fa m=r at*;unfold Rp.val
 go_wp2_with (refine zj aA (cs:=r.arr) B.o.2 ?_;intro w6 P Q)
 refine OH (au aA rfl P rfl _ rfl) rfl ⟨by rw[<-G.o.1];rfl,?_⟩;rw[<-G.o.2];exact B.o.1.fin n.o.2.1 B.o.2 (by have:=l.o;omega) Q
def NZ(w:World)(c:Cg)(hc:c.ok)(mb lb:Nat)(fs:List Fe)(kv:List (Option (Nat×List Fe)))(cv:Value)(m:Mp)(h:cq w c mb lb fs kv cv m)(hn:fs.length<=80000)(hl:kv.length<=80000)(x:Cl)(hx:x.ok)(hk:x.k=4):
  C 69 #[Z mb 0,x.val] w λe w'=>e=.returned (doM c m x).2.val/\dM w w' c mb lb (doM c m x).1:=by
 have F:=hx.L7;have i:=zh w (.cells x.arr 73);have t:=ae i (.cells Rp.zero.arr 77);have p:=(Blk.A8 w 73 x.arr rfl).alloc (.cells Rp.zero.arr 77);have u:=Blk.A8 (w.alloc (.cells x.arr 73)) 77 Rp.zero.arr (g:=w.heap.size+1) zS;have a1:=h.B0.lt;have a2:=h.C1.map.lt;have H:=Z5 hc h hn hl hx;have s:=Z3 t p u;have G:=Z1 (λW=>dN x.id F W);have L:=Z1 ((show Rp.of (findE m.B9 x.handle)=(doM c m x).2/\kR m x.handle=(doM c m x).1 by rw[Le (xF (.inr (.inl hk))) hk];exact⟨rfl,rfl⟩));generalize idE x.id=ie at*;obtain⟨xk,S,T,U,B,a,b,X,d,e0,f⟩:=x;simp only at hk;subst hk;unfold Cl.val;simp only[Cl.arr,Rp.zero,Rp.arr,St.zero,St.arr,az,Cl.D8]at*;obtain⟨⟨c0,c1,c2,c3,c4,c5⟩,c6,c7,c8,c9,N⟩:=bh p;clear h i t p u hx hc hn hl
 go_in
 go_wp2_with fail;generalize v:w.heap.size=v9 at*;generalize (w.alloc (.cells #[I 4,.string S,I T,I U,I B,I a,I b,I X,I d,I e0,I f] 73)).alloc (.cells #[I 0,I 0,I 0,I 0,I 0,I 0,I 0,I 0,I 0,I 0,I 0,I 0,I 0] 77)=W at*;have l:=Z1 v;clear v;have y:M w W:=by first|exact s.o.1|(have:Below _ _ _:=s.o.1;rw[<-l.o]at this;exact this)
 have z:=Z1 y;clear y;refine zm (G.o _) λO i=>?_;have q:=H.o.2.1.up (af z.o i);have n:=Z3 (s.o.2.2.later i) (af z.o i) q;obtain⟨⟨g0,g1,g2,g3,g4,g5⟩,g6,g7,g8,g9,P⟩:=bh (s.o.2.1.later i);clear c0 c1 c2 c3 c4 c5 c6 c7 c8 c9 N i q;go_wp2_with fail;refine zY (fg O c mb lb fs kv cv m n.o.2.2) ?_;go_wp2_with fail;refine zm (FK O c mb lb fs kv cv m n.o.2.2 (by have:=H.o.2.2.2.1;omega) B H.o.2.2.2.2.handle) λw5 j=>?_;have A:=j.rep n.o.1 (by have:=l.o;omega) (by have:=l.o;omega);have D:=Z2 j A;clear j A g0 g1 g2 g3 g4 g5 g6 g7 g8 g9 P;generalize Rp.of (findE m.B9 B)=r at*;unfold Rp.val
 go_wp2_with (refine zj aA (cs:=r.arr) D.o.2 ?_;intro w6 Q R)
 refine OH (au aA rfl Q rfl _ rfl) rfl ⟨by rw[<-L.o.1];rfl,?_⟩;rw[<-L.o.2];exact D.o.1.fin n.o.2.1 D.o.2 (by have:=l.o;omega) R
def Oa(w:World)(c:Cg)(hc:c.ok)(mb lb:Nat)(fs:List Fe)(kv:List (Option (Nat×List Fe)))(cv:Value)(m:Mp)(h:cq w c mb lb fs kv cv m)(hn:fs.length<=80000)(hl:kv.length<=80000)(x:Cl)(hx:x.ok)(hk:x.k=5):
  C 69 #[Z mb 0,x.val] w λe w'=>e=.returned (doM c m x).2.val/\dM w w' c mb lb (doM c m x).1:=by
 have aa:=hx.L7;have i:=zh w (.cells x.arr 73);have y:=ae i (.cells Rp.zero.arr 77);have n:=(Blk.A8 w 73 x.arr rfl).alloc (.cells Rp.zero.arr 77);have z:=Blk.A8 (w.alloc (.cells x.arr 73)) 77 Rp.zero.arr (g:=w.heap.size+1) zS;have a6:=h.B0.lt;have a7:=h.C1.map.lt;have H:=Z5 hc h hn hl hx;have s:=Z3 y n z;have u:=Z1 (λW=>dN x.id aa W)
 cases hid:bd x.id with
 |false=>
  as_aux_lemma=>
  have A:=Z1 (sQ (c:=c) (m:=m) (x:=x) zO hid);rw[jz hid]at u;obtain⟨xk,B,D,F,G,a,b,P,d,Q,f⟩:=x;simp only at hk;subst hk;unfold Cl.val;simp only[Cl.arr,Rp.zero,Rp.arr,St.zero,St.arr,az,Cl.D8]at*;obtain⟨⟨c0,c1,c2,c3,c4,c5⟩,c6,c7,c8,c9,R⟩:=bh n;clear h i y n z hx hc hn hl
  go_in
  go_wp2_with fail;generalize p:w.heap.size=v9 at*;generalize (w.alloc (.cells #[I 5,.string B,I D,I F,I G,I a,I b,I P,I d,I Q,I f] 73)).alloc (.cells #[I 0,I 0,I 0,I 0,I 0,I 0,I 0,I 0,I 0,I 0,I 0,I 0,I 0] 77)=W at*;have l:=Z1 p;clear p;have q:M w W:=by first|exact s.o.1|(have:Below _ _ _:=s.o.1;rw[<-l.o]at this;exact this)
  have v:=Z1 q;clear q;refine zm (u.o _) λU i=>?_;have j:=Z2 (s.o.2.2.later i) (af v.o i);clear i
  go_wp2_with (refine zj aA j.o.1 ?_;intro w6 L N)
  refine OH (au aA rfl L rfl _ rfl) rfl ⟨by rw[A.o];rfl,?_⟩;rw[A.o];exact H.o.2.1.same (N.below j.o.2 (by have:=l.o;omega))
 |true=>
  as_aux_lemma=>
  have A:=Z1 ((show eF m x.handle (av x.id) x.tick x.value=(doM c m x).2/\m=(doM c m x).1 by rw[Lf (Bz (.inl hk) hid) hk];exact⟨rfl,rfl⟩));rw[lT hid]at u;obtain⟨xk,B,D,F,G,a,b,P,d,Q,f⟩:=x;simp only at hk;subst hk;unfold Cl.val;simp only[Cl.arr,Rp.zero,Rp.arr,St.zero,St.arr,az,Cl.D8]at*;obtain⟨⟨c0,c1,c2,c3,c4,c5⟩,c6,c7,c8,c9,R⟩:=bh n;clear h i y n z hx hc hn hl
  go_in
  go_wp2_with fail;generalize p:w.heap.size=v9 at*;generalize (w.alloc (.cells #[I 5,.string B,I D,I F,I G,I a,I b,I P,I d,I Q,I f] 73)).alloc (.cells #[I 0,I 0,I 0,I 0,I 0,I 0,I 0,I 0,I 0,I 0,I 0,I 0,I 0] 77)=W at*;have l:=Z1 p;clear p;have q:M w W:=by first|exact s.o.1|(have:Below _ _ _:=s.o.1;rw[<-l.o]at this;exact this)
  have v:=Z1 q;clear q;refine zm (u.o _) λU i=>?_;have O:=H.o.2.1.up (af v.o i);have j:=Z3 (s.o.2.2.later i) (af v.o i) O;obtain⟨⟨g0,g1,g2,g3,g4,g5⟩,g6,g7,g8,g9,an⟩:=bh (s.o.2.1.later i);clear c0 c1 c2 c3 c4 c5 c6 c7 c8 c9 R i O;go_wp2_with fail;refine zY (fg U c mb lb fs kv cv m j.o.2.2) ?_;go_wp2_with fail;refine zm (FJ U c H.o.1 mb lb fs kv cv m j.o.2.2 (by have:=H.o.2.2.2.1;omega) ⟨5,B,D,F,G,a,b,P,d,Q,f⟩ H.o.2.2.2.2 hid) λw5 S=>?_;have t:=j.o.2.2.same S;clear S;have T:=t.rep j.o.1 (by have:=l.o;omega) (by have:=l.o;omega);have X:=Z2 t T;clear t T g0 g1 g2 g3 g4 g5 g6 g7 g8 g9 an;generalize eF m G (av B) D F=r at*;unfold Rp.val
  go_wp2_with (refine zj aA (cs:=r.arr) X.o.2 ?_;intro w6 L N)
  refine OH (au aA rfl L rfl _ rfl) rfl ⟨by rw[<-A.o.1];rfl,?_⟩;rw[<-A.o.2];exact X.o.1.fin j.o.2.1 X.o.2 (by have:=l.o;omega) N
def Ob(w:World)(c:Cg)(hc:c.ok)(mb lb:Nat)(fs:List Fe)(kv:List (Option (Nat×List Fe)))(cv:Value)(m:Mp)(h:cq w c mb lb fs kv cv m)(hn:fs.length<=80000)(hl:kv.length<=80000)(x:Cl)(hx:x.ok)(hk:x.k=6):
  C 69 #[Z mb 0,x.val] w λe w'=>e=.returned (doM c m x).2.val/\dM w w' c mb lb (doM c m x).1:=by
 have X:=hx.L7;have i:=zh w (.cells x.arr 73);have y:=ae i (.cells Rp.zero.arr 77);have n:=(Blk.A8 w 73 x.arr rfl).alloc (.cells Rp.zero.arr 77);have z:=Blk.A8 (w.alloc (.cells x.arr 73)) 77 Rp.zero.arr (g:=w.heap.size+1) zS;have a4:=h.B0.lt;have a5:=h.C1.map.lt;have H:=Z5 hc h hn hl hx;have s:=Z3 y n z;have u:=Z1 (λW=>dN x.id X W)
 cases hid:bd x.id with
 |false=>
  as_aux_lemma=>
  have A:=Z1 (sQ (c:=c) (m:=m) (x:=x) zO hid);rw[jz hid]at u;obtain⟨xk,B,D,F,G,a,b,L,d,N,f⟩:=x;simp only at hk;subst hk;unfold Cl.val;simp only[Cl.arr,Rp.zero,Rp.arr,St.zero,St.arr,az,Cl.D8]at*;obtain⟨⟨c0,c1,c2,c3,c4,c5⟩,c6,c7,c8,c9,R⟩:=bh n;clear h i y n z hx hc hn hl
  go_in
  go_wp2_with fail;generalize p:w.heap.size=v9 at*;generalize (w.alloc (.cells #[I 6,.string B,I D,I F,I G,I a,I b,I L,I d,I N,I f] 73)).alloc (.cells #[I 0,I 0,I 0,I 0,I 0,I 0,I 0,I 0,I 0,I 0,I 0,I 0,I 0] 77)=W at*;have j:=Z1 p;clear p;have q:M w W:=by first|exact s.o.1|(have:Below _ _ _:=s.o.1;rw[<-j.o]at this;exact this)
  have v:=Z1 q;clear q;refine zm (u.o _) λT i=>?_;have l:=Z2 (s.o.2.2.later i) (af v.o i);clear i
  go_wp2_with (refine zj aA l.o.1 ?_;intro w6 O P)
  refine OH (au aA rfl O rfl _ rfl) rfl ⟨by rw[A.o];rfl,?_⟩;rw[A.o];exact H.o.2.1.same (P.below l.o.2 (by have:=j.o;omega))
 |true=>
  as_aux_lemma=>
  have A:=Z1 (Nu (c:=c) (m:=m) hk hid);rw[lT hid]at u;obtain⟨xk,B,D,F,G,a,b,L,d,N,f⟩:=x;simp only at hk;subst hk;unfold Cl.val;simp only[Cl.arr,Rp.zero,Rp.arr,St.zero,St.arr,az,Cl.D8]at*;obtain⟨⟨c0,c1,c2,c3,c4,c5⟩,c6,c7,c8,c9,R⟩:=bh n;clear h i y n z hx hc hn hl
  go_in
  go_wp2_with fail;generalize p:w.heap.size=v9 at*;generalize (w.alloc (.cells #[I 6,.string B,I D,I F,I G,I a,I b,I L,I d,I N,I f] 73)).alloc (.cells #[I 0,I 0,I 0,I 0,I 0,I 0,I 0,I 0,I 0,I 0,I 0,I 0,I 0] 77)=W at*;have j:=Z1 p;clear p;have q:M w W:=by first|exact s.o.1|(have:Below _ _ _:=s.o.1;rw[<-j.o]at this;exact this)
  have v:=Z1 q;clear q;refine zm (u.o _) λT i=>?_;have Q:=H.o.2.1.up (af v.o i);have l:=Z3 (s.o.2.2.later i) (af v.o i) Q;obtain⟨⟨g0,g1,g2,g3,g4,g5⟩,g6,g7,g8,g9,am⟩:=bh (s.o.2.1.later i);clear c0 c1 c2 c3 c4 c5 c6 c7 c8 c9 R i Q;go_wp2_with fail;refine zY (fg T c mb lb fs kv cv m l.o.2.2) ?_;go_wp2_with fail;refine zm (Jp T c H.o.1 mb lb fs kv cv m l.o.2.2 H.o.2.2.1 ⟨6,B,D,F,G,a,b,L,d,N,f⟩ H.o.2.2.2.2 hid) λw5 t=>?_;have S:=t.rep l.o.1 (by have:=j.o;omega) (by have:=j.o;omega);have U:=Z2 t S;clear t S g0 g1 g2 g3 g4 g5 g6 g7 g8 g9 am;generalize nx c m ⟨6,B,D,F,G,a,b,L,d,N,f⟩=r at*;unfold Rp.val
  go_wp2_with (refine zj aA (cs:=r.arr) U.o.2 ?_;intro w6 O P)
  refine OH (au aA rfl O rfl _ rfl) rfl ⟨by rw[<-A.o.1];rfl,?_⟩;rw[<-A.o.2];exact U.o.1.fin l.o.2.1 U.o.2 (by have:=j.o;omega) P
def Oc(w:World)(c:Cg)(hc:c.ok)(mb lb:Nat)(fs:List Fe)(kv:List (Option (Nat×List Fe)))(cv:Value)(m:Mp)(h:cq w c mb lb fs kv cv m)(hn:fs.length<=80000)(hl:kv.length<=80000)(x:Cl)(hx:x.ok)(hk:x.k=7):
  C 69 #[Z mb 0,x.val] w λe w'=>e=.returned (doM c m x).2.val/\dM w w' c mb lb (doM c m x).1:=by
 have aa:=hx.L7;have i:=zh w (.cells x.arr 73);have y:=ae i (.cells Rp.zero.arr 77);have n:=(Blk.A8 w 73 x.arr rfl).alloc (.cells Rp.zero.arr 77);have z:=Blk.A8 (w.alloc (.cells x.arr 73)) 77 Rp.zero.arr (g:=w.heap.size+1) zS;have a6:=h.B0.lt;have a7:=h.C1.map.lt;have H:=Z5 hc h hn hl hx;have s:=Z3 y n z;have u:=Z1 (λW=>dN x.id aa W)
 cases hid:bd x.id with
 |false=>
  as_aux_lemma=>
  have A:=Z1 (sQ (c:=c) (m:=m) (x:=x) zO hid);rw[jz hid]at u;obtain⟨xk,B,P,Q,R,a,b,S,d,T,f⟩:=x;simp only at hk;subst hk;unfold Cl.val;simp only[Cl.arr,Rp.zero,Rp.arr,St.zero,St.arr,az,Cl.D8]at*;obtain⟨⟨c0,c1,c2,c3,c4,c5⟩,c6,c7,c8,c9,L⟩:=bh n;clear h i y n z hx hc hn hl
  go_in
  go_wp2_with fail;generalize p:w.heap.size=v9 at*;generalize (w.alloc (.cells #[I 7,.string B,I P,I Q,I R,I a,I b,I S,I d,I T,I f] 73)).alloc (.cells #[I 0,I 0,I 0,I 0,I 0,I 0,I 0,I 0,I 0,I 0,I 0,I 0,I 0] 77)=W at*;have l:=Z1 p;clear p;have q:M w W:=by first|exact s.o.1|(have:Below _ _ _:=s.o.1;rw[<-l.o]at this;exact this)
  have v:=Z1 q;clear q;refine zm (u.o _) λU i=>?_;have j:=Z2 (s.o.2.2.later i) (af v.o i);clear i
  go_wp2_with (refine zj aA j.o.1 ?_;intro w6 D F)
  refine OH (au aA rfl D rfl _ rfl) rfl ⟨by rw[A.o];rfl,?_⟩;rw[A.o];exact H.o.2.1.same (F.below j.o.2 (by have:=l.o;omega))
 |true=>
  as_aux_lemma=>
  have A:=Z1 ((show fE m (av x.id)=(doM c m x).2/\m=(doM c m x).1 by rw[Lh (Bz (.inr hk) hid) hk];exact⟨rfl,rfl⟩));rw[lT hid]at u;obtain⟨xk,B,P,Q,R,a,b,S,d,T,f⟩:=x;simp only at hk;subst hk;unfold Cl.val;simp only[Cl.arr,Rp.zero,Rp.arr,St.zero,St.arr,az,Cl.D8]at*;obtain⟨⟨c0,c1,c2,c3,c4,c5⟩,c6,c7,c8,c9,L⟩:=bh n;clear h i y n z hx hc hn hl
  go_in
  go_wp2_with fail;generalize p:w.heap.size=v9 at*;generalize (w.alloc (.cells #[I 7,.string B,I P,I Q,I R,I a,I b,I S,I d,I T,I f] 73)).alloc (.cells #[I 0,I 0,I 0,I 0,I 0,I 0,I 0,I 0,I 0,I 0,I 0,I 0,I 0] 77)=W at*;have l:=Z1 p;clear p;have q:M w W:=by first|exact s.o.1|(have:Below _ _ _:=s.o.1;rw[<-l.o]at this;exact this)
  have v:=Z1 q;clear q;refine zm (u.o _) λU i=>?_;have G:=H.o.2.1.up (af v.o i);have j:=Z3 (s.o.2.2.later i) (af v.o i) G;obtain⟨⟨g0,g1,g2,g3,g4,g5⟩,g6,g7,g8,g9,an⟩:=bh (s.o.2.1.later i);clear c0 c1 c2 c3 c4 c5 c6 c7 c8 c9 L i G;go_wp2_with fail;refine zY (fg U c mb lb fs kv cv m j.o.2.2) ?_;go_wp2_with fail;refine zm (FF U c H.o.1 mb lb fs kv cv m j.o.2.2 B hid) λw5 N=>?_;have t:=j.o.2.2.same N;clear N;have O:=t.rep j.o.1 (by have:=l.o;omega) (by have:=l.o;omega);have X:=Z2 t O;clear t O g0 g1 g2 g3 g4 g5 g6 g7 g8 g9 an;generalize fE m (av B)=r at*;unfold Rp.val
  go_wp2_with (refine zj aA (cs:=r.arr) X.o.2 ?_;intro w6 D F)
  refine OH (au aA rfl D rfl _ rfl) rfl ⟨by rw[<-A.o.1];rfl,?_⟩;rw[<-A.o.2];exact X.o.1.fin j.o.2.1 X.o.2 (by have:=l.o;omega) F
def Od(w:World)(c:Cg)(hc:c.ok)(mb lb:Nat)(fs:List Fe)(kv:List (Option (Nat×List Fe)))(cv:Value)(m:Mp)(h:cq w c mb lb fs kv cv m)(hn:fs.length<=80000)(hl:kv.length<=80000)(x:Cl)(hx:x.ok)(hk:x.k=8):
  C 69 #[Z mb 0,x.val] w λe w'=>e=.returned (doM c m x).2.val/\dM w w' c mb lb (doM c m x).1:=by
 have ai:=hx.L7;have j:=zh w (.cells x.arr 73);have T:=ae j (.cells Rp.zero.arr 77);have u:=(Blk.A8 w 73 x.arr rfl).alloc (.cells Rp.zero.arr 77);have U:=Blk.A8 (w.alloc (.cells x.arr 73)) 77 Rp.zero.arr (g:=w.heap.size+1) zS;have a6:=h.B0.lt;have a7:=h.C1.map.lt;have H:=Z5 hc h hn hl hx;have Q:=Z3 T u U;have aj:=Z1 (λW=>dN x.id ai W);have s:=Z1 ((show Rp.of (gL m)=(doM c m x).2/\gM m=(doM c m x).1 by rw[CV (xF (.inr (.inr hk))) hk];exact⟨rfl,rfl⟩));generalize idE x.id=ie at*;obtain⟨xk,v,y,z,A,a,b,B,d,D,f⟩:=x;simp only at hk;subst hk;unfold Cl.val;simp only[Cl.arr,Rp.zero,Rp.arr,St.zero,St.arr,az,Cl.D8]at*;obtain⟨⟨c0,c1,c2,c3,c4,c5⟩,c6,c7,c8,c9,ak⟩:=bh u;clear h j T u U hx hc hn hl
 go_in
 go_wp2_with fail;generalize X:w.heap.size=v9 at*;generalize (w.alloc (.cells #[I 8,.string v,I y,I z,I A,I a,I b,I B,I d,I D,I f] 73)).alloc (.cells #[I 0,I 0,I 0,I 0,I 0,I 0,I 0,I 0,I 0,I 0,I 0,I 0,I 0] 77)=W at*;have q:=Z1 X;clear X;have aa:M w W:=by first|exact Q.o.1|(have:Below _ _ _:=Q.o.1;rw[<-q.o]at this;exact this)
 have ab:=Z1 aa;clear aa;refine zm (aj.o _) λt j=>?_;have F:=H.o.2.1.up (af ab.o j);have i:=Z3 (Q.o.2.2.later j) (af ab.o j) F;obtain⟨⟨g0,g1,g2,g3,g4,g5⟩,g6,g7,g8,g9,a8⟩:=bh (Q.o.2.1.later j);clear c0 c1 c2 c3 c4 c5 c6 c7 c8 c9 ak j F;go_wp2_with fail;refine zY (fg t c mb lb fs kv cv m i.o.2.2) ?_;have R:=i.o.2.2.B0.cell 7;have f7:=i.o.2.2.B0.frozen 7;simp at R
 cases hov:m.over with
 |true=>
  rw[hov]at R;have n:Hid ((doM c m ⟨8,v,y,z,A,a,b,B,d,D,f⟩).2=.of 9/\(doM c m ⟨8,v,y,z,A,a,b,B,d,D,f⟩).1=m):=Z1 (by
   rw[<-s.o.1,<-s.o.2];refine⟨by unfold gL;rw[OB hov],?_⟩;unfold gM
   cases m
   simp only at hov;rw[hov])
  clear hov s
  go_wp2_with (refine zj aA i.o.1 ?_;intro w6 G L)
  refine OH (au aA rfl G rfl _ rfl) rfl ⟨by rw[n.o.1];rfl,?_⟩;rw[n.o.2];exact H.o.2.1.same (L.below i.o.2.1 (by have:=q.o;omega))
 |false=>
  rw[hov]at R;have n:Hid ((doM c m ⟨8,v,y,z,A,a,b,B,d,D,f⟩).2=.zero/\(doM c m ⟨8,v,y,z,A,a,b,B,d,D,f⟩).1={m with over:=true}):=Z1 (by
   rw[<-s.o.1,<-s.o.2];exact⟨by unfold gL;rw[Oz (by simp[hov])];rfl,rfl⟩)
  clear hov s;have a9:=Z1 i.o.2.2.ne;go_upto_region 27 with fail
  have ac:=i.o.2.2.B0.B4 7 (.bool true);have hK:ag (λb=>b=mb) t (t.setCell (Y mb 7) (.bool true)):=(ag.refl (λb=>b=mb) t).setCell (p:=Y mb 7) (.inl rfl) _;have ad:=hK.B0 i.o.1 (show ¬(v9+1=mb) by have:=q.o;omega);generalize t.setCell (Y mb 7) (.bool true)=w5 at*;have N:dM t w5 c mb lb {m with over:=true}:=by
   have h:=i.o.2.2;have O:=h.C1.D1 h.C1.map h.B0;refine⟨⟨fs,kv,cv,by simpa using ac,h.C1.B7 hK (λe=>h.ne.1 e.symm) (λf P=>⟨λb e l=>(O f P).1 b e (.inl l),λb e l=>(O f P).2 b e (.inl l)⟩),h.ls,hK.C8 h.row (λb e l=>h.ne.2.1 (l▸e)),h.J8,λe he=>?_⟩,hK.C3 λb e=>.inl e⟩;obtain⟨S,h2⟩:=h.J9 e he;have r:=S.D1 S.map h.B0;exact⟨S.B7 hK (λl=>aw.C9 S.map h.B0 l) (λf P=>⟨λb e l=>(r f P).1 b e (.inl l),λb e l=>(r f P).2 b e (.inl l)⟩),h2⟩
  have HN:=Z2 N ad;clear N ad hK ac R f7
  go_wp2_with (refine zj aA HN.o.2 ?_;intro w6 G L)
  refine OH (au aA rfl G rfl _ rfl) rfl ⟨by rw[n.o.1];rfl,?_⟩;rw[n.o.2];exact HN.o.1.fin i.o.2.1 HN.o.2 (by have:=q.o;omega) L
def Mg(w:World)(c:Cg)(hc:c.ok)(mb lb:Nat)(fs:List Fe)(kv:List (Option (Nat×List Fe)))(cv:Value)(m:Mp)(h:cq w c mb lb fs kv cv m)(hn:fs.length<=80000)(hl:kv.length<=80000)(x:Cl)(hx:x.ok):
  C 69 #[Z mb 0,x.val] w λe w'=>e=.returned (doM c m x).2.val/\dM w w' c mb lb (doM c m x).1:=by
 by_cases b:x.k<1\/8<x.k
 ·exact JA w c hc mb lb fs kv cv m h hn hl x hx b
 ·have:x.k=1\/x.k=2\/x.k=3\/x.k=4\/x.k=5\/x.k=6\/x.k=7\/x.k=8:=zO
  rcases this with a|a|a|a|a|a|a|a
  ·exact NW w c hc mb lb fs kv cv m h hn hl x hx a
  ·exact NX w c hc mb lb fs kv cv m h hn hl x hx a
  ·exact NY w c hc mb lb fs kv cv m h hn hl x hx a
  ·exact NZ w c hc mb lb fs kv cv m h hn hl x hx a
  ·exact Oa w c hc mb lb fs kv cv m h hn hl x hx a
  ·exact Ob w c hc mb lb fs kv cv m h hn hl x hx a
  ·exact Oc w c hc mb lb fs kv cv m h hn hl x hx a
  ·exact Od w c hc mb lb fs kv cv m h hn hl x hx a
section
set_option maxRecDepth 100000
structure nz(x:Vt):Prop where
 ok:x.ok
 key:x.kind=6->∃id,bd id=true/\x.key=av id
def sR(c:Cg)(hc:c.ok)(mb lb:Nat)(fs:List Fe)(kv:List (Option (Nat×List Fe)))(cv:Value)(m:Mp)(h:cq w c mb lb fs kv cv m)(hn:fs.length<=80000)(hl:kv.length<=80000)(x:Vt)(hx:nz x)(ht:(cd c m x).2=true):
  Calls prog 24 #[.pointer (some ⟨mb,0,none⟩),.agg x.arr] w λe w'=>e=.returned (.bool true)/\dM w w' c mb lb (cd c m x).1:=by
 have aq:=ae (Oy w.heap.size w) (.cells x.arr 79);have g:=Blk.A8 w 79 x.arr rfl;have h1:=h.up aq;have cg:=h.B0.lt;have ch:=h.C1.map.lt;have H:=Z6 hc h1 hn hl hx ht;have HB:=Z2 aq g;clear h h1 aq hn hl hc;by_cases h2:x.kind=2
 ·have l:cd c m x=((doM c m x.call).1,decide ((doM c m x.call).2=x.rep)):=OB h2;rw[l]at ht;have am:(doM c m x.call).2=x.rep:=by simpa using ht
  have HX:=Z2 l am;have HE:=Z1 (λW=>Nw x.rep hx.ok.rep W);have HD:=Z1 (λU (hU:cq U c mb lb fs kv cv m)=>Mg U c H.o.1 mb lb fs kv cv m hU H.o.2.2.1 H.o.2.2.2.1 x.call hx.ok.call);rw[am]at HD;obtain⟨bi,t,u,⟨v,id,y,z,A,a,b,B,d,D,f⟩,⟨F,G,L,⟨N,O,P,Q,R⟩,⟨T,X,n,p,q⟩⟩,⟨k0,k1⟩,⟨a0,a1,a2,a3,a4⟩⟩:=x;simp only at h2;subst h2;have e1:Vt.arr ⟨2,t,u,⟨v,id,y,z,A,a,b,B,d,D,f⟩,⟨F,G,L,⟨N,O,P,Q,R⟩,⟨T,X,n,p,q⟩⟩,⟨k0,k1⟩,⟨a0,a1,a2,a3,a4⟩⟩=#[.int .i64 2,.int .i64 t,.int .i64 u,.int .i64 v,.string id,.int .i64 y,.int .i64 z,.int .i64 A,.int .i64 a,.int .i64 b,.int .i64 B,.int .i64 d,.int .i64 D,.int .i64 f,.int .i64 F,.int .i64 G,.int .i64 L,.int .i64 N,.int .i64 O,.int .i64 P,.int .i64 Q,.int .i64 R,.int .i64 T,.int .i64 X,.int .i64 n,.int .i64 p,.int .i64 q,.int .u64 k0,.int .u64 k1,.int .i64 a0,.int .i64 a1,.int .i64 a2,.int .i64 a3,.int .i64 a4]:=rfl;rw[e1]at g HB H ⊢;simp only[Cl.val,Cl.arr,Rp.val,Rp.arr]at HD HE;have g3:=g.cell 3;have g4:=g.cell 4;have g5:=g.cell 5;have g6:=g.cell 6;have g7:=g.cell 7;have g8:=g.cell 8;have g9:=g.cell 9;have bj:=g.cell 10;have bk:=g.cell 11;have bl:=g.cell 12;have bm:=g.cell 13;have bn:=g.cell 14;have bo:=g.cell 15;have bp:=g.cell 16;have bq:=g.cell 17;have br:=g.cell 18;have bs:=g.cell 19;have bt:=g.cell 20;have bu:=g.cell 21;have bv:=g.cell 22;have bw:=g.cell 23;have bx:=g.cell 24;have bz:=g.cell 25;have b0:=g.cell 26;have b1:ag (λb=>b=mb\/b=lb) (w.alloc (.cells #[.int .i64 2,.int .i64 t,.int .i64 u,.int .i64 v,.string id,.int .i64 y,.int .i64 z,.int .i64 A,.int .i64 a,.int .i64 b,.int .i64 B,.int .i64 d,.int .i64 D,.int .i64 f,.int .i64 F,.int .i64 G,.int .i64 L,.int .i64 N,.int .i64 O,.int .i64 P,.int .i64 Q,.int .i64 R,.int .i64 T,.int .i64 X,.int .i64 n,.int .i64 p,.int .i64 q,.int .u64 k0,.int .u64 k1,.int .i64 a0,.int .i64 a1,.int .i64 a2,.int .i64 a3,.int .i64 a4] 79)) (w.alloc (.cells #[.int .i64 2,.int .i64 t,.int .i64 u,.int .i64 v,.string id,.int .i64 y,.int .i64 z,.int .i64 A,.int .i64 a,.int .i64 b,.int .i64 B,.int .i64 d,.int .i64 D,.int .i64 f,.int .i64 F,.int .i64 G,.int .i64 L,.int .i64 N,.int .i64 O,.int .i64 P,.int .i64 Q,.int .i64 R,.int .i64 T,.int .i64 X,.int .i64 n,.int .i64 p,.int .i64 q,.int .u64 k0,.int .u64 k1,.int .i64 a0,.int .i64 a1,.int .i64 a2,.int .i64 a3,.int .i64 a4] 79)).drew:=(ag.refl _ _).drew;have i:=g.lt;have j:¬(w.heap.size=mb\/w.heap.size=lb):=by omega
  clear g l am ht hx
  go_in
  go_upto_region 3 with fail
  generalize hV:w.alloc (.cells #[.int .i64 2,.int .i64 t,.int .i64 u,.int .i64 v,.string id,.int .i64 y,.int .i64 z,.int .i64 A,.int .i64 a,.int .i64 b,.int .i64 B,.int .i64 d,.int .i64 D,.int .i64 f,.int .i64 F,.int .i64 G,.int .i64 L,.int .i64 N,.int .i64 O,.int .i64 P,.int .i64 Q,.int .i64 R,.int .i64 T,.int .i64 X,.int .i64 n,.int .i64 p,.int .i64 q,.int .u64 k0,.int .u64 k1,.int .i64 a0,.int .i64 a1,.int .i64 a2,.int .i64 a3,.int .i64 a4] 79)=V at*;generalize al:w.heap.size=k at*;have HV:=Z2 hV al;clear hV al;refine ay (S:=λU=>ag (λb=>b=mb\/b=lb) V U) (by kernel_rfl) b1 ?_;simp only[zD,zE,Nat.reduceAdd,zG];refine zp 0 ?_;refine zp 1 ?_;refine zq 2 _ ?_ (hy:=λW hW=>by have q3:=(OI (a:=⟨k,3,none⟩) (hW.block k i j)).trans g3;have q4:=(OI (a:=⟨k,4,none⟩) (hW.block k i j)).trans g4;have q5:=(OI (a:=⟨k,5,none⟩) (hW.block k i j)).trans g5;have q6:=(OI (a:=⟨k,6,none⟩) (hW.block k i j)).trans g6;have q7:=(OI (a:=⟨k,7,none⟩) (hW.block k i j)).trans g7;have q8:=(OI (a:=⟨k,8,none⟩) (hW.block k i j)).trans g8;have q9:=(OI (a:=⟨k,9,none⟩) (hW.block k i j)).trans g9;have ci:=(OI (a:=⟨k,10,none⟩) (hW.block k i j)).trans bj;have cj:=(OI (a:=⟨k,11,none⟩) (hW.block k i j)).trans bk;have cl:=(OI (a:=⟨k,12,none⟩) (hW.block k i j)).trans bl;have cm:=(OI (a:=⟨k,13,none⟩) (hW.block k i j)).trans bm;exact zf);refine zp 4 ?_;refine zq 5 _ ?_ (hy:=λW hW=>by have cn:=(OI (a:=⟨k,14,none⟩) (hW.block k i j)).trans bn;have co:=(OI (a:=⟨k,15,none⟩) (hW.block k i j)).trans bo;have cp:=(OI (a:=⟨k,16,none⟩) (hW.block k i j)).trans bp;have cr:=(OI (a:=⟨k,17,none⟩) (hW.block k i j)).trans bq;have ct:=(OI (a:=⟨k,18,none⟩) (hW.block k i j)).trans br;have cu:=(OI (a:=⟨k,19,none⟩) (hW.block k i j)).trans bs;have cw:=(OI (a:=⟨k,20,none⟩) (hW.block k i j)).trans bt;have cx:=(OI (a:=⟨k,21,none⟩) (hW.block k i j)).trans bu;have cy:=(OI (a:=⟨k,22,none⟩) (hW.block k i j)).trans bv;have cz:=(OI (a:=⟨k,23,none⟩) (hW.block k i j)).trans bw;have c0:=(OI (a:=⟨k,24,none⟩) (hW.block k i j)).trans bx;have c1:=(OI (a:=⟨k,25,none⟩) (hW.block k i j)).trans bz;have c2:=(OI (a:=⟨k,26,none⟩) (hW.block k i j)).trans b0;exact zf);refine zo 3 λK hK=>?_;go_simp;refine zm (HD.o _ (H.o.2.1.up (Oy _ _).drew)) λw5 s=>?_;have a5:=(ag.refl _ V).drew.trans s.2;refine hK _ _ a5 ?_;clear hK;refine zn ?_;refine zp 6 ?_;refine zp 7 ?_;refine zd ?_;go_wp2;go_ret;refine⟨rfl,?_⟩;try rw[HX.o.1]
  refine⟨s.1,?_⟩;have h3:=HB.o.1;try rw[<-HV.o.2]at h3
  exact(ag.B5 h3).trans a5
 by_cases h6:x.kind=6
 ·have l:cd c m x=eo c m x.key x.E0:=by unfold cd;rw[Oz h2,OB h6]
  rw[l]at ht;obtain⟨id,a6,ap⟩:=hx.key h6;rw[ap]at l ht;have HX:=Z2 l ht;have HU:=Z1 (λU=>De id U a6);rw[<-ap]at HU;have HD:=Z1 (λU (hU:cq U c mb lb fs kv cv m)=>FR U c H.o.1 mb lb fs kv cv m hU H.o.2.2.1 id a6 x.E0 hx.ok.E0);rw[ht]at HD;obtain⟨bi,t,u,⟨v,ax,y,z,A,a,b,B,d,D,f⟩,⟨F,G,L,⟨N,O,P,Q,R⟩,⟨T,X,n,p,q⟩⟩,⟨k0,k1⟩,⟨a0,a1,a2,a3,a4⟩⟩:=x;simp only at h6;subst h6;have e1:Vt.arr ⟨6,t,u,⟨v,ax,y,z,A,a,b,B,d,D,f⟩,⟨F,G,L,⟨N,O,P,Q,R⟩,⟨T,X,n,p,q⟩⟩,⟨k0,k1⟩,⟨a0,a1,a2,a3,a4⟩⟩=#[.int .i64 6,.int .i64 t,.int .i64 u,.int .i64 v,.string ax,.int .i64 y,.int .i64 z,.int .i64 A,.int .i64 a,.int .i64 b,.int .i64 B,.int .i64 d,.int .i64 D,.int .i64 f,.int .i64 F,.int .i64 G,.int .i64 L,.int .i64 N,.int .i64 O,.int .i64 P,.int .i64 Q,.int .i64 R,.int .i64 T,.int .i64 X,.int .i64 n,.int .i64 p,.int .i64 q,.int .u64 k0,.int .u64 k1,.int .i64 a0,.int .i64 a1,.int .i64 a2,.int .i64 a3,.int .i64 a4]:=rfl;rw[e1]at g HB H ⊢;simp only[K2.val,K2.arr,Adv.arr]at HD HU;have g0:=g.cell 0;have c3:=g.cell 27;have c4:=g.cell 28;have a7:=g.cell 29;have a8:=g.cell 30;have a9:=g.cell 31;have ba:=g.cell 32;have bb:=g.cell 33;have i:=g.lt;have b3:=Z1 g;clear g l ht hx ap h2
  go_in
  go_wp2_with fail;generalize hV:w.alloc (.cells #[.int .i64 6,.int .i64 t,.int .i64 u,.int .i64 v,.string ax,.int .i64 y,.int .i64 z,.int .i64 A,.int .i64 a,.int .i64 b,.int .i64 B,.int .i64 d,.int .i64 D,.int .i64 f,.int .i64 F,.int .i64 G,.int .i64 L,.int .i64 N,.int .i64 O,.int .i64 P,.int .i64 Q,.int .i64 R,.int .i64 T,.int .i64 X,.int .i64 n,.int .i64 p,.int .i64 q,.int .u64 k0,.int .u64 k1,.int .i64 a0,.int .i64 a1,.int .i64 a2,.int .i64 a3,.int .i64 a4] 79)=V at*;generalize al:w.heap.size=k at*;have HV:=Z2 hV al;clear hV al;refine zm (HU.o _) λw2 az=>?_;have r:=b3.o.later az;have bc:=Z1 az;clear a7 a8 a9 ba bb;have a7:=r.cell 29;have a8:=r.cell 30;have a9:=r.cell 31;have ba:=r.cell 32;have bb:=r.cell 33;clear az r;go_wp2_with fail;refine zm (HD.o _ (H.o.2.1.up bc.o)) λw5 s=>?_;have HN:=Z1 s;clear s;go_wp2;go_ret;refine⟨rfl,?_⟩;try rw[HX.o.1]
  have h3:=HB.o.1;try rw[<-HV.o.2]at h3
  exact⟨HN.o.1,((ag.B5 h3).trans (ag.B5 bc.o)).trans HN.o.2⟩
 ·have l:cd c m x=(m,true):=by unfold cd;rw[Oz h2,Oz h6]
  have HX:=Z1 l;have g0:=g.cell 0;rw[show x.arr[0]?=some (.int .i64 x.kind)from rfl]at g0;generalize x.arr=cs at*;have c5:(x.kind==2)=false:=by simpa using h2
  have c6:(x.kind==6)=false:=by simpa using h6
  generalize x.kind=xk at*;clear g l ht hx h2 h6
  go_in
  go_wp2;go_ret;refine⟨rfl,?_⟩;try rw[HX.o]
  exact⟨⟨_,_,_,H.o.2.1⟩,ag.B5 HB.o.1⟩
end
def mT(c:Cg)(l:List Vt):Prop:=∀k (hk:k<l.length),(cd c (fK c (l.take k)) l[k]).2=true
def sS(c:Cg)(l:List Vt)(x:Vt):fK c (l++[x])=(cd c (fK c l) x).1:=by simp[fK]
def oH{l:List Vt}{k:Nat}(hk:k<l.length):fK c (l.take (k+1))=(cd c (fK c (l.take k)) l[k]).1:=by
 rw[OG hk,sS]
def JJ(c:Cg)(m:Mp)(x:Cl):(doM c m x).1.ls.length<=m.ls.length+1/\(doM c m x).1.B9.length<=m.B9.length+1:=by
 have a:∀(k:K2) (v:Ld),(aR m.ls k v).length<=m.ls.length+1:=λk v=>by
  rw[lM];split<;>omega
 unfold doM;split
 ·exact⟨OW _,OW _⟩
 split
 ·split
  ·exact⟨OW _,OW _⟩
  ·exact⟨a _ _,OW _⟩
 split
 ·exact⟨zS,OW _⟩
 split
 ·split
  ·exact⟨OW _,OW _⟩
  ·exact⟨OW _,zS⟩
 split
 ·split
  ·exact⟨OW _,zS⟩
  ·exact⟨OW _,OW _⟩
 split
 ·split
  ·split<;>exact⟨OW _,OW _⟩
  ·exact⟨OW _,OW _⟩
 split
 ·split
  ·exact⟨OW _,OW _⟩
  ·exact⟨a _ _,OW _⟩
 split
 ·split<;>exact⟨OW _,OW _⟩
 split
 ·exact⟨OW _,OW _⟩
 ·exact⟨OW _,OW _⟩
def Df(c:Cg)(m:Mp)(x:Vt):(cd c m x).1.ls.length<=m.ls.length+1/\(cd c m x).1.B9.length<=m.B9.length+1:=by
 unfold cd;split
 ·exact JJ c m x.call
 split
 ·unfold eo;split
  ·exact⟨OW _,OW _⟩
  ·refine⟨?_,OW _⟩;show(aR m.ls x.key _).length<=_;rw[lM];split<;>omega
 ·exact⟨OW _,OW _⟩
def lQ(c:Cg)(l:List Vt):∀k,k<=l.length->(fK c (l.take k)).ls.length<=k/\(fK c (l.take k)).B9.length<=k
 |0,_=>by simp[fK,Mp.new]
 |k+1,hk=>by
  have h1:=lQ c l k zO;have a:=Df c (fK c (l.take k)) (l[k]'(by omega));rw[oH zO];omega
section
set_option maxRecDepth 100000
def cq.P4{w:World}{kv:List (Option (Nat×List Fe))}{cv:Value}(h:cq w c mb lb fs kv cv m):fs.length=m.ls.length/\kv.length=m.B9.length:=⟨by rw[h.ls];simp[fls],h.small.symm⟩
structure kT(w wr:World)(c:Cg)(mb lb:Nat)(m:Mp):Prop where
 at_:∃fs kv cv,cq wr c mb lb fs kv cv m
 mb:w.heap.size<=mb
 lb:w.heap.size<=lb
 below:M w wr
def kT.next{w wr w1 w2:World}{m':Mp}(h:kT w wr c mb lb m)(hb:M wr w1)(hn:dM w1 w2 c mb lb m'):kT w w2 c mb lb m':=
 ⟨hn.1,h.mb,h.lb,(af h.below hb).trans (hn.2.below (af h.below hb).size λk e=>by rcases e with e|e;(have:=h.mb;omega);(have:=h.lb;omega))⟩
def kT.up{w wr w1:World}(h:kT w wr c mb lb m)(hb:M wr w1):kT w w1 c mb lb m:=by
 obtain⟨⟨a,b,d,e⟩,f,g,i⟩:=h;exact⟨⟨a,b,d,e.up hb⟩,f,g,af i hb⟩
def SO(c:Cg)(hc:c.ok)(l:List Vt)(hi:∀x∈l,nz x)(ht:mT c l)(A:Option Addr)(k n:Nat)(q:Nat)(w:World)(hr:an w w.heap.size 34 A n (vts l))(hl:n<=80000)(hq:q<=n):
  C 15 #[c.val,.slice A n k,I q] w λe w'=>∃mb lb,e=.returned (Z mb 0)/\kT w w' c mb lb (fK c (l.take q)):=by
 have R:=jU (λx s=>(hi x s).ok);rw[<-iL]at hr;have X:n=l.length:=by have:=kA R hr;simpa using this
 have d:=zh w (.cells c.cells.toArray 23);have f:=Blk.A8 w 23 c.cells.toArray rfl;have S:=Z1 (λW=>xA c hc W);have p:=Z5 hi ht R X hc;obtain⟨⟨st,sa,lo,au⟩,t⟩:∃c',c'=c:=⟨c,rfl⟩;have u:=Z1 t;rw[<-t]at f d S ⊢;simp only[Cg.val,Cg.cells]at f d S ⊢;have c0:=f.cell 0;have c1:=f.cell 1;have c2:=f.cell 2;have c3:=f.cell 3;simp at c0 c1 c2 c3;have T:=Z1 d;clear d f hi ht R X hc t
 go_in
 go_wp2_with fail;refine(S.o _).mono ?_;rintro e w1 ⟨mb,lb,rfl,h,ag,ah,d⟩;have H1:Hid (kT w w1 c mb lb .new):=Z1 ⟨⟨[],[],_,by rw[<-u.o];exact h⟩,by have:=T.o.size;omega,by have:=T.o.size;omega,af T.o d⟩;clear h ag ah d c0 c1 c2 c3;go_wp2;go_loopw [14] (λi wr=>∃(j:Nat),j<=q/\i=I j/\Hid (kT w wr c mb lb (fK c (l.take j)))) (λi _=>n-(intOf i).toNat)
 case atStart=>exact⟨0,OK _,rfl,H1⟩
 case round=>
  obtain⟨j,hj,rfl,v⟩:=hrel;by_cases av:j<n
  ·have F:j<(l.map aK).length:=by have:=p.o.2.2.2.1;simp;omega
   have g:j<l.length:=by have:=p.o.2.2.2.1;omega
   obtain⟨b,o,rfl,_,m⟩:=mw p.o.2.2.1 (hr.below v.o.below) F;have G:(l.map aK)[j]=aK l[j]:=zS;rw[G]at m;have s:=oG (p.o.1 _ (OR g)).ok;have H:=p.o.2.1 j g;have L:=oH (c:=c) g;have N:=p.o.1 _ (OR g);have O:=lQ c l j zO;generalize l[j]=x at*;have a:=Z3 s.size s.all (dw m);have y:=Z4 H L N O;have HR:=Z1 hr;have z:(aK x).cs=x.arr:=rfl;rw[z]at a;generalize B:x.arr=r at*;have HG:=Z1 B;clear m s G hr H L N O F g z B;by_cases aw:j<q
   ·have U:(j:Int)<(n:Int):=zO;have ax:(j:Int)<(q:Int):=zO
    go_wp2_with (first|(refine aG ba rfl (.tmp 17) rfl (Y b (o+j*34)) zF r a.o.1 a.o.2.2 ?_)|(refine aS ba rfl rfl ?_)|(refine aT ba rfl (.tmp 9) (.tmp 18) rfl _ rfl zF r _ zF _ a.o.1 ba.D6 a.o.2.1 ?_)|(refine aG ba rfl (.tmp 9) rfl (Y wr.heap.size 0) zF r a.o.1 (ff _ _ _) ?_))
    have P:=zh wr (.cells r 79);have Q:=Z1 P;clear P;obtain⟨fs,kv,cv,h⟩:=v.o.at_;have hs:=h.P4;have HO:=Z1 (sR _ c p.o.2.2.2.2 mb lb fs kv cv _ (h.up Q.o) (by have:=y.o.2.2.2;omega) (by have:=y.o.2.2.2;omega) x y.o.2.2.1 y.o.1);rw[HG.o]at HO;clear h hs;refine HO.o.mono ?_;rintro e w5 ⟨rfl,D⟩;have HN:=Z1 (v.o.next Q.o D);rw[<-y.o.2.1]at HN;clear D;go_wp2;go_roundw
    case rel=>exact⟨j+1,zO,by go_num,HN⟩
    case measure=>simp[intOf];omega
   ·obtain rfl:j=q:=zO;have U:(j:Int)<(n:Int):=zO
    go_wp2_with (first|(refine aG ba rfl (.tmp 17) rfl (Y b (o+j*34)) zF r a.o.1 a.o.2.2 ?_)|(refine aS ba rfl rfl ?_)|(refine aT ba rfl (.tmp 9) (.tmp 18) rfl _ rfl zF r _ zF _ a.o.1 ba.D6 a.o.2.1 ?_)|(refine aG ba rfl (.tmp 9) rfl (Y wr.heap.size 0) zF r a.o.1 (ff _ _ _) ?_))
    go_ret;rw[u.o];exact⟨_,_,rfl,v.o.up (ae (Oy _ _) _)⟩
  ·obtain rfl:j=q:=zO;obtain rfl:j=n:=zO;go_wp2;go_ret;rw[u.o];exact⟨_,_,rfl,v.o⟩
end
def eB(l:List Vt):List ((Int×Int)×Rp):=l.foldl (λa x=>if x.kind=2 then aR a (x.task,x.nth) x.rep else a) []
def my(l:List Vt)(x:Vt):eB (l++[x])=if x.kind=2 then aR (eB l) (x.task,x.nth) x.rep else eB l:=by simp[eB]
def sV(l:List Vt):Prop:=∀k (hk:k<l.length),l[k].kind=3->ap (eB (l.take k)) (l[k].task,l[k].nth)=some l[k].rep
def rpV(ps:List ((Int×Int)×Rp)):List ((Int×Int)×Value):=ps.map λe=>(e.1,e.2.val)
def Mq(k:Int×Int)(r:Rp):rpV (aR ps k r)=aR (rpV ps) k r.val:=by
 induction ps with
 |nil=>rfl
 |cons e t ih=>
  simp only[rpV,Pi,aR]at ih ⊢;by_cases h:e.1=k
  ·simp[h]
  ·simp[h,ih]
def Mr(k:Int×Int):ap (rpV ps) k=(ap ps k).map Rp.val:=by
 induction ps with
 |nil=>rfl
 |cons e t ih=>
  simp only[rpV,Pi,ap]at ih ⊢;by_cases h:e.1=k
  ·simp[h]
  ·simp[h,ih]
def BC(l:List Vt):∀k,k<=l.length->(eB (l.take k)).length<=k
 |0,_=>by simp[eB]
 |k+1,hk=>by
  have:=BC l k zO;rw[OG (show k<l.length by omega),my];split
  ·rw[lM];split<;>omega
  ·omega
section
set_option maxRecDepth 100000
def Dh(c:Cg)(hc:c.ok)(l:List Vt)(hi:∀x∈l,nz x)(ht:mT c l)(A:Option Addr)(k n:Nat)(w:World)(hr:an w w.heap.size 34 A n (vts l))(hl:n<=80000):
  C 93 #[c.val,.slice A n k] w (J (I (-1)) w):=by
 have P:=jU (λx q=>(hi x q).ok);rw[<-iL]at hr;have U:n=l.length:=by have:=kA P hr;simpa using this
 have d:=zh w (.cells c.cells.toArray 23);have f:=Blk.A8 w 23 c.cells.toArray rfl;have Q:=Z1 (λW=>xA c hc W);have p:=Z5 hi ht P U hc;obtain⟨⟨st,sa,lo,au⟩,r⟩:∃c',c'=c:=⟨c,rfl⟩;have X:=Z1 r;rw[<-r]at f d Q ⊢;simp only[Cg.val,Cg.cells]at f d Q ⊢;have c0:=f.cell 0;have c1:=f.cell 1;have c2:=f.cell 2;have c3:=f.cell 3;simp at c0 c1 c2 c3;have R:=Z1 d;clear d f hi ht P U hc r
 go_in
 go_wp2_with fail;refine(Q.o _).mono ?_;rintro e w1 ⟨S,T,rfl,h,ae,ag,d⟩;have H1:Hid (kT w w1 c S T .new):=Z1 ⟨⟨[],[],_,by rw[<-X.o];exact h⟩,by have:=R.o.size;omega,by have:=R.o.size;omega,af R.o d⟩;clear h ae ag d c0 c1 c2 c3;go_wp2;go_loopw [12] (λi wr=>∃(j:Nat),j<=n/\i=I j/\Hid (kT w wr c S T (fK c (l.take j)))) (λi _=>n-(intOf i).toNat)
 case atStart=>exact⟨0,OK _,rfl,H1⟩
 case round=>
  obtain⟨j,hj,rfl,y⟩:=hrel;by_cases av:j<n
  ·have B:j<(l.map aK).length:=by have:=p.o.2.2.2.1;simp;omega
   have g:j<l.length:=by have:=p.o.2.2.2.1;omega
   obtain⟨b,o,rfl,_,m⟩:=mw p.o.2.2.1 (hr.below y.o.below) B;have D:(l.map aK)[j]=aK l[j]:=zS;rw[D]at m;have q:=oG (p.o.1 _ (OR g)).ok;have F:=p.o.2.1 j g;have G:=oH (c:=c) g;have H:=p.o.1 _ (OR g);have L:=lQ c l j zO;generalize l[j]=x at*;have a:=Z3 q.size q.all (dw m);have s:=Z4 F G H L;have HR:=Z1 hr;have t:(aK x).cs=x.arr:=rfl;rw[t]at a;generalize u:x.arr=z at*;have HG:=Z1 u;clear m q D hr F G H L B g t u;have am:(j:Int)<(n:Int):=zO
   go_wp2_with (first|(refine aG ba rfl (.tmp 15) rfl (Y b (o+j*34)) zF z a.o.1 a.o.2.2 ?_)|(refine aS ba rfl rfl ?_)|(refine aT ba rfl (.tmp 7) (.tmp 16) rfl _ rfl zF z _ zF _ a.o.1 ba.D6 a.o.2.1 ?_)|(refine aG ba rfl (.tmp 7) rfl (Y wr.heap.size 0) zF z a.o.1 (ff _ _ _) ?_))
   have N:=zh wr (.cells z 79);have O:=Z1 N;clear N;obtain⟨fs,kv,cv,h⟩:=y.o.at_;have hs:=h.P4;have HO:=Z1 (sR _ c p.o.2.2.2.2 S T fs kv cv _ (h.up O.o) (by have:=s.o.2.2.2;omega) (by have:=s.o.2.2.2;omega) x s.o.2.2.1 s.o.1);rw[HG.o]at HO;clear h hs;refine zm HO.o λw5 v=>?_;have HN:=Z1 (y.o.next O.o v);rw[<-s.o.2.1]at HN;clear v;go_wp2;go_roundw
   case rel=>exact⟨j+1,zO,by go_num,HN⟩
   case measure=>simp[intOf];omega
  ·obtain rfl:j=n:=zO;go_wp2;go_ret;exact⟨rfl,y.o.below⟩
abbrev Ny(w:World)(b:Nat)(l:List ((Int×Int)×Value)):Prop:=aw prog 247 Cx (λx=>aq x.1/\aq x.2) w b l
def JL:(zeroValue 77).run prog w=.ok Rp.zero.val w:=zR
def JM(l:List Vt)(hi:∀x∈l,x.ok)(ht:sV l)(A:Option Addr)(k n:Nat)(w:World)(hr:an w w.heap.size 34 A n (vts l))(hl:n<=80000):
  C 92 #[.slice A n k] w (J (.bool true) w):=by
 have ho:=jU hi;rw[<-iL]at hr;have hn:n=l.length:=by have:=kA ho hr;simpa using this
 have H:=Z4 hi ht ho hn;have a8:=@run_makeMap prog;have aa:Ny (w.alloc (.map #[] 0)) w.heap.size []:=aw.made w;have a9:=Z1 aa;clear hi ht ho hn aa
 go_in
 go_wp2;clear a8;go_loopw [12] (λi wr=>∃(j:Nat),j<=n/\i=I j/\Hid (Ny wr w.heap.size (rpV (eB (l.take j)))/\M w wr)) (λi _=>n-(intOf i).toNat)
 case atStart=>exact⟨0,OK _,rfl,Z1 ⟨a9.o,ae (Oy _ _) _⟩⟩
 case round=>
  obtain⟨j,hj,rfl,s⟩:=hrel;by_cases bn:j<n
  ·have ab:j<(l.map aK).length:=by have:=H.o.2.2.2;simp;omega
   have c:j<l.length:=by have:=H.o.2.2.2;omega
   obtain⟨b,o,rfl,_,d⟩:=mw H.o.2.2.1 (hr.below s.o.2) ab;have ac:(l.map aK)[j]=aK l[j]:=zS;rw[ac]at d;have L:=H.o.1 _ (OR c);have v:=oG L;have m:=H.o.2.1 j c;have ad:=BC l j zO;have ag:eB (l.take (j+1))=if l[j].kind=2 then aR (eB (l.take j)) (l[j].task,l[j].nth) l[j].rep else eB (l.take j):=by rw[OG c,my]
   generalize l[j]=x at*;have a:=Z3 v.size v.all (dw d);have f:=Z4 m ag L ad;have HR:=Z1 hr;have ah:=Blk.A8 wr 79 x.arr rfl;have bj:(j:Int)<(n:Int):=zO;clear m;have ck:=eu (w:=wr) (t:=79) v.c0;have ct:=eu (w:=wr) (t:=79) v.c1;have cn:=eu (w:=wr) (t:=79) v.c2;have N:(aK x).cs=x.arr:=rfl;have z:=v.c0;rw[N]at a ck ct cn z;have ai:(aK x).kind=x.kind:=rfl;have m:(aK x).task=x.task:=rfl;have aj:(aK x).nth=x.nth:=rfl;rw[ai]at ck z;rw[m]at ct;rw[aj]at cn;have ak:=zh wr (.cells x.arr 79);have al:=Z2 ah ak;generalize O:x.arr=P at*;have HG:=Z1 O;generalize am:x.kind=X at*;generalize ap:x.task=p at*;generalize aq:x.nth=r at*;have B:=Z3 am ap aq;clear d v ac hr ag L ad ab c N ah O ai m aj ak am ap aq;have D:=al.o.1.alloc (.cells #[I p,I r] 247);have bb:=(D.cell 0).trans z;clear z;go_upto_block 2 with(first|(refine aG ba rfl (.tmp 14) rfl (Y b (o+j*34)) zF P a.o.1 a.o.2.2 ?_)|(refine aS ba rfl rfl ?_)|(refine aT ba rfl (.tmp 5) (.tmp 15) rfl _ rfl zF P _ zF _ a.o.1 ba.D6 a.o.2.1 ?_)|(refine aG ba rfl (.tmp 5) rfl (Y wr.heap.size 0) zF P a.o.1 (ff _ _ _) ?_))
   have Q:=ae al.o.2 (.cells #[I p,I r] 247);have ar:=Blk.A8 (wr.alloc (.cells P 79)) 247 #[I p,I r] (g:=wr.heap.size+1) zS;have au:=aw.up s.o.1 Q;generalize (wr.alloc (.cells P 79)).alloc (.cells #[I p,I r] 247)=W at*;obtain⟨d0,d1⟩:=ao ar;have R:=D;rw[<-HG.o]at R;have av:=Z1 (Nv R);have h:=Z3 Q au D;clear Q D ar au R ck ct cn bb;by_cases y:X=2
   ·subst y;have F:=Z1 f.o.2.1;rw[OB rfl]at F
    go_wp2_with (first|(refine aG aA rfl (.tmp 27) rfl (Y wr.heap.size 14) zF x.rep.arr rfl av.o ?_)|(refine cZ rfl _ _ _ 245 77 rfl KZ underlying245 (p,r) (by rw[<-B.o.2.1,<-B.o.2.2];exact⟨f.o.2.2.1.task,f.o.2.2.1.nth⟩) (.agg x.rep.arr) rfl rfl rfl h.o.2.1 (by rw[rpV,Pe];have:=f.o.2.2.2;omega) ?_;intro W6 ax ay bc;have H6:=Z2 ax ay;clear ax ay bc))
    go_roundw
    case rel=>
     refine⟨j+1,zO,by go_num,Z1 ⟨?_,?_⟩⟩
     ·have h1:=H6.o.1;have y:=Mq (eB (l.take j)) (p,r) x.rep;have G:=F.o;rw[G,y];exact h1
     ·exact(af s.o.2 h.o.1).trans (H6.o.2.below (af s.o.2 h.o.1).size λq e=>by have G:q=w.heap.size:=e;omega)
    case measure=>simp[intOf];omega
   ·have q2:(X==2)=false:=by simpa using y
    have F:=Z1 f.o.2.1;rw[Oz y]at F;by_cases G:X=3
    ·subst G;have hg:=f.o.1 rfl;have S:=Mr (eB (l.take j)) (p,r);rw[hg]at S;have az:=aw.look_ok h.o.2.1 KZ underlying245 (JL W) (x:=(p,r)) (by rw[<-B.o.2.1,<-B.o.2.2];exact⟨f.o.2.2.1.task,f.o.2.2.1.nth⟩);rw[S]at az;simp only[PT,Qd,Rl,Rp.val]at az;have a0:=FZ x.rep f.o.2.2.1.rep;have bf:=Z1 (λW=>a0 W);have T:=dy x.rep;have bg:=Z1 T;have bo:=zh W (.cells (zc prog 77) 77);have a1:x.rep.arr.size=13:=rfl;have U:=Z1 a1;have bh:=Z1 F.o;generalize x.rep.arr=ra at*;have bp:=bf.o;clear hg S y T a0 a1
     go_wp2_with (first|(refine aS aA rfl rfl ?_)|(refine aT aA rfl (.tmp 7) (.tmp 35) rfl _ rfl zF ra _ zF _ U.o aA.D6 bg.o ?_)|(refine fh aA zF (.tmp 7) rfl (Y W.heap.size 0) zF ra U.o (ff _ _ _) ?_)|(refine fh aA zF (.tmp 41) rfl (Y wr.heap.size 14) zF ra U.o ?_ ?_))
     ·intro i u hu;have h5:=av.o i u (by simpa using hu);rw[show((Y wr.heap.size 14):Addr).add i=(Y wr.heap.size (14+i)) by unfold Addr.add;split<;>simp_all]at h5;exact(World.cell?_alloc_lt W _ _ h.o.2.2.lt).trans h5
     go_roundw
     case rel=>exact⟨j+1,zO,by go_num,Z1 ⟨by rw[bh.o];exact aw.up h.o.2.1 (ae (Oy _ _) _),ae (af s.o.2 h.o.1) _⟩⟩
     case measure=>simp[intOf];omega
    ·have q3:(X==3)=false:=by simpa using G
     clear y G;go_wp2;go_roundw
     case rel=>exact⟨j+1,zO,by go_num,Z1 ⟨by rw[F.o];exact h.o.2.1,af s.o.2 h.o.1⟩⟩
     case measure=>simp[intOf];omega
  ·obtain rfl:j=n:=zO;go_wp2;go_ret;exact⟨rfl,s.o.2⟩
def Di(c:Cg)(hc:c.ok)(l:List Vt)(hi:∀x∈l,nz x)(ht:mT c l)(htd:sV l)(hrt:ix (l.map aK)=true)(A:Option Addr)(k n:Nat)(w:World)(hr:an w w.heap.size 34 A n (vts l))(hl:n<=80000):
  C 43 #[c.val,.slice A n k] w (J (.bool true) w):=by
 have u:=jU (λx s=>(hi x s).ok);have b:=Blk.A8 w 23 c.cells.toArray rfl;have d:=zh w (.cells c.cells.toArray 23);have v:=Z1 (λU (f:M w U)=>sU (l.map aK) A k n U u (by rw[iL];exact hr.up f) zO);rw[hrt]at v;have z:=Z1 (λU (f:M w U)=>JM l (λx s=>(hi x s).ok) htd A k n U (hr.up f) hl);have B:=Z1 (λU (f:M w U)=>Dh c hc l hi ht A k n U (hr.up f) hl);obtain⟨F,G,H,D⟩:=c;simp only[Cg.val,Cg.cells]at*;have g:=b.cell 0;have h:=b.cell 1;have i:=b.cell 2;have j:=b.cell 3;simp at g h i j;have t:=Z2 d b;clear d b u hi ht htd hrt hr hc
 go_in
 go_wp2_with fail;refine zm (v.o _ t.o.1) λL d=>?_;have m:=Z2 (af t.o.1 d) (t.o.2.later d);clear d g h i j;go_wp2_with fail;refine zm (z.o _ m.o.1) λN p=>?_;have a:=m.o.2.later p;have q:=Z1 (af m.o.1 p);have g:=a.cell 0;have h:=a.cell 1;have i:=a.cell 2;have j:=a.cell 3;simp at g h i j;clear p a;go_wp2_with fail;refine zm (B.o _ q.o) λO r=>?_;have y:=Z1 (af q.o r);clear r g h i j;go_wp2;go_ret;exact⟨rfl,y.o⟩
end
structure fG(c:Cg)(m:Mp):Prop where
 ls:∀e∈m.ls,e.2.C6 c
 B9:∀l,some l∈m.B9->∀e∈l,e.2.C6 c
def fG.new(c:Cg):fG c .new:=⟨by simp[Mp.new],by simp[Mp.new]⟩
def JX{α:Type}{l:List (K2×α)}{v:α}{e:K2×α}(h:e∈aR l k v):e=(k,v)\/e∈l:=by
 induction l with
 |nil=>simp[aR]at h;exact .inl h
 |cons a r ih=>
  unfold aR at h;split at h
  ·rcases Pj.1 h with q|q
   ·exact .inl q
   ·exact .inr (Pm _ q)
  ·rcases Pj.1 h with q|q
   ·exact .inr (by rw[q];exact Qc)
   ·exact(ih q).imp id (Pm _)
def fG.put(h:fG c m)(k:K2){v:Ld}(hv:v.C6 c):fG c {m with ls:=aR m.ls k v}:=
 ⟨λe a=>(JX a).elim (λq=>q▸hv) (h.ls e),h.B9⟩
def fG.get(h:fG c m){v:Ld}(hg:ap m.ls k=some v):v.C6 c:=h.ls _ (bR hg)
def fG.room(h:fG c m){v:Ld}(hg:dR c m k=some v):v.C6 c:=by
 unfold dR at hg;split at hg
 ·rename_i y a;injection hg with hg;exact hg▸h.get a
 ·split at hg
  ·cases hg
  ·injection hg with hg;exact hg▸lq c
def fA{e:Int}(h:aq e):(Rp.of e).ok:=⟨h,aD,aD,⟨aD,aD,aD,aD,aD⟩,⟨aD,aD,aD,aD,aD⟩⟩
def dS:Rp.zero.ok:=fA aD
def mU(h:x.C6 c):fo x.D2:=λs a=>⟨⟨by have:=(h.right s a).1;omega,(h.right s a).1.2⟩,⟨by have:=(h.right s a).2;omega,(h.right s a).2.2⟩⟩
def cX{n:Int}(h:0<=n/\n<=2000000000):aq n:=⟨zO,zO⟩
def vz(x:Cl):0<=aH x/\aH x<=14:=by
 unfold aH bG idE
 repeat' split
 all_goals omega
def sY{α:Type}(l:List (Option α))(n:Int):0<=findE l n/\findE l n<=8:=by
 unfold findE
 repeat' split
 all_goals omega
def JY{l:List Adv}(h:∀a∈l,a.ok):(iF l).ok:=by
 unfold iF
 cases e:l.getLast? with
 |none=>exact⟨aD,aD,aD,aD,aD⟩
 |some a=>exact h a (List.mem_of_getLast? e)
def Dq{x:Cl}(hx:x.ok)(h:bG x.tick x.value=0):(0<=x.tick/\x.tick<=9223372036854775807)/\(0<=x.value/\x.value<=9223372036854775807):=by
 unfold bG at h;have a:=hx.tick;have b:=hx.value;unfold aq at a b;split at h
 ·omega
 split at h
 ·omega
 ·omega
def xT(hc:c.ok)(h:fG c m){x:Cl}(hx:x.ok)(hn:m.B9.length<=1000000):fG c (doM c m x).1/\(doM c m x).2.ok:=by
 have L:=Cg.small hc;by_cases i:aH x≠0
 ·have j:doM c m x=(m,.of (aH x)):=by unfold doM;rw[OB i]
  rw[j];exact⟨h,fA (cX (by have:=vz x;omega))⟩
 have a:=Pg i;unfold doM;rw[Oz i];by_cases p:x.k=1
 ·rw[OB p];split
  ·exact⟨h,fA (cX zO)⟩
  ·rename_i y b;have B:bG x.tick x.value=0:=by
    unfold aH at a;rw[OB p]at a;split at a
    ·exact a
    ·cases a
   obtain⟨D,F⟩:=Dq hx B;exact⟨h.put _ (mS hc (h.room b) D F),dS⟩
 rw[Oz p];by_cases t:x.k=2
 ·rw[OB t];refine⟨⟨λe j=>?_,h.B9⟩,dS⟩;obtain⟨G,u,rfl⟩:=Pa.1 j;exact pA (h.ls G u) _
 rw[Oz t];by_cases v:x.k=3
 ·rw[OB v];split
  ·exact⟨h,fA (cX zO)⟩
  ·refine⟨⟨h.ls,λl r=>?_⟩,⟨aD,cX (n:=(m.B9.length:Int)+1) zO,cX (n:=(m.B9.length:Int)+1) zO,dS.stat,dS.E0⟩⟩;have f:=r;rw[Po]at f
   rcases f with q|q
   ·exact h.B9 l q
   ·simp at q;exact q▸h.ls
 rw[Oz v];by_cases w:x.k=4
 ·rw[OB w];split
  ·refine⟨⟨h.ls,λl r=>?_⟩,dS⟩
   rcases List.mem_or_eq_of_mem_set (show some l∈m.B9.set _ _ from r)with q|q
   ·exact h.B9 l q
   ·cases q
  ·exact⟨h,fA (cX (by have:=sY m.B9 x.handle;omega))⟩
 rw[Oz w];by_cases z:x.k=5
 ·rw[OB z];split
  ·split
   ·exact⟨h,fA (cX zO)⟩
   ·rename_i N y b;have g:y.C6 c:=by
     have d:=bR b
     cases e:m.B9.getD (x.handle.toNat-1) none with
     |none=>rw[e]at d;simp at d
     |some l=>
      rw[e]at d;refine h.B9 l ?_ _ d;rw[OP]at e
      cases e2:m.B9[x.handle.toNat-1]? with
      |none=>rw[e2]at e;simp at e
      |some o=>
       rw[e2]at e;simp at e;subst e;exact Qx e2
    exact⟨h,⟨aD,hx.handle,aD,wD (mU g) (by have:=g.E5;omega) _ _,dS.E0⟩⟩
  ·exact⟨h,fA (cX (by have:=sY m.B9 x.handle;omega))⟩
 rw[Oz z];by_cases s:x.k=6
 ·rw[OB s];split
  ·exact⟨h,fA (cX zO)⟩
  ·rename_i y b;have H:x.D8.right=true:=by
    unfold aH at a;rw[Oz zO,Oz zO,Oz zO,OB s]at a;split at a
    ·split at a
     ·assumption
     ·cases a
    ·cases a
   exact⟨h.put _ (rH (h.room b) hx.D8 H),dS⟩
 rw[Oz s];by_cases A:x.k=7
 ·rw[OB A];split
  ·exact⟨h,fA (cX zO)⟩
  ·rename_i y b;exact⟨h,⟨aD,aD,aD,dS.stat,JY (h.get b).advs⟩⟩
 rw[Oz A];split
 ·exact⟨h,fA (cX zO)⟩
 ·exact⟨⟨h.ls,h.B9⟩,dS⟩
def Gf(h:fG c m)(k:K2){a:Adv}(ha:a.ok):fG c (eo c m k a).1:=by
 unfold eo;split
 ·exact h
 ·rename_i y b;exact h.put _ (uR (h.get b) ha)
def JZ{p:Pl}(hr:p.right=true)(n:Int):p.mn<=eW p n/\eW p n<=p.mx/\0<=p.mn/\p.mx<=1073741824:=by
 unfold Pl.right at hr;simp only[decide_eq_true_eq]at hr;unfold eW iX
 repeat' split
 all_goals omega
def Mz(hc:c.ok)(hf:x.C6 c)(hr:x.D8.right=true):(od x.D8 x.D2 x.C0).ok:=by
 have b:=Cg.small hc;have a:∀n,aq (eW x.D8 n):=λn=>cX (by have:=JZ hr n;omega);refine⟨sN (mU hf),(wD (mU hf) (by have:=hf.E5;omega) _ _).F3,?_,a _,?_⟩
 ·show aq (kq _ _ _);unfold kq;split<;>exact a _
 ·show aq (pw _ _ _ _ _);unfold pw;refine cX ?_
  repeat' split
  all_goals omega
def trV(l:List Vt)(t:Int):Tr:=(l.map aK).foldl cT (λ_=>Tr.zero) t
def jn(l:List Vt)(x:Vt)(t:Int):trV (l++[x]) t=if t=x.task then(trV l x.task).next (aK x)else trV l t:=by
 unfold trV;rw[QC,Qe];rfl
def qR:∀(l:List Ev) (tr:Int->Tr) (x:Ev),fy tr (l++[x])=(fy tr l&&kU (l.foldl cT tr) x)
 |[],tr,x=>by simp[fy]
 |y::r,tr,x=>by
  simp only[PY,fy,Qz,qR r (cT tr y) x,Bool.and_assoc]
def Dr(l:List Vt)(x:Vt):ix ((l++[x]).map aK)=(ix (l.map aK)&&kU (trV l) (aK x)):=by
 unfold ix;rw[QC];exact qR _ _ _
structure kD(c:Cg)(ps:List (List Cl))(ev:List Vt)(mp:Mp):Prop where
 right:ix (ev.map aK)=true
 mp:fK c ev=mp
 U0:mT c ev
 told:sV ev
 O3:∀y∈ev,nz y
 call:∀y∈ev,(y.kind=1\/y.kind=2)->∃(i n:Nat) (p:List Cl),y.task=i/\y.nth=n/\ps[i]?=some p/\p[n]?=some y.call
 low:∀y∈ev,y.kind<=3->y.task<ps.length
def mV{α:Type}(l:List α)(x:α){k:Nat}(hk:k<=l.length):(l++[x]).take k=l.take k:=QN hk
def kD.snoc{c:Cg}{ps:List (List Cl)}{ev:List Vt}{mp mp':Mp}(h:kD c ps ev mp){y:Vt}(ht:0<=y.task/\y.task<32)(hok:(trV ev y.task).ok (aK y)=true)(ha:cd c mp y=(mp',true))(htd:y.kind=3->ap (eB ev) (y.task,y.nth)=some y.rep)(hv:nz y)
  (hc:(y.kind=1\/y.kind=2)->∃(i n:Nat) (p:List Cl),y.task=i/\y.nth=n/\ps[i]?=some p/\p[n]?=some y.call)(hlo:y.kind<=3->y.task<ps.length):kD c ps (ev++[y]) mp':=by
 have b:∀z∈ev++[y],z∈ev\/z=y:=λz d=>by simpa using d
 have m:(ev++[y]).length=ev.length+1:=zS;have f:∀k (g:k<(ev++[y]).length),(k<ev.length/\∃a:k<ev.length,(ev++[y])[k]=ev[k])\/(k=ev.length/\(ev++[y])[k]=y):=λk g=>by
  by_cases a:k<ev.length
  ·exact .inl ⟨a,a,PK a⟩
  ·have e:k=ev.length:=zO;subst e;exact .inr ⟨rfl,zS⟩
 refine⟨?_,?_,λk g=>?_,λk g=>?_,λz d=>?_,λz d=>?_,λz d=>?_⟩
 ·rw[Dr,h.right];unfold kU;simp only[Vg,OY,decide_eq_true_eq];exact⟨ht,hok⟩
 ·rw[sS,h.mp,ha]
 ·rcases f k g with⟨a,o,e⟩|⟨j,l⟩
  ·rw[e,mV _ _ (RD a)];exact h.U0 k a
  ·rw[l,j,mV _ _ (OA _),PO,h.mp,ha]
 ·rcases f k g with⟨a,o,e⟩|⟨j,l⟩
  ·rw[e,mV _ _ (RD a)];exact h.told k a
  ·rw[l,j,mV _ _ (OA _),PO];exact htd
 ·rcases b z d with e|e
  ·exact h.O3 z e
  ·exact e▸hv
 ·rcases b z d with e|e
  ·exact h.call z e
  ·exact e▸hc
 ·rcases b z d with e|e
  ·exact h.low z e
  ·exact e▸hlo
def kD.nil(c:Cg)(ps:List (List Cl)):kD c ps [] .new:=⟨rfl,rfl,λk a=>by simp at a,λk a=>by simp at a,zS,zS,zS⟩
def vA{l:List Vt}{x:Vt}{t n:Int}(h:x.kind≠2\/x.task≠t):ap (eB (l++[x])) (t,n)=ap (eB l) (t,n):=by
 rw[my];split
 ·rename_i a;rw[iE];intro e;injection e with b c
  rcases h with h|h
  ·exact h a
  ·exact h b.symm
 ·rfl
def xU{l:List Vt}{x:Vt}(h:x.kind=2):ap (eB (l++[x])) (x.task,x.nth)=some x.rep:=by
 rw[my,OB h,lD]
def trC(c:Cg)(x:Ci):Tr:=if x.at_=0 then(if x.nth=0 then Tr.zero else⟨(x.nth:Int)-1,3,0,0⟩)else if du (dZ c x)=true then⟨x.nth,1,0,0⟩else⟨x.nth,2,0,0⟩
structure TrW(t:Tr)(x:Wi):Prop where
 nth:t.nth=0
 hi:t.hi=x.key.hi
 lo:t.lo=x.key.lo
 idle:(x.B6=0\/x.B6=1\/x.B6=12\/x.B6=13)->t.last=0\/t.last=7
 N9:(x.B6=2\/x.B6=3\/x.B6=4)->t.last=4
 D9:(x.B6=5\/x.B6=6\/x.B6=7\/x.B6=8)->t.last=5
 done:(x.B6=9\/x.B6=10\/x.B6=11)->t.last=5\/t.last=6
 Q3:x.B6=14->t.last=7
structure WOk(c:Cg)(n:Nat)(x:Wi):Prop where
 D9:x.D9.C6 c
 E0:x.E0.ok
 key:x.key.ok
 done:x.done<=n
structure InvE(c:Cg)(ps:List (List Cl))(e:En):Prop where
 L9:kD c ps e.g.ev e.g.mp
 C6:fG c e.g.mp
 U1:∀(i:Nat) x,e.cs[i]?=some x->trV e.g.ev (i:Int)=trC c x
 U2:∀(j:Nat) x,e.ws[j]?=some x->TrW (trV e.g.ev ((e.cs.length+j:Nat):Int)) x
 J2:∀(i:Nat) x,e.cs[i]?=some x->x.at_≠0->du (dZ c x)=false->ap (eB e.g.ev) ((i:Int),(x.nth:Int))=some x.rep
 P0:∀(i:Nat) x,e.cs[i]?=some x->x.rep.ok
 K9:∀(j:Nat) x,e.ws[j]?=some x->WOk c e.used x
 len:e.g.ev.length<=2*e.used
 n:e.cs.length=ps.length
def nR:az.ok:=⟨aD,aD,aD,aD,aD⟩
def BG:(⟨0,0⟩:K2).ok:=⟨⟨zP,zP⟩,zP,zP⟩
def InvE.new(c:Cg)(ps:List (List Cl))(n:Nat):InvE c ps (.new c ps n):=by
 refine⟨kD.nil c ps,fG.new c,λi x a=>?_,λj x a=>?_,λi x a b=>?_,λi x a=>?_,λj x a=>?_,OK _,by simp[En.new]⟩
 ·simp only[En.new,Qw,PB]at a;obtain⟨p,_,rfl⟩:=a;rfl
 ·simp only[En.new,Pz,PB]at a;obtain⟨k,_,rfl⟩:=a;exact⟨rfl,rfl,rfl,λ_=>.inl rfl,λq=>by simp[Wi.new]at q,λq=>by simp[Wi.new]at q,λq=>by simp[Wi.new]at q,λq=>by simp[Wi.new]at q⟩
 ·simp only[En.new,Qw,PB]at a;obtain⟨p,_,rfl⟩:=a;exact absurd rfl b
 ·simp only[En.new,Qw,PB]at a;obtain⟨p,_,rfl⟩:=a;exact dS
 ·simp only[En.new,Pz,PB]at a;obtain⟨k,_,rfl⟩:=a;exact⟨lq c,nR,BG,OK _⟩
section
variable {c:Cg} {ps:List (List Cl)} {e:En} {g':Gs} {t j:Nat}
def InvE.K3(h:InvE c ps e){x x':Ci}(hx:e.cs[t]?=some x)(new:List Vt)(hnew:∀y∈new,y.task=(t:Int))(hev:g'.ev=e.g.ev++new)(hl2:new.length<=2)(ht:kD c ps g'.ev g'.mp)(hf:fG c g'.mp)(hc:trV g'.ev (t:Int)=trC c x')
  (hp:x'.at_≠0->du (dZ c x')=false->ap (eB g'.ev) ((t:Int),(x'.nth:Int))=some x'.rep)(hr:x'.rep.ok):InvE c ps {e with g:=g',cs:=e.cs.set t x',used:=e.used+1}:=by
 have d:=cz hx;have b:∀(l:List Vt),(∀y∈l,y.task=(t:Int))->∀(u:Int),u≠(t:Int)->∀ev:List Vt,trV (ev++l) u=trV ev u/\∀n,ap (eB (ev++l)) (u,n)=ap (eB ev) (u,n):=λl=>by
  induction l with
  |nil=>intro _ u _ ev;rw[PC];exact⟨rfl,λ_=>rfl⟩
  |cons y r ih=>
   intro a u k ev;have j:=a y Qc;obtain⟨m,o⟩:=ih (λz q=>a z (Pm _ q)) u k (ev++[y]);rw[show ev++y::r=ev++[y]++r from by simp];refine⟨m.trans ?_,λn=>(o n).trans (vA (.inr (by rw[j];exact Pc k)))⟩;rw[jn,Oz (by rw[j];exact k)]
 refine⟨ht,hf,λi y a=>?_,λi y a=>?_,λi y a=>?_,λi y a=>?_,λi y a=>⟨(h.K9 i y a).D9,(h.K9 i y a).E0,(h.K9 i y a).key,RI (h.K9 i y a).done⟩,?_,by simp only[PI];exact h.n⟩
 ·rcases dp a d with⟨rfl,rfl⟩|⟨p,f⟩
  ·exact hc
  ·show trV g'.ev _=_;rw[hev,(b new hnew _ zO _).1];exact h.U1 i y f
 ·show TrW (trV g'.ev (((e.cs.set t x').length+i:Nat):Int)) y;rw[PI,hev,(b new hnew _ zO _).1];exact h.U2 i y a
 ·rcases dp a d with⟨rfl,rfl⟩|⟨p,f⟩
  ·exact hp
  ·intro m o;show ap (eB g'.ev) _=_;rw[hev,(b new hnew _ zO _).2];exact h.J2 i y f m o
 ·rcases dp a d with⟨rfl,rfl⟩|⟨p,f⟩
  ·exact hr
  ·exact h.P0 i y f
 ·show g'.ev.length<=2*(e.used+1);rw[hev,OS];have:=h.len;omega
def InvE.M5(h:InvE c ps e){x x':Wi}(hx:e.ws[j]?=some x)(new:List Vt)(hnew:∀y∈new,y.task=((e.cs.length+j:Nat):Int))(hev:g'.ev=e.g.ev++new)(hl2:new.length<=2)(ht:kD c ps g'.ev g'.mp)(hf:fG c g'.mp)
  (hc:TrW (trV g'.ev ((e.cs.length+j:Nat):Int)) x')(hr:WOk c (e.used+1) x'):InvE c ps {e with g:=g',ws:=e.ws.set j x',used:=e.used+1}:=by
 have f:=cz hx;have b:∀(l:List Vt),(∀y∈l,y.task=((e.cs.length+j:Nat):Int))->∀(u:Int),u≠((e.cs.length+j:Nat):Int)->∀ev:List Vt,trV (ev++l) u=trV ev u/\∀n,ap (eB (ev++l)) (u,n)=ap (eB ev) (u,n):=λl=>by
  induction l with
  |nil=>intro _ u _ ev;rw[PC];exact⟨rfl,λ_=>rfl⟩
  |cons y r ih=>
   intro a u m ev;have k:=a y Qc;obtain⟨o,p⟩:=ih (λz q=>a z (Pm _ q)) u m (ev++[y]);rw[show ev++y::r=ev++[y]++r from by simp];refine⟨o.trans ?_,λn=>(p n).trans (vA (.inr (by rw[k];exact Pc m)))⟩;rw[jn,Oz (by rw[k];exact m)]
 refine⟨ht,hf,λi y a=>?_,λi y a=>?_,λi y a o p=>?_,h.P0,λi y a=>?_,?_,h.n⟩
 ·show trV g'.ev _=_;have:i<e.cs.length:=cz a;rw[hev,(b new hnew _ zO _).1];exact h.U1 i y a
 ·rcases dp a f with⟨rfl,rfl⟩|⟨s,d⟩
  ·exact hc
  ·show TrW (trV g'.ev ((e.cs.length+i:Nat):Int)) y;rw[hev,(b new hnew _ zO _).1];exact h.U2 i y d
 ·show ap (eB g'.ev) _=_;have:i<e.cs.length:=cz a;rw[hev,(b new hnew _ zO _).2];exact h.J2 i y a o p
 ·rcases dp a f with⟨rfl,rfl⟩|⟨s,d⟩
  ·exact hr
  ·exact⟨(h.K9 i y d).D9,(h.K9 i y d).E0,(h.K9 i y d).key,RI (h.K9 i y d).done⟩
 ·show g'.ev.length<=2*(e.used+1);rw[hev,OS];have:=h.len;omega
end
section
variable {c:Cg} {ps:List (List Cl)} {e:En} {g':Gs} {t j:Nat}
def lS{o:Op2}{r:List Op2}(h:o.1≠4):du (o::r)=du r:=by
 unfold du;simp[h]
def kD.B9{ev:List Vt}{mp:Mp}(h:kD c ps ev mp):mp.B9.length<=ev.length:=by
 have:=(lQ c ev ev.length (OA _)).2;rw[PO,h.mp]at this;exact this
def lA{y:Vt}(k:Int)(hk:y.kind=k)(h:k≠2/\k≠6):cd c m y=(m,true):=by
 unfold cd;rw[Oz (hk▸h.1),Oz (hk▸h.2)]
def vB{l:List Vt}{x:Vt}{t n:Int}(h:x.kind=2)(h1:x.task=t)(h2:x.nth=n):ap (eB (l++[x])) (t,n)=some x.rep:=by
 subst h1 h2;exact xU h
def MA{x:Ci}(hQ:gb c ps e)(hx:e.cs[t]?=some x)(hlt:x.nth<x.prog.length):∃p,ps[t]?=some p/\p[x.nth]?=some x.call:=by
 refine⟨x.prog,hQ.prog t x hx,?_⟩;unfold Ci.call;rw[OP,OL hlt];rfl
def InvE.R5(hc0:c.ok)(hL:lG c e)(hQ:gb c ps e)(h:InvE c ps e)(hps:∀p∈ps,p.length<=1000/\∀y∈p,y.ok)(hu:e.used<=30000){x:Ci}(hx:e.cs[t]?=some x)(hrx:x.ready e.g=true):InvE c ps (e.go c t):=by
 have ho:=Ci.G0 hrx;have a0:=Ci.K1 ho;have a5:=hL.I1 t x hx;have b:=hL.J0 t x hx;have bx:=cz hx;obtain⟨m,a6⟩:=a5.place (hc0:=hc0) ho;obtain⟨p,ac,P⟩:=MA hQ hx a0;obtain⟨bh,ai⟩:=hps p (Qx ac);have o:=ai _ (Qx P);have bi:x.nth<1000:=by have:=cz P;omega
 have aj:=hL.lk.n32;have bj:t<32:=by unfold En.count at aj;omega
 have bg:=h.L9.B9;have Q:=h.len;have H:=h.U1 t x hx;have R:=h.P0 t x hx;have s:∀y:Vt,y.task=(t:Int)->y.nth=(x.nth:Int)->y.call=x.call->(y.kind=1\/y.kind=2)->∃(i n:Nat) (p:List Cl),y.task=i/\y.nth=n/\ps[i]?=some p/\p[n]?=some y.call:=λy D O S _=>⟨t,x.nth,p,D,O,ac,by rw[S];exact P⟩;have u:∀(k:Int) (cl:Cl) (rp:Rp),0<=k/\k<=3->cl.ok->rp.ok->nz ⟨k,x.task,x.nth,cl,rp,⟨0,0⟩,az⟩:=λk cl rp D O S=>⟨⟨cX (by show 0<=k/\k<=_;omega),cX (by show 0<=x.task/\x.task<=_;omega),cX (by show 0<=(x.nth:Int)/\(x.nth:Int)<=_;omega),O,S,BG,nR⟩,λq=>by have q2:k=6:=q;omega⟩;have l:0<=x.task/\x.task<32:=zO;have v:x.task<ps.length:=by have:=h.n;omega
 rw[Dn hx]
 rcases a6 with⟨B,a7⟩|⟨B,a8⟩
 ·have h1:(opNow c x).1=1:=by rw[a7]
  rw[tY h1];obtain⟨r,e1,_,_,_,q4,q5,_⟩:=kC hc0 x.call;have T:(aF c x.call).drop (x.at_+1)=r:=by rw[B,e1];rfl
  have am:(({x with B8:= -1,rep:=.of (aH x.call),at_:=x.at_+1}:Ci).event 1)=⟨1,x.task,x.nth,x.call,.zero,⟨0,0⟩,az⟩:=rfl;have an:(({x with B8:= -1,rep:=.of (aH x.call),at_:=x.at_+1}:Ci).event 2)=⟨2,x.task,x.nth,x.call,.of (aH x.call),⟨0,0⟩,az⟩:=rfl;rw[am,an];have F:(Rp.of (aH x.call)).ok:=fA (cX (by have:=vz x.call;omega));have U:(trV e.g.ev x.task).ok (aK ⟨1,x.task,x.nth,x.call,.zero,⟨0,0⟩,az⟩)=true/\(trV e.g.ev x.task).next (aK ⟨1,x.task,x.nth,x.call,.zero,⟨0,0⟩,az⟩)=⟨x.nth,1,0,0⟩:=by
   rw[b,H];unfold trC;rw[OB B];by_cases w:x.nth=0
   ·rw[OB w];simp[Tr.ok,Tr.is,Tr.next,aK,Tr.zero,w]
   ·rw[Oz w];simp[Tr.ok,Tr.is,Tr.next,aK]
  have ad:=h.L9.snoc (y:=⟨1,x.task,x.nth,x.call,.zero,⟨0,0⟩,az⟩) l U.1 (lA 1 rfl zP) (λq=>by cases q) (u 1 _ _ zO o dS) (s _ b rfl rfl) (λ_=>v);have G:trV (e.g.ev++[⟨1,x.task,x.nth,x.call,.zero,⟨0,0⟩,az⟩]) (t:Int)=⟨x.nth,1,0,0⟩:=by
   rw[jn,OB b.symm];exact U.2
  by_cases w:aH x.call=0
  ·rw[OB w];have L:=vu.2 (q5 w);refine h.K3 hx [⟨1,x.task,x.nth,x.call,.zero,⟨0,0⟩,az⟩] (by intro y j;simp at j;rw[j];exact b) rfl zS ad h.C6 ?_ ?_ F
   ·refine G.trans ?_;unfold trC;rw[Oz (PU _)];have:du (dZ c {x with B8:= -1,rep:=.of (aH x.call),at_:=x.at_+1})=true:=by show du ((aF c x.call).drop (x.at_+1))=true;rw[T];exact L
    rw[OB this]
   ·intro _ b2;exfalso;have ae:du ((aF c x.call).drop (x.at_+1))=false:=b2;rw[T,L]at ae
    cases ae
  ·rw[Oz w];have L:du r=false:=by rw[q4 w];rfl
   have d:(trV (e.g.ev++[⟨1,x.task,x.nth,x.call,.zero,⟨0,0⟩,az⟩]) x.task).ok (aK ⟨2,x.task,x.nth,x.call,.of (aH x.call),⟨0,0⟩,az⟩)=true/\(trV (e.g.ev++[⟨1,x.task,x.nth,x.call,.zero,⟨0,0⟩,az⟩]) x.task).next (aK ⟨2,x.task,x.nth,x.call,.of (aH x.call),⟨0,0⟩,az⟩)=⟨x.nth,2,0,0⟩:=by
    rw[b]at G ⊢;rw[G];simp[Tr.ok,Tr.is,Tr.next,aK]
   have X:cd c e.g.mp ⟨2,x.task,x.nth,x.call,.of (aH x.call),⟨0,0⟩,az⟩=(e.g.mp,true):=by
    unfold cd;have hd:doM c e.g.mp x.call=(e.g.mp,.of (aH x.call)):=by unfold doM;rw[OB w]
    simp[hd]
   have ba:=ad.snoc (y:=⟨2,x.task,x.nth,x.call,.of (aH x.call),⟨0,0⟩,az⟩) l d.1 X (λq=>by cases q) (u 2 _ _ zO o F) (s _ b rfl rfl) (λ_=>v);refine h.K3 hx [⟨1,x.task,x.nth,x.call,.zero,⟨0,0⟩,az⟩,⟨2,x.task,x.nth,x.call,.of (aH x.call),⟨0,0⟩,az⟩] (by intro y j;simp at j;rcases j with j|j<;>(rw[j];exact b)) (by simp[Gs.note]) zS ba h.C6 ?_ ?_ F
   ·show trV (e.g.ev++[_]++[_]) (t:Int)=_;rw[jn,OB b.symm];refine d.2.trans ?_;unfold trC;rw[Oz (PU _)];have:du (dZ c {x with B8:= -1,rep:=.of (aH x.call),at_:=x.at_+1})=false:=by show du ((aF c x.call).drop (x.at_+1))=false;rw[T];exact L
    rw[this];rfl
   ·intro _ _;exact vB rfl b rfl
 ·obtain⟨p1,p2,p3,p4,p5,p6⟩:=a8;have f:(opNow c x).1=2\/(opNow c x).1=3\/(opNow c x).1=4\/(opNow c x).1=5\/(opNow c x).1=6\/(opNow c x).1=7:=zO;have z:∀(g':Gs) (a:Nat) (wn:Int),g'.ev=e.g.ev->g'.mp=e.g.mp->a≠0->du ((aF c x.call).drop a)=du (dZ c x)->InvE c ps {e with g:=g',cs:=e.cs.set t {x with B8:=wn,at_:=a},used:=e.used+1}:=λg' a wn D O S a4=>by
   refine h.K3 hx [] zS (by rw[D,PC]) zS (by rw[D,O];exact h.L9) (by rw[O];exact h.C6) ?_ (λ_ b2=>?_) R
   ·rw[D,H];unfold trC;rw[Oz B,Oz S];show _=if du ((aF c x.call).drop a)=true then _ else _
    rw[a4]
   ·rw[D];exact h.J2 t x hx B (by rw[<-a4];exact b2)
  rcases f with f|f|f|f|f|f
  iterate 2
   ·rw[pN zO];exact z _ _ _ (dY _ _ _ _).2.2.2 (dY _ _ _ _).2.1 (PU _) (by rw[m,lS zO];rfl)
  ·rw[tZ f];obtain⟨d1,d2,d3,d4,d5⟩:=JU c e.g x.call;obtain⟨_,_,d6⟩:=xP e.g c hL.lk x.call;obtain⟨f1,f2⟩:=xT hc0 h.C6 o zO;have aa:(({x with B8:= -1,rep:=(e.g.E6 c x.call).2,at_:=x.at_+1}:Ci).event 2)=⟨2,x.task,x.nth,x.call,(e.g.E6 c x.call).2,⟨0,0⟩,az⟩:=rfl;rw[aa];have A:du (dZ c x)=true:=vu.2 ⟨_,by rw[m];exact Qc,f⟩;have aq:=mB.2 (p3 (.inl f)).1;have d:(trV e.g.ev x.task).ok (aK ⟨2,x.task,x.nth,x.call,(e.g.E6 c x.call).2,⟨0,0⟩,az⟩)=true/\(trV e.g.ev x.task).next (aK ⟨2,x.task,x.nth,x.call,(e.g.E6 c x.call).2,⟨0,0⟩,az⟩)=⟨x.nth,2,0,0⟩:=by
    rw[b,H];unfold trC;rw[Oz B,OB A];simp[Tr.ok,Tr.is,Tr.next,aK]
   have X:cd c e.g.mp ⟨2,x.task,x.nth,x.call,(e.g.E6 c x.call).2,⟨0,0⟩,az⟩=((doM c e.g.mp x.call).1,true):=by
    unfold cd;simp[d2]
   have hT:=h.L9.snoc (y:=⟨2,x.task,x.nth,x.call,(e.g.E6 c x.call).2,⟨0,0⟩,az⟩) l d.1 X (λq=>by cases q) (u 2 _ _ zO o (by rw[d2];exact f2)) (s _ b rfl rfl) (λ_=>v);have N:((e.g.E6 c x.call).1.note ⟨2,x.task,x.nth,x.call,(e.g.E6 c x.call).2,⟨0,0⟩,az⟩).ev=e.g.ev++[⟨2,x.task,x.nth,x.call,(e.g.E6 c x.call).2,⟨0,0⟩,az⟩]:=by
    show(e.g.E6 c x.call).1.ev++_=_;rw[d6]
   have af:((e.g.E6 c x.call).1.note ⟨2,x.task,x.nth,x.call,(e.g.E6 c x.call).2,⟨0,0⟩,az⟩).mp=(doM c e.g.mp x.call).1:=d1;refine h.K3 hx [⟨2,x.task,x.nth,x.call,(e.g.E6 c x.call).2,⟨0,0⟩,az⟩] (by intro y j;simp at j;rw[j];exact b) N zS (by rw[N,af];exact hT) (by rw[af];exact f1) ?_ (λ_ _=>?_) (by rw[d2];exact f2)
   ·rw[N,jn,OB b.symm,d.2];unfold trC;rw[Oz (PU _)];have:du (dZ c {x with B8:= -1,rep:=(e.g.E6 c x.call).2,at_:=x.at_+1})=false:=aq;rw[this];rfl
   ·rw[N];exact vB rfl b rfl
  ·rw[ua f];obtain⟨n,e1,e2,e3,e4,e5⟩:=p2 f;refine z _ _ _ (dA _ _ _).2.2.2 (dA _ _ _).2.1 (PU _) ?_;rw[m,lS zO];by_cases ag:(opNow c x).2<(c.st:Int)/\x.rep.err≠0
   ·rw[OB ag];have Q:x.at_+1<(aF c x.call).length:=by
     refine Pg λq=>e4 ?_;unfold fP;rw[Rc];omega
    rw[xO _ _ Q λq=>e5 (.inr q)];by_cases hl:(((aF c x.call).drop (x.at_+1)).headD (0,0)).2=lineN c
    ·rw[OB hl];have ah:(aF c x.call).drop (x.at_+1)=eS c:=e5 (.inr hl);have bf:(aF c x.call).drop (x.at_+3+1)=[(7,0)]:=by
      rw[show x.at_+3+1=x.at_+1+3 from by omega,<-Rs,ah];rfl
     have aw:fP c x=eS c:=ah;rw[bf,aw];rfl
    ·rw[Oz hl];rfl
   ·rw[Oz ag];rfl
  ·rw[ub f];obtain⟨k1,k2,k3,k4,k5⟩:=Dl hL.lk (av x.call.id);exact z _ _ _ k3 k4 (PU _) (by rw[m,lS zO];rfl)
  ·rw[uc f];have ax:=p5.1 f;have A:du (dZ c x)=false:=by rw[m,lS zO,ax];rfl
   have aa:(({x with B8:= -1}:Ci).event 3)=⟨3,x.task,x.nth,.zero,x.rep,⟨0,0⟩,az⟩:=rfl;rw[aa];have d:(trV e.g.ev x.task).ok (aK ⟨3,x.task,x.nth,.zero,x.rep,⟨0,0⟩,az⟩)=true/\(trV e.g.ev x.task).next (aK ⟨3,x.task,x.nth,.zero,x.rep,⟨0,0⟩,az⟩)=⟨x.nth,3,0,0⟩:=by
    rw[b,H];unfold trC;rw[Oz B,A];simp[Tr.ok,Tr.is,Tr.next,aK]
   have hT:=h.L9.snoc (y:=⟨3,x.task,x.nth,.zero,x.rep,⟨0,0⟩,az⟩) l d.1 (lA 3 rfl zP) (λ_=>by have:=h.J2 t x hx B A;rw[b];exact this) (u 3 _ _ zO Cl.I2 R) (λq=>by rcases q with q|q<;>cases q) (λ_=>v);refine h.K3 hx [⟨3,x.task,x.nth,.zero,x.rep,⟨0,0⟩,az⟩] (by intro y j;simp at j;rw[j];exact b) rfl zS hT h.C6 ?_ (λq=>absurd rfl q) R;show trV (e.g.ev++[_]) (t:Int)=_;rw[jn,OB b.symm,d.2];unfold trC;rw[OB rfl,Oz (PU _)];simp
def InvE.stepW(hc0:c.ok)(hL:lG c e)(hQ:gb c ps e)(h:InvE c ps e)(hu:e.used<=30000){x:Wi}(hx:e.ws[j]?=some x)(hrx:x.ready c e.g=true):InvE c ps (e.go c (e.cs.length+j)):=by
 have ai:=hL.Q1 j x hx;have hd:=ai.B6;have ay:=Wi.G1 hrx;have bi:=cz hx;have bj:=hL.I4 j x hx;have H:x.task=((e.cs.length+j:Nat):Int):=zO;have ac:=hL.lk.n32;have S:0<=x.task/\x.task<32:=by unfold En.count at ac;omega
 have d:=h.U2 j x hx;have f:=d;rw[<-H]at f;obtain⟨o,p,t,aa⟩:=h.K9 j x hx;have m:=RI aa;have bl:=h.n;rw[Do hx];have T:x.B6=0\/x.B6=1\/x.B6=2\/x.B6=3\/x.B6=4\/x.B6=5\/x.B6=6\/x.B6=7\/x.B6=8\/x.B6=9\/x.B6=10\/x.B6=11\/x.B6=12\/x.B6=14:=zO;have s:∀(g':Gs) (w:Wi),g'.ev=e.g.ev->g'.mp=e.g.mp->TrW (trV e.g.ev ((e.cs.length+j:Nat):Int)) w->WOk c (e.used+1) w->InvE c ps {e with g:=g',ws:=e.ws.set j w,used:=e.used+1}:=λg' w i O P a4=>
  h.M5 hx [] zS (by rw[i,PC]) zS (by rw[i,O];exact h.L9) (by rw[O];exact h.C6) (by rw[i];exact P) a4
 have A:∀(N:Int) (b:Bool) (F:Nat),TrW (trV e.g.ev ((e.cs.length+j:Nat):Int)) {x with B6:=F}->InvE c ps {e with g:=(ic e.g x.y N b F).1,ws:=e.ws.set j (ic e.g x.y N b F).2,used:=e.used+1}:=λN b F i=>
  s _ _ (dY _ _ _ _).2.2.2 (dY _ _ _ _).2.1 ⟨i.nth,i.hi,i.lo,i.idle,i.N9,i.D9,i.done,i.Q3⟩ ⟨o,p,t,m⟩
 have u:∀(N:Int) (F:Nat),TrW (trV e.g.ev ((e.cs.length+j:Nat):Int)) {x with B6:=F}->InvE c ps {e with g:=e.g.drop N x.task,ws:=e.ws.set j {x.y with B6:=F},used:=e.used+1}:=λN F i=>
  s _ _ (dA _ _ _).2.2.2 (dA _ _ _).2.1 ⟨i.nth,i.hi,i.lo,i.idle,i.N9,i.D9,i.done,i.Q3⟩ ⟨o,p,t,m⟩
 have L:x.at->∃G,bd G=true/\x.key=av G:=λha=>by
  obtain⟨y,_,h2,h3⟩:=hQ.ls x.key (hQ.bk _ (hQ.wb j x hx ha));exact⟨y.id,h2,h3⟩
 have B:∀(k:Int) (U:K2) (a:Adv),4<=k/\k<=7->(∃G,bd G=true/\U=av G)->a.ok->nz ⟨k,x.task,0,.zero,.zero,U,a⟩:=λk U a i O P=>by
  obtain⟨G,b1,b2⟩:=O;have al:U.ok:=by rw[b2];exact jh G (dn b1).2.1
  exact⟨⟨cX (by show 0<=k/\k<=_;omega),cX (by show 0<=x.task/\x.task<=_;omega),aD,Cl.I2,dS,al,P⟩,λ_=>⟨G,b1,b2⟩⟩
 have D:∀(y:Vt) (X:Mp) (g':Gs) (w:Wi),y.task=x.task->4<=y.kind->(trV e.g.ev x.task).ok (aK y)=true->cd c e.g.mp y=(X,true)->nz y->g'.ev=e.g.ev++[y]->g'.mp=X->fG c X->TrW ((trV e.g.ev x.task).next (aK y)) w->WOk c (e.used+1) w->InvE c ps {e with g:=g',ws:=e.ws.set j w,used:=e.used+1}:=λy X g' w i O P a4 a5 a6 a7 a8 a9 an=>by
  have d:=h.L9.snoc (y:=y) (by rw[i];exact S) (by rw[i];exact P) a4 (λq=>zO) a5 (λq=>zO) (λq=>zO);refine h.M5 hx [y] (by intro z hz;simp at hz;rw[hz,i];exact H) a6 zS (by rw[a6,a7];exact d) (by rw[a7];exact a8) ?_ an;rw[a6,jn,OB (by rw[i];exact H.symm),i];exact a9
 rcases T with l|l|l|l|l|l|l|l|l|l|l|l|l|l
 ·rw[qo l];exact A _ _ _ ⟨d.nth,d.hi,d.lo,λ_=>d.idle zO,λq=>by simp at q,λq=>by simp at q,λq=>by simp at q,λq=>by simp at q⟩
 ·have ab:=d.idle zO;have af:=f.idle zO
  cases hq:e.g.q.line with
  |nil=>
   rw[mz l hq];split
   ·exact s _ _ rfl rfl ⟨d.nth,d.hi,d.lo,λ_=>ab,λq=>by simp at q,λq=>by simp at q,λq=>by simp at q,λq=>by simp at q⟩ ⟨o,p,t,m⟩
   ·have Q:(e.g.sleep x.task).ev=e.g.ev/\(e.g.sleep x.task).mp=e.g.mp:=by unfold Gs.sleep;split<;>exact⟨rfl,rfl⟩
    exact s _ _ Q.1 Q.2 ⟨d.nth,d.hi,d.lo,λ_=>ab,λq=>by simp at q,λq=>by simp at q,λq=>by simp at q,λq=>by simp at q⟩ ⟨o,p,t,m⟩
  |cons k r=>
   rw[oJ l hq];have aq:=hQ.q.ld k (by rw[hq];simp);obtain⟨y,_,y2,y3⟩:=hQ.ls k (hQ.dk k aq);refine D ⟨4,x.task,0,.zero,.zero,k,az⟩ e.g.mp _ _ rfl (by show(4:Int)<=4;omega) ?_ (lA 4 rfl zP) (B 4 k az zO ⟨y.id,y2,y3⟩ nR) rfl rfl h.C6 ?_ ⟨o,p,by show k.ok;rw[y3];exact jh _ (dn y2).2.1,m⟩
   ·rcases af with q|q<;>simp[Tr.ok,Tr.is,Tr.next,aK,q,f.nth]
   ·exact⟨by simp[Tr.next,aK,f.nth],by simp[Tr.next,aK],by simp[Tr.next,aK],λq=>by simp at q,λ_=>by simp[Tr.next,aK],λq=>by simp at q,λq=>by simp at q,λq=>by simp at q⟩
 ·rw[qp l];exact u _ _ ⟨d.nth,d.hi,d.lo,λq=>by simp at q,λ_=>d.N9 zO,λq=>by simp at q,λq=>by simp at q,λq=>by simp at q⟩
 ·rw[qr l];exact A _ _ _ ⟨d.nth,d.hi,d.lo,λq=>by simp at q,λ_=>d.N9 zO,λq=>by simp at q,λq=>by simp at q,λq=>by simp at q⟩
 ·rw[qt l];have v:x.at:=⟨zO,zO⟩;have R:=f.N9 zO;have ag:((ap e.g.mp.ls x.key).getD .new).C6 c:=by
   cases hg:ap e.g.mp.ls x.key with
   |none=>exact lq c
   |some y=>exact h.C6.get hg
  refine D ⟨5,x.task,0,.zero,.zero,x.key,az⟩ e.g.mp _ _ rfl (by show(4:Int)<=5;omega) ?_ (lA 5 rfl zP) (B 5 _ az zO (L v) nR) rfl rfl h.C6 ?_ ⟨ag,p,t,m⟩
  ·simp[Tr.ok,Tr.is,Tr.next,aK,R,f.nth,f.hi,f.lo]
  ·exact⟨by simp[Tr.next,aK,f.nth],by simp[Tr.next,aK,f.hi],by simp[Tr.next,aK,f.lo],λq=>by simp at q,λq=>by simp at q,λ_=>by simp[Tr.next,aK],λq=>by simp at q,λq=>by simp at q⟩
 ·rw[qu l];exact u _ _ ⟨d.nth,d.hi,d.lo,λq=>by simp at q,λq=>by simp at q,λ_=>d.D9 zO,λq=>by simp at q,λq=>by simp at q⟩
 ·rw[qw l];have Q:=d.D9 zO;split
  ·rename_i ah;refine s _ _ rfl rfl ⟨d.nth,d.hi,d.lo,λq=>by simp at q,λq=>by simp at q,λ_=>Q,λq=>by simp at q,λq=>by simp at q⟩ ⟨o,Mz hc0 o (o.D8 ah.1),t,m⟩
  ·exact s _ _ rfl rfl ⟨d.nth,d.hi,d.lo,λq=>by simp at q,λq=>by simp at q,λq=>by simp at q,λ_=>.inl Q,λq=>by simp at q⟩ ⟨o,p,t,m⟩
 ·rw[qy l];exact A _ _ _ ⟨d.nth,d.hi,d.lo,λq=>by simp at q,λq=>by simp at q,λ_=>d.D9 zO,λq=>by simp at q,λq=>by simp at q⟩
 ·rw[qz l];have v:x.at:=⟨zO,zO⟩;have R:=f.D9 zO;have aw:cd c e.g.mp ⟨6,x.task,0,.zero,.zero,x.key,x.E0⟩=((eo c e.g.mp x.key x.E0).1,true):=by
   have hk:=hQ.bk _ (hQ.wb j x hx v);unfold dB at hk;unfold cd;rw[Oz (show ¬((6:Int)=2) by decide),OB rfl];unfold eo
   cases hg:ap e.g.mp.ls x.key with
   |none=>exact absurd hg hk
   |some y=>rfl
  refine D ⟨6,x.task,0,.zero,.zero,x.key,x.E0⟩ _ _ _ rfl (by show(4:Int)<=6;omega) ?_ aw (B 6 _ x.E0 zO (L v) p) rfl rfl (Gf h.C6 _ p) ?_ ⟨o,p,t,m⟩
  ·simp[Tr.ok,Tr.is,Tr.next,aK,R,f.nth,f.hi,f.lo]
  ·exact⟨by simp[Tr.next,aK,f.nth],by simp[Tr.next,aK,f.hi],by simp[Tr.next,aK,f.lo],λq=>by simp at q,λq=>by simp at q,λq=>by simp at q,λ_=>by simp[Tr.next,aK],λq=>by simp at q⟩
 ·rw[qA l];exact u _ _ ⟨d.nth,d.hi,d.lo,λq=>by simp at q,λq=>by simp at q,λq=>by simp at q,λ_=>d.done zO,λq=>by simp at q⟩
 ·rw[oK l];exact A _ _ _ ⟨d.nth,d.hi,d.lo,λq=>by simp at q,λq=>by simp at q,λq=>by simp at q,λ_=>d.done zO,λq=>by simp at q⟩
 ·rw[oL l];have v:x.at:=⟨zO,zO⟩;have R:=f.done zO;obtain⟨k1,k2,k3,k4,k5⟩:=xQ (hL.lk.same (g':=e.g.note (x.y.event 7)) rfl rfl rfl) x.key;refine D ⟨7,x.task,0,.zero,.zero,x.key,az⟩ e.g.mp _ _ rfl (by show(4:Int)<=7;omega) ?_ (lA 7 rfl zP) (B 7 _ az zO (L v) nR) k3 k4 h.C6 ?_ ⟨o,p,t,Nat.succ_le_succ aa⟩
  ·rcases R with q|q<;>simp[Tr.ok,Tr.is,Tr.next,aK,q,f.nth,f.hi,f.lo]
  ·exact⟨by simp[Tr.next,aK,f.nth],by simp[Tr.next,aK,f.hi],by simp[Tr.next,aK,f.lo],λq=>by simp at q,λq=>by simp at q,λq=>by simp at q,λq=>by simp at q,λ_=>by simp[Tr.next,aK]⟩
 ·rw[oM l];exact u _ _ ⟨d.nth,d.hi,d.lo,λ_=>d.idle zO,λq=>by simp at q,λq=>by simp at q,λq=>by simp at q,λq=>by simp at q⟩
 ·rw[oN l];exact u _ _ ⟨d.nth,d.hi,d.lo,λ_=>.inr (d.Q3 zO),λq=>by simp at q,λq=>by simp at q,λq=>by simp at q,λq=>by simp at q⟩
def InvE.go(hc0:c.ok)(hL:lG c e)(hQ:gb c ps e)(h:InvE c ps e)(hps:∀p∈ps,p.length<=1000/\∀y∈p,y.ok)(hu:e.used<=30000)(hr:e.ready c t=true):InvE c ps (e.go c t):=by
 rcases i6 hr with⟨x,b,a⟩|⟨j,x,rfl,b,a⟩
 ·exact h.R5 hc0 hL hQ hps hu b a
 ·exact h.stepW hc0 hL hQ hu b a
end
end Go.Fw
