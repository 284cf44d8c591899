/- Lemmas of this claim. Conditions: as each says. -/
import Derived.Test.YtpfmpaolgmoajaaGreatS05
set_option linter.unusedVariables false
set_option linter.unusedSimpArgs false
set_option maxHeartbeats 4000000
set_option maxRecDepth 20000
set_option linter.defProp false
open Go.Proofs.Tryz
namespace Go.Fw
open Go.Proofs Go.RowKit
variable (b:Nat)(sl:Value)(l:List Smp)(room:Nat)(x:Smp)(w:World)
def ag.C8{L:Nat->Prop}{w w':World}(h:ag L w w'){B s n:Nat}{e:TypeId}{v:Value}{xs:List Value}(hv:w.ownsRow B e s v n xs)(hL:∀k,v.ownBlock=some k->¬L k):w'.ownsRow B e s v n xs:=by
 refine⟨hv.1,?_⟩
 rcases hv.2 with a|⟨g,b,c,rfl,d,a,f⟩
 ·exact .inl a
 ·exact .inr ⟨g,b,c,rfl,d,(h.block g (Blk.lt a) (hL g rfl)).trans a,f⟩
def Id(h:eC w b sl l room)(hs:ea l)(hn:l.length<=500)(hroom:1<=room)(hrm:room<=500)(hx0:0<=x.tick)(hx1:0<=x.value)(hno:¬(placeF l x.tick<l.length/\(l.getD (placeF l x.tick) ⟨0,0⟩).tick=x.tick)):
  C 191 #[Z b 0,I x.tick,I x.value] w (tH w b sl l room x):=by
 have HR:=Z1 (λW=>iC x.tick x.value W);rw[show bG x.tick x.value=0 by unfold bG;rw[Oz zO,Oz zO]]at HR;have HP:=Z1 (λW (hW:eC W b sl l room)=>nY b sl l room x.tick W hW hs zO);have HX:Hid (fV room l x=if room<l.length+1 then(gm l (placeF l x.tick) x).drop 1 else gm l (placeF l x.tick) x):=Z1 (Oz hno);have a1:=ur l x.tick;have a2:=yT l (placeF l x.tick) x a1;have a3:∀j,sl.ownBlock=some j->j≠b:=λj G e=>by subst e;exact aB h.own h.B0 zP G
 have X:(¬placeF l x.tick<l.length)\/(placeF l x.tick<l.length/\∃(B o c:Nat) (y:Int),sl=.slice (some (Y B o)) l.length c/\B<w.heap.size/\w.cell? (Y B (o+placeF l x.tick*2))=some (I y)/\(y==x.tick)=false):=by
  by_cases r:placeF l x.tick<l.length
  ·refine .inr ⟨r,?_⟩;obtain⟨A,c,rfl,_,_⟩:=ak h.own;obtain⟨B,o,rfl,hB,T,_⟩:=il (an.C4 h.own) r;refine⟨B,o,c,_,rfl,hB,T,?_⟩;have:(l.getD (placeF l x.tick) ⟨0,0⟩)=l[placeF l x.tick]:=by simp[List.getD,r]
   rw[this]at hno;have:=λe=>hno ⟨r,e⟩
   simpa using this
  ·exact .inl r
 have HT:=Z1 X;generalize placeF l x.tick=k at*;have bc:=Z1 (λ(v:Value) (D:Nat) W (ho:W.ownsRow 0 66 2 v l.length (smps l)) (hv:Blk W D 66 #[I x.tick,I x.value]) aa=>BZ 0 l.length k v l x D W ho rfl zO a1 (OK _) hv aa);have H:=Z1 h;have bl:=Z1 a3;obtain⟨c0,c1⟩:=ao h.B0;have a4:=h.B0.lt;have ci:((room:Int)==0)=false:=zT;obtain⟨m,q⟩:=x;simp only at*;have bn:=ak h.own;obtain⟨A,c,bo,cj,bp⟩:=bn;obtain⟨s,F⟩:∃f:Nat->Prop,∀j,f j↔sl.ownBlock=some j:=⟨_,λ_=>Iff.rfl⟩;have L:=Z1 F;have bq:Hid (∀g,w.heap.size<=g->∀j,s j->j≠g):=Z1 λg hg j G=>by have:=(h.own.lt j ((F j).1 G)).2;omega
 clear F;have a5:=Z1 a2;clear hs hno h a3 X bp a2;subst bo;generalize al:l.length=n at*;have HN:=Z1 al;clear al
 rcases HT.o with r|⟨r,B,o,c',y,he,bs,T,hy⟩
 all_goals
  try (injection he with bt ck bu;subst bt bu)
  have cl:decide ((k:Int)<(n:Int))=decide (k<n):=zS
  go_in
  go_wp2_with (first|(go_at_call 139;refine(HR.o _).mono ?_;rintro e w1 ⟨rfl,rfl⟩)|(go_at_call 209;refine(HP.o _ H.o).mono ?_;rintro e w1 ⟨rfl,ap⟩;have N:=Z1 (ae ap (.cells #[I m,I q] 66));have e0:=(OF N.o (p:=Y b 0) a4).trans c0;have e1:=(OF N.o (p:=Y b 1) a4).trans c1;try (have e2:=(OF N.o (p:=Y B (o+k*2)) bs).trans T)))
  have ab:=H.o.up N.o;have ac:=Blk.A8 w1 66 #[I m,I q] rfl;have a6:=N.o;have aq:=bq.o w1.heap.size ap.size;clear c0 e0 e1 ap;try clear e2
  generalize w1.alloc (.cells #[I m,I q] 66)=W at*;generalize w1.heap.size=D at*;have U:=Z4 ab ac a6 aq;obtain⟨e0,e1⟩:=ao ab.B0;obtain⟨d0,d1⟩:=ao ac;have bx:=ab.B0.lt;have a7:=ac.lt;clear ab ac a6 aq;have hS:=(ag.refl s W).drew;have ar:¬s b:=λe=>bl.o b ((L.o b).1 e) rfl;have au:¬s D:=λe=>U.o.2.2.2 D e rfl;have fb:=U.o.1.B0.frozen 0;refine bW 9 (S:=λV=>ag s W V) zR zR hS ?_;simp only[OM,OO,ON,OQ];try simp only[zD,zE,Nat.reduceAdd,zG]
  refine zL ?_;refine zq 4 ?_ (λW hW=>?_) ?_;rotate_left
  ·have q0:=(OI (a:=Y b 0) (hW.block b bx ar)).trans e0;exact zf
  refine zL ?_;refine zq 6 ?_ (λW hW=>?_) ?_;rotate_left
  ·have q0:=(OI (a:=Y D 0) (hW.block D a7 au)).trans d0;have q1:=(OI (a:=Y D 1) (hW.block D a7 au)).trans d1;exact zf
  refine zo 7 λK hK=>?_;go_simp;refine zJ hK (hS.alloc _) ?_;refine zo 8 λK hK=>?_;go_simp;have ad:=U.o.1.own;rw[HN.o]at ad;refine(bc.o _ W.heap.size _ ((ad.alloc _).drew) ((Blk.A8 W _ _ rfl).drew) (Lt ad)).mono ?_;rintro e w4 ⟨v4,rfl,d,a8,O⟩;rw[HN.o]at d;obtain⟨A4,c4,rfl,_,_⟩:=ak d;have t:=dl (hS.alloc (.cells #[I m,I q] 66)) a8 (λ_ h=>h) λj G=>(L.o j).2 G;have i:=t.B0 U.o.1.B0 ar;have H4:=Z4 i d O t;obtain⟨T,g1⟩:=ao i;have gf:=i.frozen 0;clear a8 ad d O i;refine zJ hK t ?_;rw[bI];clear t hS ar au fb e0 e1 d0 d1;go_wp2;obtain⟨i,d,O,t⟩:=H4.o;have av:=aB d i zP;have P:=i.B4 0 (.slice A4 (n+1) c4);have a9:=bA (p:=Y b 0) d av (.slice A4 (n+1) c4);have ba:ag (λj=>j=b\/s j) W (w4.setCell (Y b 0) (.slice A4 (n+1) c4)):=(t.C3 λ_ h=>.inr h).setCell (p:=Y b 0) (.inl (.inl rfl)) _;have HV:=Z1 (O.imp_right (c:=∀k,(Value.slice A4 (n+1) c4).ownBlock=some k->w.heap.size<=k) λh k hk=>by have:=h k hk;have Q:=U.o.2.2.1.size;have cm:W.heap.size<=(W.alloc (.cells #[I m,I q] 66)).drew.heap.size:=(by show W.heap.size<=(W.alloc _).heap.size;simp);omega);clear i d O t av T g1 gf;generalize w4.setCell (Y b 0) (.slice A4 (n+1) c4)=W5 at*;have R:=Z3 P a9 ba;have T:=P.cell 0;have g1:=P.cell 1;simp at T g1;have f0:=P.frozen 0;clear P a9 ba;refine cM zR zR ?_;repeat still_step
  refine wpStill_nil ?_;by_cases af:room<n+1
  ·have aw:Hid (fV room l ⟨m,q⟩=(gm l k ⟨m,q⟩).drop 1):=Z1 (by rw[HX.o,OB af]);have ax:=sj 0 (n+1) 1 (.slice A4 (n+1) c4) (gm l k ⟨m,q⟩) W5.drew R.o.2.1.drew a5.o.symm zO zO;have bh:=Z1 ax;clear ax;go_wp2_with fail;refine bh.o.mono ?_;rintro e w6 ⟨v6,rfl,ay,u,bb⟩;have ah:=R.o.1.drew.grown u (λe=>aB R.o.2.1 R.o.1 zP e.symm);have f6:=ah.frozen 0;have g6:=ah.cell 0;simp at g6;obtain⟨A6,c6,rfl,_,_⟩:=ak ay;go_wp2;go_ret;have bi:=aB ay ah zP;refine⟨rfl,.slice A6 ((gm l k ⟨m,q⟩).length - 1) c6,?_,?_,?_⟩
   ·rw[aw.o];refine⟨by simpa using ah.B4 0 _,?_⟩;have:=bA (p:=Y b 0) ay bi (.slice A6 ((gm l k ⟨m,q⟩).length - 1) c6)
    simpa using this
   ·have b2:ag (λj=>j=b\/s j) w w6:=by
     have z:=(((ag.B5 U.o.2.2.1).trans R.o.2.2)).drew;refine⟨u.os.trans z.os,u.tape.trans z.tape,u.output.trans z.output,OJ z.size u.size,λj G aa=>?_⟩;refine(u.block j (OV G z.size) λe=>?_).trans (z.block j G aa)
     rcases HV.o with Q|Q
     ·exact aa (.inr ((L.o j).2 (Q▸e.symm)))
     ·have:=Q j e.symm;omega
    exact(b2.setCell (p:=Y b 0) (.inl (.inl rfl)) _).C3 λj h=>h.imp id (L.o j).1
   ·rcases HV.o with Q|Q
    ·exact .inl (bb.trans Q)
    ·exact .inr λk hk=>Q k (bb▸hk)
  ·have aw:Hid (fV room l ⟨m,q⟩=gm l k ⟨m,q⟩):=Z1 (by rw[HX.o,Oz af]);go_wp2;go_ret;refine⟨rfl,_,?_,?_,HV.o⟩
   ·rw[aw.o];exact⟨R.o.1.drew,by rw[a5.o];exact R.o.2.1.drew⟩
   ·exact(((ag.B5 U.o.2.2.1).trans R.o.2.2).drew).C3 λj h=>h.imp id (L.o j).1
def wE(h:eC w b sl l room)(hs:ea l)(hn:l.length<=500)(hroom:1<=room)(hrm:room<=500)(hx0:0<=x.tick)(hx1:0<=x.value):
  C 191 #[Z b 0,I x.tick,I x.value] w (tH w b sl l room x):=by
 by_cases a:placeF l x.tick<l.length/\(l.getD (placeF l x.tick) ⟨0,0⟩).tick=x.tick
 ·exact Eb b sl l room x w h hs zO hroom hx0 hx1 a.1 a.2
 ·exact Id b sl l room x w h hs hn hroom hrm hx0 hx1 a
def wJ(n:Nat)(w:World)(h1:1<=n)(h2:n<=256):C 190 #[I n] w λe w'=>e=.returned (Z w.heap.size 0)/\eC w' w.heap.size (.slice none 0 0) [] n/\w'.heap.size=w.heap.size+1/\M w w':=by
 go_in
 go_wp2;go_ret;exact⟨rfl,⟨Blk.A8 _ _ _ rfl,Pn _ _ _ _⟩,zS,ae (Oy _ _) _⟩
def jq(h:eC w b sl l room)(hn:l.length<=1000):
  C 130 #[Z b 0] w λe w'=>∃v,e=.returned v/\aL 2 w w' 66 v l.length (smps l):=by
 obtain⟨f,g⟩:=ao h.B0;obtain⟨A,c,rfl,_,_⟩:=ak h.own;have a:=kI (smps l) A c l.length w (an.C4 h.own) (jf l) zO;clear h
 go_in
 go_wp2_with fail;refine a.mono ?_;rintro e i ⟨v,rfl,d⟩;go_wp2;go_ret;exact⟨v,rfl,d⟩
def Cc(h:eC w b sl l room)(hn:l.length<=1000):
  C 322 #[Z b 0] w λe w'=>∃b' sl',e=.returned (Z b' 0)/\eC w' b' sl' l room/\w.heap.size<=b'/\(∀k,sl'.ownBlock=some k->w.heap.size<=k)/\M w w':=by
 have g:=jq b sl l room;have q:=Z1 g;have H:=Z1 h;obtain⟨t,r⟩:=ao h.B0;have i:=h.B0.lt;clear h g
 go_in
 go_wp2;have f:=(zi w);refine zH (S:=λV=>M w V) f ?_;refine zq 5 ?_ (λW hW=>?_) ?_;rotate_left
 ·have u:=(OF hW (p:=Y b 1) i).trans r;exact zf
 refine zo 1 λK hK=>?_;go_simp;refine(q.o w.drew (H.o.up f) hn).mono ?_;rintro e j ⟨v,rfl,d⟩;have m:=Z1 d;obtain⟨A,c,rfl,_,_⟩:=ak d.own;have a:=af f d.below;clear d;refine zJ hK a ?_;refine zo 7 λK hK=>?_;go_simp;have n:=ae a (.cells #[Value.slice A l.length c,I ↑room] 278);refine zJ hK n ?_;go_wp2;go_ret;refine⟨j.heap.size,_,rfl,⟨Blk.A8 j _ _ rfl,aP (m.o.own.alloc _) (OK _)⟩,a.size,λk s=>(m.o.own.lt k s).1,ae a _⟩
def Ed(t:Int)(w:World)(h:eC w b sl l room)(hs:ea l)(hn:l.length<=500):
  C 317 #[Z b 0,I t] w λe w'=>e=.returned (I (placeF l t:Nat))/\∃sl',eC w' b sl' (l.drop (placeF l t)) room/\ag (λj=>j=b\/sl.ownBlock=some j) w w'/\sl'.ownBlock=sl.ownBlock:=by
 have D:=Z1 (λW (hW:eC W b sl l room)=>nY b sl l room t W hW hs zO);have g:=ur l t;have F:=Z1 (λW (hW:eC W b sl l room)=>sj 0 l.length (placeF l t) sl l W hW.own rfl zO g);generalize placeF l t=k at*;have H:=Z1 h;have O:=h.B0.lt;have s:=aB h.own h.B0 zP;obtain⟨A,c,rfl,_,_⟩:=ak h.own;clear h hs g
 go_in
 go_wp2_with fail;refine zm (D.o _ H.o) λu i=>?_;have d:=H.o.up i;obtain⟨P,Q⟩:=ao d.B0;have m:=Z1 d;clear d;have q:=F.o u m.o;change C 211 #[.slice A l.length c,I 0,I k] u _ at q;have v:=Z1 q;clear q;go_wp2_with fail;refine v.o.mono ?_;rintro e G ⟨R,rfl,f,n,x⟩;have a:=m.o.B0.grown n (Pc s);have S:=a.frozen 0;have N:=a.cell 0;simp at N;obtain⟨y,z,rfl,_,_⟩:=ak f;go_wp2;go_ret;have r:=aB f a zP;refine⟨rfl,.slice y (l.length-k) z,⟨by simpa using a.B4 0 _,?_⟩,?_,x⟩
 ·have:=bA (p:=Y b 0) f r (.slice y (l.length-k) z);rw[PW];exact this
 ·have B:ag (λj=>j=b\/(Value.slice A l.length c).ownBlock=some j) w G:=dl ((ag.B5 (L:=λ_=>False) i)) n (λ_ h=>h.elim) λj e=>.inr e;exact B.setCell (p:=Y b 0) (.inl (.inl rfl)) _
end Go.Fw
