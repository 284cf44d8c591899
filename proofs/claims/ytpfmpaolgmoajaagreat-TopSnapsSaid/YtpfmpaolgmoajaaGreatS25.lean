/- Lemmas of this claim. Conditions: as each says. -/
import Derived.Test.YtpfmpaolgmoajaaGreatS21
set_option linter.unusedVariables false
set_option linter.unusedSimpArgs false
set_option maxHeartbeats 4000000
set_option maxRecDepth 20000
set_option linter.defProp false
open Go.Proofs.Tryz
namespace Go.Fw
open Go.RowKit open Go.Proofs hiding intOf
variable {w w':World}{c:Cg}{T:Nat->Tg}{wp p:Nat}{x:Ci}{vp:Value}
def Of:cU prog 250 2:=⟨zR,zR,zR⟩
def bp.wrap{W:World}{g':Gs}{x':Ci}(hK:ag (λb=>b=p) w W)(h:bp W w' c (ext T w.heap.size .free) wp g' p x'):bp w w' c T wp g' p x':=by
 obtain⟨f,g,i,j,k⟩:=h;refine⟨f,λb a=>?_,i,j,bL (hK.C3 λb e=>.inr e) k λb a e=>?_⟩
 ·have l:=g b (OV a hK.size)
  rwa [br T _ a]at l
 ·rcases e with e|e
  ·have d:=e;rw[br T _ a]at d;exact .inl d
  ·exact .inr e
def nA.fin{g:Gs}{a:Int}{vo:Value}{n:Nat}(hg:GAt w c T wp g)(h:NB w c T wp p x a vp vo)(hO:aI p w w')(hb:Blk w' p 201 (bv wp vp vo {x with at_:=n}))(hn:a= -1->n=0):bp w w' c T wp g p {x with at_:=n}:=by
 have hK:=hO.B7;refine⟨T,aW.refl _ _,hg.only h.tp hO,⟨vp,vo,hb,h.tp,hK.C8 h.prog λb e f=>aB h.prog h.B0 zP (f▸e),h.I5,?_,h.G4⟩,hK.C3 λb e=>.inr e⟩
 rcases h.ops with d|d
 ·exact .inl ⟨d.1,hn d.2⟩
 ·exact .inr (hK.C8 d λb e f=>aB d h.B0 zP (f▸e))
def MI(c:Cg)(x:Ci)(h1:x.at_+1<(aF c x.call).length)(h2:(be c x (x.at_+1)).2=lineN c->x.at_+4<(aF c x.call).length/\(be c x (x.at_+4)).2≠lineN c):jP c (aF c x.call) (aF c x.call).length x.at_=if(be c x (x.at_+1)).2=lineN c then x.at_+3 else x.at_:=by
 obtain⟨f,a⟩:∃f,(aF c x.call).length=f+1:=⟨(aF c x.call).length - 1,zO⟩;rw[a];unfold jP;by_cases e:(be c x (x.at_+1)).2=lineN c
 ·rw[OB e];have b:((aF c x.call).getD (x.at_+1) (0,0)).2=lineN c:=e;rw[OB b]
  cases f with
  |zero=>omega
  |succ f=>
   unfold jP;have d:¬((aF c x.call).getD (x.at_+3+1) (0,0)).2=lineN c:=(h2 e).2;rw[Oz d]
 ·rw[Oz e];exact Oz e
structure StI(w W:World)(c:Cg)(T:Nat->Tg)(wp p:Nat)(g:Gs)(x:Ci)(vp vo:Value)(b2 b3:Nat):Prop where
 I1:cI W c (ext T w.heap.size .free) wp p {x with B8:= -1} vp vo
 g_:GAt W c (ext T w.heap.size .free) wp g
 B7:ag (λb=>b=p) w W
 call:Blk W b2 73 x.call.arr
 op:Blk W b3 250 #[I (be c x x.at_).1,I (be c x x.at_).2]
 n2:w.heap.size<=b2
 n3:w.heap.size<=b3
 pl:p<w.heap.size
 tp:T p=.free
structure ND(w U:World)(c:Cg)(T:Nat->Tg)(wp p:Nat)(g:Gs)(x:Ci)(b2:Nat)(vp:Value)(L:Nat):Prop where
 ex:∃bo oo k,cI U c (ext T w.heap.size .free) wp p x vp (V bo oo L k)/\U.ownsRow 0 250 2 (V bo oo L k) L (d7 (aF c x.call))
 g_:GAt U c (ext T w.heap.size .free) wp g
 B7:ag (λb=>b=p) w U
 call:Blk U b2 73 x.call.arr
structure Lo(c:Cg)(g:Gs)(x:Ci):Prop where
 kind:1<=(be c x x.at_).1/\(be c x x.at_).1<=7
 zero:(be c x x.at_).1≠1->x.at_≠0
 Q6:(be c x x.at_).1=1->g.ev.length<=69000
 ask:(be c x x.at_).1=2\/(be c x x.at_).1=3->∃n:Nat,(be c x x.at_).2=n/\n<c.st+2/\(g.lock n).line.length<=900
 E6:(be c x x.at_).1=4->g.E5/\(g.E6 c x.call).2.ok/\(g.E6 c x.call).1.ev.length<=70000
 drop:(be c x x.at_).1=5->∃n:Nat,(be c x x.at_).2=n/\n<c.st+2/\g.held n x.task≠0/\(g.lock n).line.length<=900/\x.at_+1<(aF c x.call).length/\((be c x (x.at_+1)).2=lineN c->x.at_+4<(aF c x.call).length/\(be c x (x.at_+4)).2≠lineN c)
 add:(be c x x.at_).1=6->g.E5/\bd x.call.id=true/\(av x.call.id).ok
 end_:(be c x x.at_).1=7->g.ev.length<=69000
def rQ{L k bo oo:Nat}(h:cI w c T wp p x vp (V bo oo L k))(hL:(aF c x.call).length=L):w.ownsRow 0 250 2 (V bo oo L k) L (d7 (aF c x.call)):=by
 rcases h.ops with a|a
 ·have:(some (Y bo oo):Option Addr)=none:=by injection a.1
  cases this
 ·subst hL;exact a
def DD(w:World)(c:Cg)(hc:c.ok)(T:Nat->Tg)(wp p:Nat)(g:Gs)(x:Ci)(hg:GAt w c T wp g)(h:cY w c T wp p x)(hx:x.ok c)(hrd:x.ready g=true)(hL:(aF c x.call).length<=1000)(hy:Lo c g x):Calls prog 259 #[.pointer (some ⟨p,0,none⟩)] w λe w'=>e=.returned (.tuple #[])/\bp w w' c T wp (bT c g x).1 p (bT c g x).2:=by
 have r:x.over=false:=by
  unfold Ci.ready at hrd
  cases h9:x.over with
  |false=>rfl
  |true=>rw[h9]at hrd;cases hrd
 obtain⟨e8,_,cd⟩:=hx.call r;have HR:=Z1 (qU w c hc T wp p g x hg h hx);rw[hrd]at HR;obtain⟨vp,vo,h⟩:=h;obtain⟨b,o,B,rfl,cv⟩:=h.K4 e8;have HC:=Z1 cv;have HY:=Z1 hy;have cw:Hid (∀(U:World) (f i k:Nat),(U.ownsRow 0 250 2 (.slice (some ⟨f,i,none⟩) (aF c x.call).length k) (aF c x.call).length (d7 (aF c x.call)))->U.cell? ⟨f,i+x.at_*2,none⟩=some (.int .i64 (be c x x.at_).1)/\U.cell? ⟨f,i+x.at_*2+1,none⟩=some (.int .i64 (be c x x.at_).2)):=Z1 λU f i k hU=>by
  obtain⟨b9,o9,e,e1,e2⟩:=wo (k:=x.at_) (an.C4 hU) rfl hx.at_;injection e with e;injection e with e3 e4;subst e3 e4;exact⟨e1,e2⟩
 have ey:=Z1 (λU=>yk c hc x.call cd U);have gc:=hx.at_;have HG:=Z2 hg h;have cy:=h.B0.lt;have d1:=h.B0;have t:=Z1 hx;have d2:=Z1 cd;have cz:=Z1 r;have ge:(aF c x.call).length<=maxLen:=by unfold maxLen;omega
 generalize Q:(aF c x.call).length=L at*;clear h hg hx cv r cd hrd hy
 go_in
 go_wp2_with fail;refine zm HR.o λw1 bd=>?_;go_upto_region 1 with fail
 have d3:=bd.drew;have F:Below w.heap.size w w1.drew/\Blk w1.drew p 201 (bv wp (.slice (some ⟨b,o,none⟩) x.prog.length B) vo x):=⟨d3,(d1.later bd).drew⟩;refine ay (S:=λU=>Below w.heap.size w U/\Blk U p 201 (bv wp (.slice (some ⟨b,o,none⟩) x.prog.length B) vo x)) (by kernel_rfl) F ?_;simp only[zD,zE,Nat.reduceAdd,zG];refine zp 0 ?_;refine zp 1 ?_;refine zp 2 ?_;refine zq 3 ?_ (λW hW=>?_) ?_;rotate_left
 ·have q1:=wj hW.2;exact zf
 refine zp 4 ?_;refine zp 5 ?_;refine zp 6 ?_;refine zq 7 ?_ (λW hW=>?_) ?_;rotate_left
 ·have q4:=mZ hW.2;exact zf
 refine zp 8 ?_;refine zq 9 ?_ (λW hW=>?_) ?_;rotate_left
 ·refine bE gV (.tmp 15) ?_ ⟨b,o+x.nth*11,none⟩ ?_ x.call.arr rfl ?_;exact rfl;exact rfl;exact HC.o _ hW.1
 refine zo 10 λK hK=>?_;go_simp;have a1:Below w.heap.size w (w1.drew.alloc (.cells Cl.zero.arr 73))/\Blk (w1.drew.alloc (.cells Cl.zero.arr 73)) p 201 (bv wp (.slice (some ⟨b,o,none⟩) x.prog.length B) vo x):=⟨ae F.1 _,F.2.alloc _⟩;have ap:=Blk.A8 w1.drew 73 Cl.zero.arr rfl;refine hK _ _ a1 ?_;clear hK;refine zn ?_;refine zo 11 λK hK=>?_;refine bX gV (.tmp 2) (.tmp 16) rfl w1.drew.heap.size 0 (by rfl) x.call.arr (by rfl) ap rfl (by decide) (mF _) ?_;intro w2 bs c0;have ci:Below w.heap.size w w2/\Blk w2 p 201 (bv wp (.slice (some ⟨b,o,none⟩) x.prog.length B) vo x):=⟨c0.below a1.1 bd.size,c0.B0 a1.2 (PP (OV cy bd.size))⟩;refine hK _ _ ci ?_;clear hK;refine zn ?_;refine zd ?_;rw[show bH Cl.zero.arr 0 x.call.arr.toList=x.call.arr by kernel_rfl]at bs;have c5:w.heap.size<=w1.heap.size:=bd.size;have bs:Blk w2 w1.heap.size 73 x.call.arr:=bs;generalize gf:w1.heap.size=X at*;have HB:=Z3 ci bs c5;have cj:=Z1 c5;have q2:=s9 ci.2;obtain⟨bz,he,c6⟩:∃bz:Bool,(∀w,(binOp .eql 194 vo (.slice none 0 0)).run prog w=.ok (.bool bz) w)/\∀w,(eqGuard .eql 194 (.tmp 20) (.const (.slice none 0 0)) vo (.slice none 0 0)).run prog w=.ok () w:=by
  rcases HG.o.2.ops with r|r
  ·rw[r.1];exact⟨true,λw=>by kernel_rfl,λw=>by kernel_rfl⟩
  ·obtain⟨A,k,rfl,_,_⟩:=ak r
   cases A with
   |none=>exact⟨true,λw=>by kernel_rfl,λw=>by kernel_rfl⟩
   |some a=>exact⟨false,λw=>by kernel_rfl,λw=>by kernel_rfl⟩
 have HE:=Z1 he;clear F a1 ci ap c0 bs d3 bd c5 d1
 go_upto_if 21 with fail
 go_cut [] (λwx=>ND w wx c T wp p g x X (.slice (some ⟨b,o,none⟩) x.prog.length B) L)
 case first=>
  have ab:cI w2 c (ext T w.heap.size .free) wp p x (.slice (some ⟨b,o,none⟩) x.prog.length B) vo:=(HG.o.2.more λb hb=>br T _ hb).up HB.o.1.1
  rcases ab.ops with⟨rfl,d4⟩|cf
  ·have c7:bz=true:=by
    have G:=HE.o w2;have h2:(binOp .eql 194 (.slice none 0 0) (.slice none 0 0)).run prog w2=.ok (.bool true) w2:=by kernel_rfl
    rw[h2]at G;injection G with G;injection G with G;exact G.symm
   subst c7;clear he c6 q2;go_upto_region 3 with fail
   have d5:Below w2.heap.size w2 w2.drew:=(Oy w2.heap.size w2).drew;have ad:=Z3 ab d5 d4;have F:w2.drew.cell? ⟨p,0,none⟩=some (.pointer (some ⟨wp,0,none⟩))/\Blk w2.drew X 73 x.call.arr:=⟨iM ab.B0.drew,HB.o.2.1.drew⟩;clear ab d5 d4;refine ay (S:=λU=>U.cell? ⟨p,0,none⟩=some (.pointer (some ⟨wp,0,none⟩))/\Blk U X 73 x.call.arr) (by kernel_rfl) F ?_;simp only[zD,zE,Nat.reduceAdd,zG];refine zp 0 ?_;refine zp 1 ?_;refine zp 2 ?_;refine zp 3 ?_;refine zp 4 ?_;refine zp 5 ?_;refine zq 7 ?_ (λW hW=>?_) ?_;rotate_left
   ·refine bE gV (.tmp 2) ?_ ⟨X,0,none⟩ ?_ x.call.arr rfl ?_;exact rfl;exact rfl;exact bQ hW.2
   refine zo 6 λK hK=>?_;go_simp;refine zm (kW _ c _ wp g ((HG.o.1.free.up HB.o.1.1).up ad.o.2.1)) λs d6=>?_;have aq:=af ad.o.2.1 d6;have d8:s.cell? ⟨p,0,none⟩=some (.pointer (some ⟨wp,0,none⟩))/\Blk s X 73 x.call.arr:=⟨iM (ad.o.1.B0.later aq),HB.o.2.1.later aq⟩;refine hK _ _ d8 ?_;clear hK;refine zn ?_;refine zo 8 λK hK=>?_;go_simp
   (refine(ey.o _).mono ?_)
   rintro e4 w4 ⟨v4,rfl,bf⟩;rw[Q]at bf;have ap:=bf.below;have a3:=af aq ap;have ar:=ad.o.1.B0.later a3;have c9:w4.cell? ⟨p,0,none⟩=some (.pointer (some ⟨wp,0,none⟩))/\Blk w4 X 73 x.call.arr:=⟨iM ar,HB.o.2.1.later a3⟩;refine hK _ _ c9 ?_;clear hK;obtain⟨A4,k4,rfl,_,_,d9⟩:=bf.form;obtain⟨f,i,rfl,_,_⟩:=wo (k:=0) d9 Q.symm (by omega);have da:=aP bf.own (OK _);have db:=λb e=>(bf.own.lt b e).1;have ea:w.heap.size<=s.heap.size:=OJ HB.o.1.1.size aq.size;have HZ:=Z4 (And.intro ar c9.2) da a3 (show ∀b,(Value.slice (some ⟨f,i,none⟩) L k4).ownBlock=some b->w.heap.size<=b from λb e=>OJ ea (db b e));have q2:=s9 ar;have q5:w4.cell? ⟨p,5,none⟩=some (.int .i64 (x.at_:Int)):=ar.cell 5;have f2:=ar.frozen 2;have f5:=ar.frozen 5;have dc:p≠X:=λe=>by have:=cj.o;omega
   clear da db ea d9 bf aq a3 d6 ap;refine zn ?_;refine zp 9 ?_;refine zp 10 ?_;refine zo 11 λK hK=>?_;go_simp;have bg:(w4.setCell ⟨p,2,none⟩ (.slice (some ⟨f,i,none⟩) L k4)).cell? ⟨p,0,none⟩=some (.pointer (some ⟨wp,0,none⟩))/\Blk (w4.setCell ⟨p,2,none⟩ (.slice (some ⟨f,i,none⟩) L k4)) X 73 x.call.arr:=⟨(ar.B4 2 (.slice (some ⟨f,i,none⟩) L k4)).cell 0,(aI.B4 p w4 2 _).B0 HZ.o.1.2 dc.symm⟩;refine hK _ _ bg ?_;clear hK;refine zn ?_;refine zp 12 ?_;refine zp 13 ?_;refine zo 14 λK hK=>?_;go_simp;have O:((w4.setCell ⟨p,2,none⟩ (.slice (some ⟨f,i,none⟩) L k4)).setCell ⟨p,5,none⟩ (.int .i64 0)).cell? ⟨p,0,none⟩=some (.pointer (some ⟨wp,0,none⟩))/\Blk ((w4.setCell ⟨p,2,none⟩ (.slice (some ⟨f,i,none⟩) L k4)).setCell ⟨p,5,none⟩ (.int .i64 0)) X 73 x.call.arr:=⟨((ar.B4 2 (.slice (some ⟨f,i,none⟩) L k4)).B4 5 (.int .i64 0)).cell 0,(aI.B4 p _ 5 _).B0 bg.2 dc.symm⟩;refine hK _ _ O ?_;clear hK;refine zn ?_;refine zd ?_;clear F d8 c9 bg O q2 q5 f2 f5;go_wp2;go_meet;have fd:({x with at_:=0}:Ci)=x:=by
    have:=ad.o.2.2
    cases x
    simp_all
   have hO:aI p w4 ((w4.setCell ⟨p,2,none⟩ (.slice (some ⟨f,i,none⟩) L k4)).setCell ⟨p,5,none⟩ (.int .i64 0)):=(aI.B4 _ _ _ _).trans (aI.B4 _ _ _ _);have H:=(HZ.o.1.1.B4 2 (.slice (some ⟨f,i,none⟩) L k4)).B4 5 (.int .i64 0);have dd:Blk ((w4.setCell ⟨p,2,none⟩ (.slice (some ⟨f,i,none⟩) L k4)).setCell ⟨p,5,none⟩ (.int .i64 0)) p 201 (bv wp (.slice (some ⟨b,o,none⟩) x.prog.length B) (.slice (some ⟨f,i,none⟩) L k4) {x with at_:=0}):=H;rw[fd]at dd;have eb:=ad.o.1.up HZ.o.2.2.1;have ec:=eb.own hO dd rfl (.inr (by rw[Q];exact HZ.o.2.1)) λb e=>cC T _ (HZ.o.2.2.2 b e);exact⟨⟨f,i,k4,ec,rQ ec Q⟩,((HG.o.1.free.up HB.o.1.1).up HZ.o.2.2.1).only eb.tp hO,(ag.B5 (af HB.o.1.1 HZ.o.2.2.1)).trans hO.B7,hO.B0 HZ.o.1.2 (by have:=cj.o;omega)⟩
  ·obtain⟨A,k,rfl,ed,fe⟩:=ak cf;obtain⟨f,i,rfl,_,_⟩:=wo (k:=0) (an.C4 cf) rfl (by omega);have c7:bz=false:=by
    have G:=HE.o w2;have h2:∀n k:Nat,(binOp .eql 194 (.slice (some ⟨f,i,none⟩) n k) (.slice none 0 0)).run prog w2=.ok (.bool false) w2:=λn k=>by kernel_rfl
    rw[h2]at G;injection G with G;injection G with G;exact G.symm
   subst c7;have ad:=Z1 ab;rw[Q]at ad;clear he c6 ab cf ed fe q2;go_wp2;go_meet;exact⟨⟨f,i,k,ad.o,rQ ad.o Q⟩,HG.o.1.free.up HB.o.1.1,ag.B5 HB.o.1.1,HB.o.2.1⟩
 case rest=>
  obtain⟨⟨f,i,k,ab,ck⟩,ee,cl,ef⟩:=hcut;have aj:=Z4 ab ee cl ef;have q6:=td ab.B0;have f6:=ab.B0.frozen 6;have ed:L<=k:=by
   obtain⟨A9,k9,e9,h9,_⟩:=ak ck;injection e9 with _ _ gg;omega
  clear ab ee cl ef ck HB he c6 q2 HE;go_upto_region 5 with fail
  have bu:=aI.B4 p wc 6 (.int .i64 (-1));have cm:cI (wc.setCell ⟨p,6,none⟩ (.int .i64 (-1))) c (ext T w.heap.size .free) wp p {x with B8:= -1} (.slice (some ⟨b,o,none⟩) x.prog.length B) (.slice (some ⟨f,i,none⟩) L k):=aj.o.1.own bu (vG wp _ _ x (-1)▸aj.o.1.B0.B4 6 (.int .i64 (-1))) rfl aj.o.1.ops aj.o.1.G4;have eg:=aj.o.2.1.only aj.o.1.tp bu;have eh:ag (λb=>b=p) w (wc.setCell ⟨p,6,none⟩ (.int .i64 (-1))):=aj.o.2.2.1.trans bu.B7;have de:=bu.B0 aj.o.2.2.2 (by have:=cj.o;omega);have df:=aj.o.1.tp;rw[br T _ cy]at df;generalize wc.setCell ⟨p,6,none⟩ (.int .i64 (-1))=s at*;have bm:s.ownsRow 0 250 2 (.slice (some ⟨f,i,none⟩) L k) L (d7 (aF c x.call)):=rQ (x:={x with B8:= -1}) cm Q;have dg:=Z1 bm;have HZ:=Z5 cm eg eh de df;have F:Blk s.drew p 201 (bv wp (.slice (some ⟨b,o,none⟩) x.prog.length B) (.slice (some ⟨f,i,none⟩) L k) {x with B8:= -1})/\s.drew.cell? ⟨f,i+x.at_*2,none⟩=some (.int .i64 (be c x x.at_).1)/\s.drew.cell? ⟨f,i+x.at_*2+1,none⟩=some (.int .i64 (be c x x.at_).2):=⟨cm.B0.drew,cw.o s _ _ _ bm⟩;clear bu cm eg eh de df bm q6 f6;refine ay (S:=λU=>Blk U p 201 (bv wp (.slice (some ⟨b,o,none⟩) x.prog.length B) (.slice (some ⟨f,i,none⟩) L k) {x with B8:= -1})/\U.cell? ⟨f,i+x.at_*2,none⟩=some (.int .i64 (be c x x.at_).1)/\U.cell? ⟨f,i+x.at_*2+1,none⟩=some (.int .i64 (be c x x.at_).2)) (by kernel_rfl) F ?_;simp only[zD,zE,Nat.reduceAdd,zG];refine zp 0 ?_;refine zp 1 ?_;refine zp 2 ?_;refine zq 3 ?_ (λW hW=>?_) ?_;rotate_left
  ·have q2:=s9 hW.1;exact zf
  refine zp 4 ?_;refine zp 5 ?_;refine zp 6 ?_;refine zq 7 ?_ (λW hW=>?_) ?_;rotate_left
  ·have q5:W.cell? ⟨p,5,none⟩=some (.int .i64 (x.at_:Int)):=hW.1.cell 5;exact zf
  refine zp 8 ?_;refine zp 9 ?_;refine zo 10 λK hK=>?_;go_simp;have a1:Blk (s.drew.alloc (.cells #[.int .i64 0,.int .i64 0] 250)) p 201 (bv wp (.slice (some ⟨b,o,none⟩) x.prog.length B) (.slice (some ⟨f,i,none⟩) L k) {x with B8:= -1})/\(s.drew.alloc (.cells #[.int .i64 0,.int .i64 0] 250)).cell? ⟨f,i+x.at_*2,none⟩=some (.int .i64 (be c x x.at_).1)/\(s.drew.alloc (.cells #[.int .i64 0,.int .i64 0] 250)).cell? ⟨f,i+x.at_*2+1,none⟩=some (.int .i64 (be c x x.at_).2):=⟨F.1.alloc _,cw.o _ _ _ _ ((aN dg.o ((Oy s.heap.size s).drew)).alloc _)⟩;have ap:=Blk.A8 s.drew 250 #[.int .i64 0,.int .i64 0] rfl;refine hK _ _ a1 ?_;clear hK;refine zn ?_;refine zo 11 λK hK=>?_;refine bX Of (.tmp 3) (.tmp 47) rfl s.drew.heap.size 0 (by rfl) #[.int .i64 (be c x x.at_).1,.int .i64 (be c x x.at_).2] (by rfl) ap rfl (by decide) (by simp[Value.oneCell']) ?_;intro m ei ej;have aq:Below s.heap.size s s.drew:=(Oy s.heap.size s).drew;have a3:Below s.heap.size s (s.drew.alloc (.cells #[.int .i64 0,.int .i64 0] 250)):=ae aq _;have a4:Below s.heap.size s m:=ej.below a3 (OA _);have bg:Blk m p 201 (bv wp (.slice (some ⟨b,o,none⟩) x.prog.length B) (.slice (some ⟨f,i,none⟩) L k) {x with B8:= -1})/\m.cell? ⟨f,i+x.at_*2,none⟩=some (.int .i64 (be c x x.at_).1)/\m.cell? ⟨f,i+x.at_*2+1,none⟩=some (.int .i64 (be c x x.at_).2):=⟨HZ.o.1.B0.later a4,cw.o _ _ _ _ (aN dg.o a4)⟩;refine hK _ _ bg ?_;clear hK;refine zn ?_;refine zd ?_;have ff:w.heap.size<=s.heap.size:=HZ.o.2.2.1.size;have a5:Blk m s.heap.size 250 #[.int .i64 (be c x x.at_).1,.int .i64 (be c x x.at_).2]:=ei;have q:Hid (StI w m c T wp p g x (.slice (some ⟨b,o,none⟩) x.prog.length B) (.slice (some ⟨f,i,none⟩) L k) X s.heap.size):=Z1 ⟨HZ.o.1.up a4,HZ.o.2.1.up a4,HZ.o.2.2.1.trans (ag.B5 a4),HZ.o.2.2.2.1.later a4,a5,cj.o,ff,cy,HZ.o.2.2.2.2⟩;have o0:m.cell? ⟨s.heap.size,0,none⟩=some (.int .i64 (be c x x.at_).1):=a5.cell 0;have o1:m.cell? ⟨s.heap.size,1,none⟩=some (.int .i64 (be c x x.at_).2):=a5.cell 1;have gh:=a5.lt;clear F a1 bg aq a3 a4 ap ei ej HZ dg a5;generalize s.heap.size=b3 at*;have fg:=HY.o.kind;have d0:(be c x x.at_).1=1\/(be c x x.at_).1=2\/(be c x x.at_).1=3\/(be c x x.at_).1=4\/(be c x x.at_).1=5\/(be c x x.at_).1=6\/(be c x x.at_).1=7:=by omega
  clear fg
  rcases d0 with D|D|D|D|D|D|D
  ·rw[D]at o0;have au:=HY.o.Q6 D;have fh:=Z1 (AK m c hc _ wp p g {x with B8:= -1} _ _ q.o.g_ q.o.I1 ⟨t.o.prog,t.o.len,t.o.task,t.o.nth,t.o.at_,.inl rfl,t.o.rep⟩ cz.o au {x with B8:= -1,rep:=.of (aH x.call)} rfl);have fi:Hid (bT c g x=(if aH x.call=0 then g.note (({x with B8:= -1,rep:=.of (aH x.call),at_:=x.at_+1}:Ci).event 1)else(g.note (({x with B8:= -1,rep:=.of (aH x.call),at_:=x.at_+1}:Ci).event 1)).note (({x with B8:= -1,rep:=.of (aH x.call),at_:=x.at_+1}:Ci).event 2),{x with B8:= -1,rep:=.of (aH x.call),at_:=x.at_+1})):=Z1 (by
    have G:((aF c x.call).getD x.at_ (0,0)).1=1:=D;unfold bT;simp only[G,OB])
   have hw:IntKind.i64.wrap ((x.at_:Int)+1)=(x.at_:Int)+1:=by rw[OX];omega
   clear au;go_wp2_with fail;refine fh.o.mono ?_;rintro e6 u ⟨rfl,T6,v,l,j,z⟩;have d:=Z4 v l j z;have q5:u.cell? ⟨p,5,none⟩=some (.int .i64 (x.at_:Int)):=j.B0.cell 5;have f5:=j.B0.frozen 5;clear v l j z;go_wp2;refine Pf (Pb (by kernel_rfl) _ _ _) rfl ?_;have H:=d.o.2.2.1.B0.B4 5 (.int .i64 ((x.at_:Int)+1));have N:=bp.own (x':={x with B8:= -1,rep:=.of (aH x.call),at_:=x.at_+1}) d.o.2.1 d.o.2.2.1 (aI.B4 _ _ _ _) H rfl (.inr (by
    rcases d.o.2.2.1.ops with r|r
    ·have:(some ⟨f,i,none⟩:Option Addr)=none:=by injection r.1
     cases this
    ·exact r)) d.o.2.2.1.G4
   refine⟨rfl,bp.wrap q.o.B7 ?_⟩;rw[fi.o];exact bp.trans d.o.1 d.o.2.2.2 N
  ·rw[D]at o0;have h0:=HY.o.zero (by omega);obtain⟨n,hn,b0,hf⟩:=HY.o.ask (.inl D);have al:=Z1 hn;clear hn;have ch:=Z1 (vH m c hc _ wp p g {x with B8:= -1} q.o.g_ ⟨_,_,q.o.I1⟩ ⟨t.o.prog,t.o.len,t.o.task,t.o.nth,t.o.at_,.inl rfl,t.o.rep⟩ 2 n b0 hf);have dh:Hid (bT c g x=((g.ask n x.task false).1,{x with B8:=if(g.ask n x.task false).2=true then -1 else(n:Int),at_:=x.at_+1})):=Z1 (by
    have G:(aF c x.call).getD x.at_ (0,0)=(2,(n:Int)):=Prod.ext D al.o;unfold bT;simp only[G];simp)
   clear hf;rw[al.o]at o1;go_wp2_with fail;refine zm ch.o λu b6=>?_;have P:=Z1 b6;clear b6;obtain⟨T6,v,l,⟨aw,ax,j⟩,z⟩:=P.o;have d:=Z4 v l j z;have q5:u.cell? ⟨p,5,none⟩=some (.int .i64 (x.at_:Int)):=j.B0.cell 5;have f5:=j.B0.frozen 5;have hw:IntKind.i64.wrap ((x.at_:Int)+1)=(x.at_:Int)+1:=by rw[OX];omega
   clear v l j z;go_wp2;refine Pf (Pb (by kernel_rfl) _ _ _) rfl ?_;have H:=d.o.2.2.1.B0.B4 5 (.int .i64 ((x.at_:Int)+1));have N:=bp.own (x':={x with B8:=if(g.ask n x.task (decide ((2:Int)=3))).2=true then -1 else(n:Int),at_:=x.at_+1}) d.o.2.1 d.o.2.2.1 (aI.B4 _ _ _ _) H rfl (.inr (by
    rcases d.o.2.2.1.ops with r|r
    ·exact absurd r.2 h0
    ·exact r)) d.o.2.2.1.G4
   refine⟨rfl,bp.wrap q.o.B7 ?_⟩;rw[dh.o];exact bp.trans d.o.1 d.o.2.2.2 N
  ·rw[D]at o0;have h0:=HY.o.zero (by omega);obtain⟨n,hn,b0,hf⟩:=HY.o.ask (.inr D);have al:=Z1 hn;clear hn;have ch:=Z1 (vH m c hc _ wp p g {x with B8:= -1} q.o.g_ ⟨_,_,q.o.I1⟩ ⟨t.o.prog,t.o.len,t.o.task,t.o.nth,t.o.at_,.inl rfl,t.o.rep⟩ 3 n b0 hf);have dh:Hid (bT c g x=((g.ask n x.task true).1,{x with B8:=if(g.ask n x.task true).2=true then -1 else(n:Int),at_:=x.at_+1})):=Z1 (by
    have G:(aF c x.call).getD x.at_ (0,0)=(3,(n:Int)):=Prod.ext D al.o;unfold bT;simp only[G];simp)
   clear hf;rw[al.o]at o1;go_wp2_with fail;refine zm ch.o λu b6=>?_;have P:=Z1 b6;clear b6;obtain⟨T6,v,l,⟨aw,ax,j⟩,z⟩:=P.o;have d:=Z4 v l j z;have q5:u.cell? ⟨p,5,none⟩=some (.int .i64 (x.at_:Int)):=j.B0.cell 5;have f5:=j.B0.frozen 5;have hw:IntKind.i64.wrap ((x.at_:Int)+1)=(x.at_:Int)+1:=by rw[OX];omega
   clear v l j z;go_wp2;refine Pf (Pb (by kernel_rfl) _ _ _) rfl ?_;have H:=d.o.2.2.1.B0.B4 5 (.int .i64 ((x.at_:Int)+1));have N:=bp.own (x':={x with B8:=if(g.ask n x.task (decide ((3:Int)=3))).2=true then -1 else(n:Int),at_:=x.at_+1}) d.o.2.1 d.o.2.2.1 (aI.B4 _ _ _ _) H rfl (.inr (by
    rcases d.o.2.2.1.ops with r|r
    ·exact absurd r.2 h0
    ·exact r)) d.o.2.2.1.G4
   refine⟨rfl,bp.wrap q.o.B7 ?_⟩;rw[dh.o];exact bp.trans d.o.1 d.o.2.2.2 N
  ·rw[D]at o0;have h0:=HY.o.zero (by omega);obtain⟨a7,di,au⟩:=HY.o.E6 D;have fk:=Z1 (λU (hU:Below m.heap.size m U)=>ME U c hc (ext T w.heap.size .free) wp g (q.o.g_.up hU) a7 x.call d2.o);have fl:=Z1 (λU T' (y:Ci) (hy:y={x with B8:= -1,rep:=(g.E6 c x.call).2}) (hU:GAt U c T' wp (g.E6 c x.call).1) (hC:cY U c T' wp p y)=>kX 2 (.inr (.inl rfl)) U c hc T' wp p _ y hU hC (by rw[hy];exact⟨t.o.prog,t.o.len,t.o.task,t.o.nth,t.o.at_,.inl rfl,di⟩) (by rw[hy];exact cz.o) au);have fm:Hid (bT c g x=((g.E6 c x.call).1.note (({x with B8:= -1,rep:=(g.E6 c x.call).2,at_:=x.at_+1}:Ci).event 2),{x with B8:= -1,rep:=(g.E6 c x.call).2,at_:=x.at_+1})):=Z1 (by
    have G:((aF c x.call).getD x.at_ (0,0)).1=4:=D;unfold bT;simp only[G];simp)
   generalize (g.E6 c x.call).1=gd at*;generalize (g.E6 c x.call).2=rp at*;have bh:=q.o.call;clear a7 au di;go_upto_region 13 with fail
   have R:Below m.heap.size m m.drew:=(Oy m.heap.size m).drew;have F:Blk m.drew p 201 (bv wp (.slice (some ⟨b,o,none⟩) x.prog.length B) (.slice (some ⟨f,i,none⟩) L k) {x with B8:= -1})/\Blk m.drew X 73 x.call.arr:=⟨q.o.I1.B0.drew,bh.drew⟩;refine bW 9 (S:=λU=>Blk U p 201 (bv wp (.slice (some ⟨b,o,none⟩) x.prog.length B) (.slice (some ⟨f,i,none⟩) L k) {x with B8:= -1})/\Blk U X 73 x.call.arr) (by kernel_rfl) (by kernel_rfl) F ?_;simp only[OM,OO,ON,OQ];try simp only[zD,zE,Nat.reduceAdd,zG]
   refine zp 0 ?_;refine zp 1 ?_;refine zp 2 ?_;refine zp 3 ?_;refine zp 4 ?_;refine zq 5 ?_ (λW hW=>?_) ?_;rotate_left
   ·refine bE gV (.tmp 2) ?_ ⟨X,0,none⟩ ?_ x.call.arr rfl ?_;exact rfl;exact rfl;exact bQ hW.2
   refine zo 6 λK hK=>?_;go_simp;refine zm (fk.o _ R) λu am=>?_;have O:Blk u p 201 (bv wp (.slice (some ⟨b,o,none⟩) x.prog.length B) (.slice (some ⟨f,i,none⟩) L k) {x with B8:= -1})/\Blk u X 73 x.call.arr:=⟨am.E8 F.1 q.o.pl q.o.tp,am.B0 F.2 q.o.n2⟩;refine hK _ _ O ?_;clear hK;refine zn ?_;refine zp 7 ?_;refine zp 8 ?_;refine zd ?_;rw[bI];obtain⟨T6,v,l,⟨aw,ax,j⟩,z⟩:=bp.after R (bp.F4 ⟨_,_,q.o.I1.up R⟩ am);have dj:rp.val=.agg rp.arr:=rfl;rw[dj];have b7:=j.B0;have ao:=Z4 v l j z;have ek:rp.arr.size=13:=rfl;have el:=dy rp;clear F O am R bh v l j z dj;generalize dk:rp.arr=ra at*;have fn:=Z1 dk;clear dk
   go_wp2_with (refine dW aA rfl (.tmp 70) (.tmp 68) rfl p 7 (by rfl) ra (by rfl) b7 ek (by show 7+13<=20;decide) el ?_;intro w8 bi em)
   rw[<-fn.o,BH]at bi;have en:=bp.own ao.o.2.1 ao.o.2.2.1 em bi rfl ao.o.2.2.1.ops ao.o.2.2.1.G4;obtain⟨T8,c1,c2,c3,c4⟩:=bp.trans ao.o.1 ao.o.2.2.2 en;refine zm (fl.o _ _ _ rfl c2 c3) λw9 eo=>?_;have P:=Z1 (bp.trans c1 c4 (bp.F4 c3 eo));clear c1 c2 c3 c4 eo en bi em b7 ek el;obtain⟨T6,v,l,⟨aw,ax,j⟩,z⟩:=P.o;have d:=Z4 v l j z;have q5:w9.cell? ⟨p,5,none⟩=some (.int .i64 (x.at_:Int)):=j.B0.cell 5;have f5:=j.B0.frozen 5;have hw:IntKind.i64.wrap ((x.at_:Int)+1)=(x.at_:Int)+1:=by rw[OX];omega
   clear v l j z;go_wp2;refine Pf (Pb (by kernel_rfl) _ _ _) rfl ?_;have H:=d.o.2.2.1.B0.B4 5 (.int .i64 ((x.at_:Int)+1));have N:=bp.own (x':={x with B8:= -1,rep:=rp,at_:=x.at_+1}) d.o.2.1 d.o.2.2.1 (aI.B4 _ _ _ _) H rfl (.inr (by
    rcases d.o.2.2.1.ops with r|r
    ·exact absurd r.2 h0
    ·exact r)) d.o.2.2.1.G4
   refine⟨rfl,bp.wrap q.o.B7 ?_⟩;rw[fm.o];exact bp.trans d.o.1 d.o.2.2.2 N
  ·rw[D]at o0;have h0:=HY.o.zero (by omega);obtain⟨n,hn,b0,hh,hf,dp,dq⟩:=HY.o.drop D;have al:=Z1 hn;clear hn;have cn:=Z3 dp dq (MI c x dp dq);rw[Q]at cn;clear dp dq;have fq:=Z1 (λU (hU:Below m.heap.size m U)=>vD U c hc (ext T w.heap.size .free) wp g (q.o.g_.up hU) n b0 x.task (by have:=t.o.task;constructor<;>omega) hh hf);have b8:Hid (bT c g x=(g.drop n x.task,{x with B8:= -1,at_:=(if n<c.st then skF c x else x.at_)+1})):=Z1 (by
    have G:(aF c x.call).getD x.at_ (0,0)=(5,(n:Int)):=Prod.ext D al.o;unfold bT;simp only[G,Q,cn.o.2.2];unfold skF;by_cases q1:n<c.st<;>by_cases q2:x.rep.err=0<;>simp[q1,q2])
   rw[al.o]at o1;have dr:=q.o.op;rw[al.o,D]at dr;clear hh hf;go_upto_region 16 with fail
   have R:Below m.heap.size m m.drew:=(Oy m.heap.size m).drew;have F:Blk m.drew p 201 (bv wp (.slice (some ⟨b,o,none⟩) x.prog.length B) (.slice (some ⟨f,i,none⟩) L k) {x with B8:= -1})/\Blk m.drew b3 250 #[.int .i64 5,.int .i64 (n:Int)]:=⟨q.o.I1.B0.drew,dr.drew⟩;refine ay (S:=λU=>Blk U p 201 (bv wp (.slice (some ⟨b,o,none⟩) x.prog.length B) (.slice (some ⟨f,i,none⟩) L k) {x with B8:= -1})/\Blk U b3 250 #[.int .i64 5,.int .i64 (n:Int)]) (by kernel_rfl) F ?_;simp only[zD,zE,Nat.reduceAdd,zG];refine zp 0 ?_;refine zp 1 ?_;refine zp 2 ?_;refine zp 3 ?_;refine zp 4 ?_;refine zp 5 ?_;refine zp 6 ?_;refine zp 7 ?_;refine zp 8 ?_;refine zp 9 ?_;refine zo 10 λK hK=>?_;go_simp
   (refine(fq.o _ R).mono ?_)
   rintro e6 u ⟨⟨er,rfl⟩,am⟩;have O:Blk u p 201 (bv wp (.slice (some ⟨b,o,none⟩) x.prog.length B) (.slice (some ⟨f,i,none⟩) L k) {x with B8:= -1})/\Blk u b3 250 #[.int .i64 5,.int .i64 (n:Int)]:=⟨am.E8 F.1 q.o.pl q.o.tp,am.B0 F.2 q.o.n3⟩;refine hK _ _ O ?_;clear hK;refine zn ?_;refine zd ?_;have ds:=Z1 (bp.after R (bp.F4 ⟨_,_,q.o.I1.up R⟩ am));have a8:=Z1 O;clear F O am R dr o0 o1;go_upto_region 17 with fail
   obtain⟨T6,v,l,⟨aw,ax,j⟩,z⟩:=ds.o;have ao:=Z4 v l j z;clear v l j z;have ah:Below u.heap.size u u.drew:=(Oy u.heap.size u).drew;have F:Blk u.drew p 201 (bv wp (.slice (some ⟨b,o,none⟩) x.prog.length B) (.slice (some ⟨f,i,none⟩) L k) {x with B8:= -1})/\Blk u.drew b3 250 #[.int .i64 5,.int .i64 (n:Int)]:=⟨a8.o.1.drew,a8.o.2.drew⟩;refine ay (S:=λU=>Blk U p 201 (bv wp (.slice (some ⟨b,o,none⟩) x.prog.length B) (.slice (some ⟨f,i,none⟩) L k) {x with B8:= -1})/\Blk U b3 250 #[.int .i64 5,.int .i64 (n:Int)]) (by kernel_rfl) F ?_;simp only[zD,zE,Nat.reduceAdd,zG];refine zp 0 ?_;refine zp 1 ?_;refine zp 2 ?_;refine zp 3 ?_;refine zp 4 ?_;refine zp 5 ?_;refine zo 6 λK hK=>?_;go_simp;refine zm (kW _ c T6 wp _ (ao.o.2.1.up ah)) λw7 ep=>?_;have co:Below u.heap.size u w7:=af ah ep;have cb:Blk w7 p 201 (bv wp (.slice (some ⟨b,o,none⟩) x.prog.length B) (.slice (some ⟨f,i,none⟩) L k) {x with B8:= -1})/\Blk w7 b3 250 #[.int .i64 5,.int .i64 (n:Int)]:=⟨a8.o.1.later co,a8.o.2.later co⟩;unfold Cg.val;refine hK _ _ cb ?_;clear hK;refine zn ?_;refine zo 7 λK hK=>?_;go_simp;refine zm (mX c _) λw8 bi=>?_;have cp:Below u.heap.size u w8:=af co bi;have eq:Blk w8 p 201 (bv wp (.slice (some ⟨b,o,none⟩) x.prog.length B) (.slice (some ⟨f,i,none⟩) L k) {x with B8:= -1})/\Blk w8 b3 250 #[.int .i64 5,.int .i64 (n:Int)]:=⟨a8.o.1.later cp,a8.o.2.later cp⟩;refine hK _ _ eq ?_;clear hK;refine zn ?_;refine zp 8 ?_;refine zd ?_;have es:=Z1 (ds.o.later cp);clear F cb eq ah co cp ep bi ao ds a8;by_cases et:n<c.st
   ·rw[OB et]at b8;obtain⟨T8,c1,c2,c3,c4⟩:=es.o;have e5:=Z1 (DC w8 c hc T8 wp p _ {x with B8:= -1} c2 c3 h0 (by rw[<-Q]at hL;exact hL) (by have h9:=cn.o.1;rw[<-Q]at h9;exact h9) (by have h9:=cn.o.2.1;rw[<-Q]at h9;exact h9));have eu:=Z2 c1 c4;clear c1 c2 c3 c4;go_wp2_with fail;refine zm e5.o λw9 ev=>?_;have bn:skF c {x with B8:= -1}<=x.at_+3:=by unfold skF;split<;>simp
    have P:=Z1 (bp.trans eu.o.1 eu.o.2 ev);have dt:skF c {x with B8:= -1}=skF c x:=rfl;rw[dt]at P bn;clear ev dt;obtain⟨a9,du⟩:∃a9,a9=skF c x:=⟨_,rfl⟩;rw[<-du]at P b8 bn;obtain⟨T6,v,l,⟨aw,ax,j⟩,z⟩:=P.o;have d:=Z4 v l j z;have q5:w9.cell? ⟨p,5,none⟩=some (.int .i64 (a9:Int)):=j.B0.cell 5;have f5:=j.B0.frozen 5;have hw:IntKind.i64.wrap ((a9:Int)+1)=(a9:Int)+1:=by rw[OX];omega
    have fr:=Z1 (show a9≠0 from by rw[du];unfold skF;split<;>omega);clear v l j z du bn;go_wp2;refine Pf (Pb (by kernel_rfl) _ _ _) rfl ?_;have H:=d.o.2.2.1.B0.B4 5 (.int .i64 ((a9:Int)+1));have N:=bp.own (x':={x with B8:= -1,at_:=a9+1}) d.o.2.1 d.o.2.2.1 (aI.B4 _ _ _ _) H rfl (.inr (by
     rcases d.o.2.2.1.ops with r|r
     ·exact absurd r.2 fr.o
     ·exact r)) d.o.2.2.1.G4
    refine⟨rfl,bp.wrap q.o.B7 ?_⟩;rw[b8.o];exact bp.trans d.o.1 d.o.2.2.2 N
   ·rw[Oz et]at b8;have P:=es;obtain⟨T6,v,l,⟨aw,ax,j⟩,z⟩:=P.o;have d:=Z4 v l j z;have q5:w8.cell? ⟨p,5,none⟩=some (.int .i64 (x.at_:Int)):=j.B0.cell 5;have f5:=j.B0.frozen 5;have hw:IntKind.i64.wrap ((x.at_:Int)+1)=(x.at_:Int)+1:=by rw[OX];omega
    clear v l j z;go_wp2;refine Pf (Pb (by kernel_rfl) _ _ _) rfl ?_;have H:=d.o.2.2.1.B0.B4 5 (.int .i64 ((x.at_:Int)+1));have N:=bp.own (x':={x with B8:= -1,at_:=x.at_+1}) d.o.2.1 d.o.2.2.1 (aI.B4 _ _ _ _) H rfl (.inr (by
     rcases d.o.2.2.1.ops with r|r
     ·exact absurd r.2 h0
     ·exact r)) d.o.2.2.1.G4
    refine⟨rfl,bp.wrap q.o.B7 ?_⟩;rw[b8.o];exact bp.trans d.o.1 d.o.2.2.2 N
  ·rw[D]at o0;have h0:=HY.o.zero (by omega);obtain⟨a7,ew,ex⟩:=HY.o.add D;have HK:Hid (∀U,Calls prog 269 #[.string x.call.id] U λe w'=>e=.returned (av x.call.id).val/\Below U.heap.size U w'):=Z1 (by
    obtain⟨B,_,h2,h3⟩:=Kg x.call.id d2.o.L7;rw[h2 ew]at h3;exact h3)
   have ft:=Z1 (λU (hU:Below m.heap.size m U)=>Kf U c hc (ext T w.heap.size .free) wp g (q.o.g_.up hU) a7 (av x.call.id) ex);have fu:Hid (bT c g x=(g.add (av x.call.id),{x with B8:= -1,at_:=x.at_+1})):=Z1 (by
    have G:((aF c x.call).getD x.at_ (0,0)).1=6:=D;unfold bT;simp only[G];simp)
   generalize cl:av x.call.id=fv at*;have bh:=q.o.call;clear a7 ew ex cl;go_upto_region 20 with fail
   have R:Below m.heap.size m m.drew:=(Oy m.heap.size m).drew;have gi:=Z2 q.o.pl q.o.tp;have F:Blk m.drew p 201 (bv wp (.slice (some ⟨b,o,none⟩) x.prog.length B) (.slice (some ⟨f,i,none⟩) L k) {x with B8:= -1})/\Blk m.drew X 73 x.call.arr:=⟨q.o.I1.B0.drew,bh.drew⟩;refine ay (S:=λU=>Blk U p 201 (bv wp (.slice (some ⟨b,o,none⟩) x.prog.length B) (.slice (some ⟨f,i,none⟩) L k) {x with B8:= -1})/\Blk U X 73 x.call.arr) (by kernel_rfl) F ?_;simp only[zD,zE,Nat.reduceAdd,zG];refine zp 0 ?_;refine zp 1 ?_;refine zp 2 ?_;refine zp 3 ?_;refine zp 4 ?_;refine zp 5 ?_;refine zo 6 λK hK=>?_;go_simp;refine zm (HK.o _) λu b7=>?_;have ah:Below m.heap.size m u:=af R b7;have O:Blk u p 201 (bv wp (.slice (some ⟨b,o,none⟩) x.prog.length B) (.slice (some ⟨f,i,none⟩) L k) {x with B8:= -1})/\Blk u X 73 x.call.arr:=⟨q.o.I1.B0.later ah,bh.later ah⟩;refine hK _ _ O ?_;clear hK;refine zn ?_;refine zo 7 λK hK=>?_;go_simp
   (refine(ft.o _ ah).mono ?_)
   rintro e7 w7 ⟨⟨bb,rfl⟩,cq⟩;have cb:Blk w7 p 201 (bv wp (.slice (some ⟨b,o,none⟩) x.prog.length B) (.slice (some ⟨f,i,none⟩) L k) {x with B8:= -1})/\Blk w7 X 73 x.call.arr:=⟨cq.E8 O.1 q.o.pl q.o.tp,cq.B0 O.2 q.o.n2⟩;refine hK _ _ cb ?_;clear hK;refine zn ?_;refine zd ?_;have P:Hid (bp m w7 c (ext T w.heap.size .free) wp (g.add fv) p {x with B8:= -1}):=Z1 (bp.after ah (bp.F4 ⟨_,_,q.o.I1.up ah⟩ cq));clear F O cb cq R ah b7 bh;obtain⟨T6,v,l,⟨aw,ax,j⟩,z⟩:=P.o;have d:=Z4 v l j z;have q5:w7.cell? ⟨p,5,none⟩=some (.int .i64 (x.at_:Int)):=j.B0.cell 5;have f5:=j.B0.frozen 5;have hw:IntKind.i64.wrap ((x.at_:Int)+1)=(x.at_:Int)+1:=by rw[OX];omega
   clear v l j z;go_wp2;refine Pf (Pb (by kernel_rfl) _ _ _) rfl ?_;have H:=d.o.2.2.1.B0.B4 5 (.int .i64 ((x.at_:Int)+1));have N:=bp.own (x':={x with B8:= -1,at_:=x.at_+1}) d.o.2.1 d.o.2.2.1 (aI.B4 _ _ _ _) H rfl (.inr (by
    rcases d.o.2.2.1.ops with r|r
    ·exact absurd r.2 h0
    ·exact r)) d.o.2.2.1.G4
   refine⟨rfl,bp.wrap q.o.B7 ?_⟩;rw[fu.o];exact bp.trans d.o.1 d.o.2.2.2 N
  ·rw[D]at o0;have h0:=HY.o.zero (by omega);have au:=HY.o.end_ D;have fw:=Z1 (Gu m c hc _ wp p g {x with B8:= -1} q.o.g_ ⟨_,_,q.o.I1⟩ ⟨t.o.prog,t.o.len,t.o.task,t.o.nth,t.o.at_,.inl rfl,t.o.rep⟩ cz.o au);have fx:Hid (bT c g x=(g.note (({x with B8:= -1}:Ci).event 3),{x with B8:= -1,nth:=x.nth+1,at_:=0})):=Z1 (by
    have G:((aF c x.call).getD x.at_ (0,0)).1=7:=D;unfold bT;simp only[G];simp)
   clear au;go_wp2_with fail;refine fw.o.mono ?_;rintro e6 u ⟨rfl,T6,aw,ax,v,l,j,z⟩;have d:=Z4 v l j z;have q5:u.cell? ⟨p,5,none⟩=some (.int .i64 (-1)):=j.B0.cell 5;have f5:=j.B0.frozen 5;clear v l j z;go_wp2;refine Pf (Pb (by kernel_rfl) _ _ _) rfl ?_;have H:=d.o.2.2.1.B0.B4 5 (.int .i64 0);have N:=nA.fin (n:=0) d.o.2.1 d.o.2.2.1 (aI.B4 p u 5 (.int .i64 0)) H λ_=>rfl;refine⟨rfl,bp.wrap q.o.B7 ?_⟩;rw[fx.o];exact bp.trans d.o.1 d.o.2.2.2 N
end Go.Fw
