/- Lemmas of this claim. Conditions: as each says. -/
import Derived.Test.YtpfmpaolgmoajaaGreatRows
import Derived.WalkLawsBesides
import Derived.WalkSpells
import Derived.Deep.AppendLies
import Derived.BigQuiet
import Derived.Lib.Hide
import Derived.Lib.SmallJoins
import Derived.Deep.WholeRow
import Derived.Great.BuildSlice
import Derived.StillTailTactics
import Derived.Lib.AppendZerosOnto
import Derived.Deep.RegionHeld3
import Derived.RangeFuncNested
import Derived.RangeFuncBound
import Derived.Shelf.Abstract
import Derived.OwnWalkIn
import Derived.TacticsInMore
import Derived.LoopNIn
import Derived.LoopIn
import Derived.Sort.LotA
import Derived.Deep.Cut
set_option linter.unusedVariables false
set_option linter.unusedSimpArgs false
set_option maxHeartbeats 4000000
set_option maxRecDepth 20000
set_option linter.defProp false
open Go.Proofs.Tryz
namespace Go.Fw
open Go.Proofs Go.RowKit
variable {p p0 p1 p2 p3 p4 p5 p6 G G' X:Prop}{a a':Act}{j k cap base n m g B fuel r cnt:Nat}{u v sl:Value}{w' w w'':World}{row:Option Nat}{xs:List Value}{K:Act->World->Prop}{Q:Exit->Act->World->Prop}{ops:Array Oper}{cs E8 cur:Array Value}{L L':Nat->Prop}{s:ByteArray}{A:Option Addr}{fn:Func}{t:Int}{P:Program}{y:Int×Bool}{listed listed':Array Bool}{H:Act → World → Prop}{rs:List Nat}(st sa lo:Int)(raw:List Int)(S:Nat->Prop)(x:Int×Bool)(vs:List Value)(pick:Int)(ln:List (Int×Bool))(left l:List Int)(i:Nat)(hi f e d c b:Int)(W:World)
section
open Go.WideShapes Go.ChangeShapes
theorem Z1  (h : p) : RowKit.Hid p := Lib.hid h
theorem Z2  (h0 : p0) (h1 : p1) : RowKit.Hid (p0 ∧ p1) := Lib.hid ⟨h0, h1⟩
theorem Z3  (h0 : p0) (h1 : p1) (h2 : p2) : RowKit.Hid (p0 ∧ p1 ∧ p2) := Lib.hid ⟨h0, h1, h2⟩
theorem Z4  (h0 : p0) (h1 : p1) (h2 : p2) (h3 : p3) : RowKit.Hid (p0 ∧ p1 ∧ p2 ∧ p3) := Lib.hid ⟨h0, h1, h2, h3⟩
theorem Z5  (h0 : p0) (h1 : p1) (h2 : p2) (h3 : p3) (h4 : p4) : RowKit.Hid (p0 ∧ p1 ∧ p2 ∧ p3 ∧ p4) := Lib.hid ⟨h0, h1, h2, h3, h4⟩
theorem Z6  (h0 : p0) (h1 : p1) (h2 : p2) (h3 : p3) (h4 : p4) (h5 : p5) : RowKit.Hid (p0 ∧ p1 ∧ p2 ∧ p3 ∧ p4 ∧ p5) := Lib.hid ⟨h0, h1, h2, h3, h4, h5⟩
theorem Z7  (h0 : p0) (h1 : p1) (h2 : p2) (h3 : p3) (h4 : p4) (h5 : p5) (h6 : p6) : RowKit.Hid (p0 ∧ p1 ∧ p2 ∧ p3 ∧ p4 ∧ p5 ∧ p6) := Lib.hid ⟨h0, h1, h2, h3, h4, h5, h6⟩
theorem Z8 {p7:Prop} (h0 : p0) (h1 : p1) (h2 : p2) (h3 : p3) (h4 : p4) (h5 : p5) (h6 : p6) (h7 : p7) : RowKit.Hid (p0 ∧ p1 ∧ p2 ∧ p3 ∧ p4 ∧ p5 ∧ p6 ∧ p7) := Lib.hid ⟨h0, h1, h2, h3, h4, h5, h6, h7⟩
theorem Z9 {p7 p8:Prop} (h0 : p0) (h1 : p1) (h2 : p2) (h3 : p3) (h4 : p4) (h5 : p5) (h6 : p6) (h7 : p7) (h8 : p8) : RowKit.Hid (p0 ∧ p1 ∧ p2 ∧ p3 ∧ p4 ∧ p5 ∧ p6 ∧ p7 ∧ p8) := Lib.hid ⟨h0, h1, h2, h3, h4, h5, h6, h7, h8⟩
theorem _root_.Go.RowKit.Hid.o  (h : RowKit.Hid p) : p := h.out
theorem _root_.Go.Aside.o  (h : Aside p) : p := h.out
theorem zt {P : Program} {fn : Func} {R : Ending → World → Prop} {a : Act} {w : World} (hR : R (.returned (.tuple #[])) w) (hr : fn.results = #[] := by kernel_rfl) (hd : a.defers = [] := by rfl) : bodyPost P fn R .normal a w := bodyPost_end (results_none hr _ _ _) hd hR
theorem zi (w : World) : Below w.heap.size w w.drew := (Below.refl _ _).drew
theorem zm {P : Program} {n : FuncId} {a : Array Value} {w : World} {Q : Ending → World → Prop} {v : Value} {R : World → Prop} (h : Calls P n a w fun e w' => e = .returned v ∧ R w') (k : ∀ w', R w' → Q (.returned v) w') : Calls P n a w Q := h.mono fun e w' h => by rcases h with ⟨rfl, h⟩; exact k w' h
theorem zl {P : Program} {n : FuncId} {a : Array Value} {w : World} {Q : Ending → World → Prop} {v : Value} (h : Calls P n a w fun e w' => e = .returned v ∧ w' = w) (k : Q (.returned v) w) : Calls P n a w Q := h.mono fun e w' h => by rcases h with ⟨rfl, rfl⟩; exact k
theorem zY {P : Program} {n : FuncId} {a : Array Value} {w : World} {Q : Ending → World → Prop} {v : Value} (h : Calls P n a w fun e w' => e = .returned v ∧ w = w') (k : Q (.returned v) w) : Calls P n a w Q := h.mono fun e w' h => by rcases h with ⟨rfl, rfl⟩; exact k
theorem zX {P : Program} {n : FuncId} {a : Array Value} {w : World} {Q : Ending → World → Prop} {A : Type _} {v : A → Value} {R : A → World → Prop} (h : Calls P n a w fun e w' => ∃ x, e = .returned (v x) ∧ R x w') (k : ∀ x w', R x w' → Q (.returned (v x)) w') : Calls P n a w Q := h.mono fun e w' h => by rcases h with ⟨x, rfl, h⟩; exact k x w' h
def Ou:=@List.setIfInBounds_toArray
def Ov:=@List.set_cons_zero
def Ow:=@List.set_cons_succ
def Ox:=@Go.Lib.hid
def Oy:=@Go.RowKit.Below.refl
def Oz:=@if_neg
def OA:=@Nat.le_refl
def OB:=@if_pos
def OC:=@List.length_cons
def OD:=@List.size_toArray
def OE:=@List.length_nil
def OF:=@Go.RowKit.Below.cell
def OL:=@List.getElem?_eq_getElem
def OG:=@List.take_succ_eq_append_getElem
def OK:=@Nat.zero_le
def OH:=@Go.bodyPost_ret
def OJ:=@Nat.le_trans
def OM:=@List.take_succ_cons
def ON:=@List.drop_succ_cons
def OI:=@Go.World.cell?_of_block
def OP:=@List.getD_eq_getElem?_getD
def OS:=@List.length_append
def OO:=@List.take_zero
def OT:=@List.take_of_length_le
def OR:=@List.getElem_mem
def OU:=@List.eq_nil_of_length_eq_zero
def OQ:=@List.drop_zero
def Pg:=@Classical.byContradiction
def OV:=@Nat.lt_of_lt_of_le
def Pi:=@List.map_cons
def OX:=@Go.IntKind.wrap_i64
def OW:=@Nat.le_succ
def Pa:=@List.mem_map
def Pc:=@Ne.symm
def Pb:=@Go.results_none
def Pf:=@Go.bodyPost_end
def Pe:=@List.length_map
def Pj:=@List.mem_cons
def Pm:=@List.mem_cons_of_mem
def Ph:=@List.getElem?_append_right
def PC:=@List.append_nil
def Pd:=@Go.RowKit.Below.heap_setCell
def OZ:=@List.getElem?_eq_some_iff
def Pn:=@Go.World.ownsRow_nil
def OY:=@Bool.and_eq_true
def Pk:=@List.getElem?_append_left
def Po:=@List.mem_append
def Pr:=@Nat.mul_le_mul_right
def Pv:=@List.append_assoc
def Pu:=@List.drop_eq_getElem_cons
def Ps:=@List.getElem?_eq_none
def Pt:=@List.drop_eq_nil_of_le
def PB:=@Option.map_eq_some_iff
def Px:=@List.map_map
def Pq:=@List.mem_map_of_mem
def Pz:=@List.getElem?_map
def Pw:=@List.getElem?_take_of_lt
def Py:=@List.mem_singleton
def PA:=@Array.getElem?_toList
def PD:=@List.map_congr_left
def PE:=@Array.getElem?_eq_getElem
def PG:=@List.length_take
def PH:=@Int.toNat_natCast
def PU:=@Nat.succ_ne_zero
def PI:=@List.length_set
def PM:=@List.getElem?_drop
def Qc:=@List.mem_cons_self
def Pp:=@List.mem_filter
def PN:=@List.mem_of_mem_drop
def PO:=@List.take_length
def PP:=@Nat.ne_of_lt
def PR:=@Nat.eq_zero_or_pos
def PF:=@List.length_filter_le
def PJ:=@List.getElem_of_mem
def PT:=@Option.map_some
def Qf:=@List.getElem?_set_ne
def PK:=@List.getElem_append_left
def QC:=@List.map_append
def PV:=@List.getElem?_toArray
def PW:=@List.length_drop
def PX:=@Array.getElem?_eq_some_iff
def PY:=@List.cons_append
def Qd:=@Option.getD_some
def PZ:=@List.getElem?_cons_zero
def PS:=@Nat.zero_add
def Qa:=@List.nodup_append
def Qb:=@List.mem_of_mem_take
def Qg:=@Go.World.cell?_alloc_mark
def Qh:=@Go.RowKit.Below.heap_alloc
def Qi:=@List.getElem_append_right
def PQ:=@Nat.add_assoc
def Qs:=@List.map_nil
def Qj:=@Nat.succ_mul
def Qr:=@List.take_append_drop
def Qk:=@Nat.mul_comm
def Ql:=@List.filter_append
def QE:=@Nat.mod_eq_of_lt
def Qw:=@List.getElem?_mapIdx
def Qx:=@List.mem_of_getElem?
def Qn:=@Nat.lt_irrefl
def Ro:=@List.getElem?_set_self
def Qe:=@List.foldl_append
def Qo:=@List.getElem?_set
def QK:=@List.filter_congr
def Qp:=@Nat.min_eq_left
def QA:=@List.nil_append
def Qq:=@List.pairwise_iff_getElem
def QB:=@List.nodup_cons
def Qt:=@Nat.add_zero
def Vc:=@List.sum_cons
def Qu:=@Array.replicate_succ
def Qv:=@Array.replicate_zero
def QP:=@List.filter_cons_of_neg
def QD:=@List.append_toArray
def Ra:=@Int.tmod_eq_emod_of_nonneg
def Rn:=@List.pairwise_cons
def QZ:=@List.filter_filter
def QF:=@List.length_modify
def Ry:=@List.getLast?_eq_getElem?
def Qz:=@List.foldl_cons
def QG:=@List.take_left'
def QH:=@Option.map_none
def Qy:=@List.flatMap_cons
def QI:=@List.ext_getElem?
def QJ:=@List.push_toArray
def QL:=@of_decide_eq_true
def QM:=@Nat.mul_assoc
def QN:=@List.take_append_of_le_length
def PL:=@List.getElem?_cons_succ
def QO:=@List.filter_cons_of_pos
def QQ:=@Array.length_toList
def QR:=@List.filter_eq_self
def QS:=@List.map_toArray
def QT:=@List.all_eq_true
def QU:=@List.mem_flatMap
def Sq:=@List.any_eq_true
def QV:=@Option.getD_none
def Rj:=@Nat.mod_lt
def QW:=@List.getElem_cons_zero
def QX:=@List.getElem?_take
def QY:=@Nat.sub_self
def Rl:=@Option.isSome_some
def Rc:=@List.drop_eq_nil_iff
def Rs:=@List.drop_drop
def Rd:=@Option.isSome_iff_exists
def Re:=@Array.all_eq_true_iff_forall_mem
def Rh:=@Int.eq_ofNat_of_zero_le
def Ri:=@Nat.eq_or_lt_of_le
def Rm:=@Bool.false_ne_true
def Rq:=@Nat.or_lt_two_pow
def RI:=@Nat.le_succ_of_le
def Rr:=@List.length_mergeSort
def Rt:=@Nat.min_eq_right
def Rb:=@Nat.pow_le_pow_right
def RU:=@List.mem_append_left
def Sv:=@List.mem_flatten
def Ru:=@Array.toList_setIfInBounds
def Vd:=@List.exists_cons_of_ne_nil
def Rw:=@Nat.testBit_two_pow
def Rk:=@List.filter_map
def Rx:=@List.Perm.of_eq
def Rz:=@Nat.zero_mul
def RB:=@List.find?_eq_none
def RC:=@Nat.succ_pos
def RE:=@Option.isSome_none
def RF:=@Nat.add_sub_cancel
def RG:=@Go.World.ownsRow.drew
def Sm:=@List.flatten_cons
def RJ:=@Go.World.ownsRow.frozenAt
def RK:=@List.findIdx?_eq_some_iff_getElem
def Ve:=@List.filter_eq_nil_iff
def RM:=@Array.replicate_append_replicate
def So:=@List.filter_cons
def RN:=@List.range'_succ
def RO:=@Array.getElem?_modify
def RP:=@List.mem_append_right
def RQ:=@List.length_replicate
def RR:=@Array.getElem?_setIfInBounds_ne
def RA:=@Nat.pow_succ
def RD:=@Nat.le_of_lt
def RT:=@List.pairwise_append
def RV:=@List.getElem?_modify
def Vf:=@List.range_succ
def RW:=@Go.World.ownsRow.cellAt
def RX:=@Go.World.ownsRow.stored
def RY:=@Int.emod_nonneg
def RZ:=@List.takeWhile_cons
def Sa:=@List.length_pos_iff
def Sc:=@List.mergeSort_perm
def Se:=@List.flatten_append
def Sf:=@List.take_take
def Sg:=@List.mem_range
def Sh:=@List.nodup_nil
def Si:=@Go.World.grownBy.refl
def Sk:=@Int.emod_lt_of_pos
def Vg:=@Bool.true_and
def Sl:=@Bool.not_eq_true'
def Sn:=@List.getElem_take
def Vh:=@List.ext_getElem
def Ss:=@Nat.zero_testBit
def Su:=@Array.toList_inj
def Sw:=@Nat.pow_pos
structure V0
structure V1
structure V2
instance:CoeFun V0 (fun _=>Int→Value):=⟨fun _=>Value.int .i64⟩
instance:CoeFun V1 (fun _=>Int→Value):=⟨fun _=>Value.int .u64⟩
instance:CoeFun V2 (fun _=>Nat→Array Value→World→(Ending→World→Prop)→Prop):=⟨fun _=>Calls Tryz.prog⟩
def I:V0:=⟨⟩
def E:V1:=⟨⟩
def C:V2:=⟨⟩
def zO(h:p:=by omega):p:=h
def zR(h:p:=by kernel_rfl):p:=h
def zP(h:p:=by decide):p:=h
def zF(h:p:=by rfl):p:=h
def zS(h:p:=by simp):p:=h
def zT(h:p:=by simp;omega):p:=h
def zU(h:p:=by unfold maxLen;omega):p:=h
def zV(h:p:=by simp [Value.oneCell']):p:=h
abbrev Y (p o:Nat):Addr:=⟨p,o,none⟩
abbrev Z (p o:Nat):Value:=.pointer (some ⟨p,o,none⟩)
abbrev V (p o n c:Nat):Value:=.slice (some ⟨p,o,none⟩) n c
abbrev M (w:World):World→Prop:=Below w.heap.size w
abbrev J (v:Value) (w:World):Ending→World→Prop:=fun e w'=>e = .returned v∧Below w.heap.size w w'
def gk(a:Addr)(n:Nat):(a.add n).block=a.block:=by unfold Addr.add;split<;>rfl
def rY(a:Addr)(i j:Nat):(a.add i).add j=a.add (i+j):=by
 unfold Addr.add;by_cases b:i=0<;>by_cases c:j=0<;>simp[b,c,PQ]
def an(w:World)(B size:Nat)(A:Option Addr)(n:Nat)(xs:List Value):Prop:=
 xs.length=n*size/\(0<n->∃ad,A=some ad/\ad.block<B/\∀j u,xs[j]?=some u->w.cell? (ad.add j)=some u)
section
variable {w w':World} {B B' size n:Nat} {A:Option Addr} {xs:List Value}
def an.none_:an w B size A 0 []:=⟨zS,λh=>absurd h zO⟩
def an.at_(h:an w B 1 A n xs)(hk:k<n):∃ad u,A=some ad/\ad.block<B/\xs[k]?=some u/\w.cell? (ad.add k)=some u:=by
 obtain⟨ad,e,b,c⟩:=h.2 zO;have a:k<xs.length:=by have:=h.1;omega
 exact⟨ad,xs[k],e,b,OL a,c k _ (OL a)⟩
def an.B7(h:an w B size A n xs)(hk:∀p:Addr,p.block<B->w'.cell? p=w.cell? p):an w' B size A n xs:=
 ⟨h.1,λb=>by
  obtain⟨c,e,a,d⟩:=h.2 b;exact⟨c,e,a,λj u f=>(hk _ (by rw[gk];exact a)).trans (d j u f)⟩⟩
def an.more(h:an w B size A n xs)(hB:B<=B'):an w B' size A n xs:=
 ⟨h.1,λa=>by
  obtain⟨b,e,d,c⟩:=h.2 a;exact⟨b,e,zO,c⟩⟩
def an.below(h:an w B size A n xs)(hb:Below B w w'):an w' B size A n xs:=h.B7 λ_ a=>hb.cell a
def an.alloc(h:an w B size A n xs)(hB:B<=w.heap.size)(o:Obj):an (w.alloc o) B size A n xs:=h.B7 λp a=>World.cell?_alloc_lt w o p zO
def an.cut(h:an w B size A n xs)(hk:k<=n)(hc:n<=cap):
  an w B size (if cap=k then A else A.map (·.add (k*size))) (n-k) (xs.drop (k*size)):=by
 refine⟨by rw[PW,h.1,Nat.sub_mul],λe=>?_⟩;obtain⟨b,rfl,c,a⟩:=h.2 zO;rw[Oz zO];refine⟨b.add (k*size),rfl,by rw[gk];exact c,λj u d=>?_⟩;rw[rY];exact a _ u (by rw[<-d,PM])
def an.C4{e:TypeId}{c:Nat}(h:w.ownsRow base e size (.slice A n c) n xs):an w w.heap.size size A n xs:=by
 refine⟨h.1,λb=>?_⟩;obtain⟨g,i,d,_,a⟩:=h.form b;have f:A=some (Y g 0):=by injection d
 subst f;exact⟨_,rfl,a,h.cells (g:=g) rfl⟩
end
def ak{w:World}{base size n:Nat}{e:TypeId}{v:Value}{xs:List Value}(h:w.ownsRow base e size v n xs):
  ∃A c,v=.slice A n c/\n<=c/\c<=maxLen:=by
 rcases h.2 with⟨rfl,rfl⟩|⟨g,a,f,rfl,_,_,b,d,_⟩
 ·exact⟨none,0,rfl,OA _,by simp[maxLen]⟩
 ·exact⟨_,a,rfl,b,d⟩
section
variable {P:Program} (w:World)
def qE(base:Nat)(t ty e:TypeId)(i:TypeInfo)(size:Nat)(ht:P.underlying t=some (.slice e))(hi:P.info? e=some i)
  (v:Value)(n:Nat)(xs:List Value)(hown:w.ownsRow base e size v n xs)(c:Nat):(Builtin.append_ #[t,t] ty #[v,.slice none 0 c]).run P w=.ok v w:=by
 rcases hown.2 with⟨rfl,rfl⟩|⟨g,b,d,rfl,_,_,a,_⟩
 ·simp[Builtin.append_,run_underlying ht,sizeOf,typeInfo,hi,Builtin.lenOf,Builtin.firstCells]
 ·simp[Builtin.append_,run_underlying ht,sizeOf,typeInfo,hi,Builtin.lenOf,Builtin.firstCells,a,storeCells]
def tA(base:Nat)(t ty e:TypeId)(i:TypeInfo)(z:Value)(size bytes:Nat)(ht:P.underlying t=some (.slice e))(hi:P.info? e=some i)(hz:i.zero=some z)
  (hsize:i.size=size)(hby:i.bytes=bytes)(hzs:z.cells.size=size)(hsz:0<size)
  (v:Value)(n:Nat)(xs:List Value)(hown:w.ownsRow base e size v n xs)
  (B:Nat)(A:Option Addr)(m c:Nat)(news:List Value)(hr:an w B size A m news)(h1:∀u∈news,u.oneCell'=true)
  (h63:n+m<=maxLen)(hbytes:(n+m)*bytes<=140737488355328)(hbase:base<=w.heap.size):
  ∃v' w',(Builtin.append_ #[t,t] ty #[v,.slice A m c]).run P w=.ok v' w'/\w'.ownsRow base e size v' (n+m) (xs++news)/\w.grownBy w' v.ownBlock/\
   (v'.ownBlock=v.ownBlock\/v'.ownBlock=some w.heap.size):=by
 rcases A with _|d
 ·have l:m=0:=by
   rcases PR m with a|a
   ·exact a
   ·obtain⟨d,h,_⟩:=hr.2 a
    cases h
  subst l;have f:=OU (by simpa using hr.1);subst f;exact⟨v,w,qE w base t ty e i size ht hi v n xs hown c,by simpa using hown,Si w _,.inl rfl⟩
 ·have b:∀j u,news[j]?=some u->w.cell? (d.add j)=some u:=by
   intro j u k
   rcases PR m with a|a
   ·subst a;have f:=OU (by simpa using hr.1);subst f;simp at k
   ·obtain⟨s,h,_,o⟩:=hr.2 a;injection h with h;subst h;exact o j u k
  obtain⟨v',w',g,p,q,_,r⟩:=run_append_own_at (P:=P) w base t ty e i z size bytes ht hi hz hsize hby hzs hsz v n xs hown d m c news hr.1 b h1 h63 hbytes hbase;exact⟨v',w',g,p,q,r⟩
def dC{o:Oper}{a:Act}{K:Act->World->Prop}{Q:Exit->Act->World->Prop}(s x:Operand)(t:TypeId)
  (ho:o.op=.call {callee:=.builtin .append,args:=#[s,x],argTypes:=#[t,t]})
  (base:Nat)(e:TypeId)(i:TypeInfo)(z:Value)(size bytes:Nat)(ht:P.underlying t=some (.slice e))(hi:P.info? e=some i)(hz:i.zero=some z)
  (hsize:i.size=size)(hby:i.bytes=bytes)(hzs:z.cells.size=size)(hsz:0<size)
  (v:Value)(n:Nat)(xs:List Value)(hs:a.eval s=v)(hown:w.ownsRow base e size v n xs)
  (B:Nat)(A:Option Addr)(m c:Nat)(news:List Value)(hx:a.eval x=.slice A m c)(hr:an w B size A m news)(h1:∀u∈news,u.oneCell'=true)
  (h63:n+m<=maxLen)(hbytes:(n+m)*bytes<=140737488355328)(hbase:base<=w.heap.size)
  (h:∀v' w',w'.ownsRow base e size v' (n+m) (xs++news)->w.grownBy w' v.ownBlock->(v'.ownBlock=v.ownBlock\/v'.ownBlock=some w.heap.size)->K (a.put o.dst v') w'):o.wp P a w K Q:=by
 obtain⟨v',w',b,d,f,g⟩:=tA (P:=P) w base t o.type e i z size bytes ht hi hz hsize hby hzs hsz v n xs hown B A m c news hr h1 h63 hbytes hbase;unfold Oper.wp execOp;simp only[ho,resolve,invoke,builtin,Sem.run_bind,Sem.run_pure,Result.andThen_ok,QS,Pi,Qs,hs,hx,b];exact h v' w' d f g
def bP{ops:Array Oper}{rest:List Oper}{o:Oper}{a:Act}{Q:Exit->Act->World->Prop}(hgd:o.guard=none)(s x:Operand)(t:TypeId)
  (ho:o.op=.call {callee:=.builtin .append,args:=#[s,x],argTypes:=#[t,t]})
  (base:Nat)(e:TypeId)(i:TypeInfo)(z:Value)(size bytes:Nat)(ht:P.underlying t=some (.slice e))(hi:P.info? e=some i)(hz:i.zero=some z)
  (hsize:i.size=size)(hby:i.bytes=bytes)(hzs:z.cells.size=size)(hsz:0<size)
  (v:Value)(n:Nat)(xs:List Value)(hs:a.eval s=v)(hown:w.ownsRow base e size v n xs)
  (B:Nat)(A:Option Addr)(m c:Nat)(news:List Value)(hx:a.eval x=.slice A m c)(hr:an w B size A m news)(h1:∀u∈news,u.oneCell'=true)
  (h63:n+m<=maxLen)(hbytes:(n+m)*bytes<=140737488355328)(hbase:base<=w.heap.size)
  (h:∀v' w',w'.ownsRow base e size v' (n+m) (xs++news)->w.grownBy w' v.ownBlock->(v'.ownBlock=v.ownBlock\/v'.ownBlock=some w.heap.size)->wpList P ops Q rest (a.put o.dst v') w'):wpList P ops Q (o::rest) a w:=
 wpList_plain hgd λ_ hK=>dC w s x t ho base e i z size bytes ht hi hz hsize hby hzs hsz v n xs hs hown B A m c news hx hr h1 h63 hbytes hbase λv' w' b d f=>hK _ _ (h v' w' b d f)
end
def ae{a w:World}(h:M a w)(o:Obj):M a (w.alloc o):=h.alloc h.size o
theorem zh (w : World) (o : Obj) : Below w.heap.size w (w.alloc o) := ae (Below.refl _ _) o
def af{a w w':World}(h:M a w)(k:M w w'):M a w':=h.trans (k.mono h.size)
def fd{a w:World}(h:M a w)(n:Nat):M a (w.drewN n):=⟨h.os,h.tape,h.output,h.size,h.block⟩
def bys(l:List UInt8):List Value:=l.map λx=>.int .u8 x.toNat
def i64s(l:List Int):List Value:=l.map (Value.int .i64)
def BQ(l:List UInt8):(bys l).length=l.length:=by simp[bys]
def iW:(i64s l).length=l.length:=by simp[i64s]
def ma{l:List Int}(h:(i64s l)[k]?=some u)(hk:k<l.length):u=I l[k]:=by
 simp[i64s,hk]at h;exact h.symm
def Lr(l:List UInt8):∀u∈bys l,u.oneCell'=true:=by
 intro u a;obtain⟨_,_,rfl⟩:=Pa.1 a;rfl
def Ho:∀u∈i64s l,u.oneCell'=true:=by
 intro u a;obtain⟨_,_,rfl⟩:=Pa.1 a;rfl
def rZ(l:List Int):Prop:=∀(k:Nat) (h:k<l.length), -9223372036854775808<=l[k]/\l[k]<=9223372036854775807
def wu{l:List Int}(h:∀x∈l, -9223372036854775808<=x/\x<=9223372036854775807):rZ l:=λk a=>h _ (OR a)
def aC{k:IntKind}{a b:Int}(h:a=b):Ending.returned (.int k a)=.returned (.int k b):=by rw[h]
def cN{a b:Bool}(h:a=b):Ending.returned (.bool a)=.returned (.bool b):=by rw[h]
def oZ{P:Program}{w:World}{B:Nat}{A:Option Addr}{n:Nat}{l:List UInt8}(src dst e:TypeId)(c:Nat)(hs:P.underlying src=some (.slice e))(he:P.underlying e=some (.int .u8))(hd:P.underlying dst=some .string)
  (hr:an w B 1 A n (bys l)):(convert src dst (.slice A n c)).run P w=.ok (.string ⟨l.toArray⟩) w:=by
 have b:n=l.length:=by have:=hr.1;rw[BQ]at this;omega
 subst b
 rcases A with _|a
 ·have d:l=[]:=by
   rcases l with _|⟨x,l⟩
   ·rfl
   ·obtain⟨a,h,_⟩:=hr.2 zS
    cases h
  subst d;exact run_convert_bytes_nil w src e hs he _ c dst hd
 ·refine run_convert_bytes_back w src dst e a c l hs he hd λj f=>?_;obtain⟨i,h,_,g⟩:=hr.2 zO;injection h with h;subst h;exact g j _ (by simp[bys,f])
def wv(w:World)(t:TypeId)(cs:Array Value)(n g B:Nat)(hn:cs.size=n)(hg:g=w.heap.size)(hB:B=w.heap.size+1):an (w.alloc (.cells cs t)) B 1 (some (Y g 0)) n cs.toList:=by
 subst hg;subst hB;refine⟨by simp[hn],λ_=>⟨_,rfl,zS,λj u a=>?_⟩⟩;rw[show((Y w.heap.size 0):Addr).add j=(Y w.heap.size j) by unfold Addr.add;split<;>simp_all];rw[Qg]
 simpa using a
def an.up{w w':World}{size n:Nat}{A:Option Addr}{xs:List Value}(h:an w w.heap.size size A n xs)(hb:M w w'):an w' w'.heap.size size A n xs:=(h.below hb).more hb.size
def an.len{w:World}{B:Nat}{A:Option Addr}{n:Nat}{xs:List Value}(h:an w B 1 A n xs):n=xs.length:=by have:=h.1;omega
section
variable {H:Type} {enc:TypeId×Value→H} {P:Program} {W:World}
def sc{t:TypeId}{d:DataW H}{p:List MemPlace}(h:DataW.Trod enc P W 0 (λ_=>true) true t v d p):∀x∈p,x.block<W.heap.size:=by
 obtain⟨m,a⟩:=h;exact DataW.trod_lt m _ _ _ a
def Hp{t e:TypeId}{k:IntKind}{d:DataW H}{p:List MemPlace}(ht:P.underlying t=some (.slice e))(he:P.underlying e=some (.int k))(hc:P.cellsOf e=1)
  (hv:Value.okWide P W .any base t v)(h:DataW.Trod enc P W 0 (λ_=>true) true t v d p):
  ∃(A:Option Addr) (c:Nat) (l:List Int),v=.slice A l.length c/\(l.length<=maxLen/\l.length<=c)/\(∀n∈l,(Lit.int k n).wf=true)/\an W W.heap.size 1 A l.length (l.map (Value.int k)):=by
 obtain⟨G,a,i,rfl⟩:=okWide_slice ht hv;obtain⟨s,w⟩:=h
 rcases open_ints ht he hc w with⟨b,_⟩|⟨x,l,c,o,b,_,L,N,y,_,f,r⟩
 ·simp[Value.cells]at b;obtain⟨rfl,rfl,rfl⟩:=b;exact⟨none,0,[],rfl,by simp[maxLen],zS,an.none_⟩
 ·simp[Value.cells]at b;obtain⟨rfl,rfl,rfl⟩:=b;have F:o.length=i:=by simpa using y
  have g:(o.take a).length=a:=by rw[PG];omega
  refine⟨some x,i,o.take a,by rw[g],⟨zO,zO⟩,λn z=>r n (Qb z),?_⟩;rw[g];refine⟨by rw[Pe,g];omega,λB=>⟨x,rfl,?_,λj u q=>?_⟩⟩
  ·have:=World.block_lt_of_cell? W _ (f 0 zO)
   rwa [gk]at this
  ·have D:j<a:=by
    have:=(OZ.1 q).1
    rwa [Pe,g]at this
   have m:j<o.length:=zO;rw[f j m];simp[D,m]at q;rw[<-q];simp[m]
def Hq{t e:TypeId}{d:DataW H}{p:List MemPlace}(ht:P.underlying t=some (.slice e))(he:P.underlying e=some (.int .i64))(hc:P.cellsOf e=1)
  (hv:Value.okWide P W .any base t v)(h:DataW.Trod enc P W 0 (λ_=>true) true t v d p):
  ∃(A:Option Addr) (c:Nat) (l:List Int),v=.slice A l.length c/\(l.length<=maxLen/\l.length<=c)/\rZ l/\an W W.heap.size 1 A l.length (i64s l):=by
 obtain⟨A,c,l,rfl,b,a,f⟩:=Hp ht he hc hv h;refine⟨A,c,l,rfl,b,wu λx g=>?_,f⟩;simpa[Lit.wf,IntKind.min,IntKind.max,IntKind.signed,IntKind.bits]using a x g
def Ls{t:TypeId}{d:DataW H}{p:List MemPlace}(ht:P.underlying t=some (.int .i64))
  (hv:Value.okWide P W .any base t v)(h:DataW.Trod enc P W 0 (λ_=>true) true t v d p):∃n:Int,v=I n/\ -9223372036854775808<=n/\n<=9223372036854775807:=by
 obtain⟨x,rfl,_,_,wx⟩:=open_int ht hv h;exact⟨x,rfl,by simpa[Lit.wf,IntKind.min,IntKind.max,IntKind.signed,IntKind.bits]using wx⟩
end
section
variable {P:Program}
end
section
variable {H:Type} {enc:TypeId×Value→H} {P:Program}
end
end
section
open Go.WideShapes Go.ChangeShapes
def kc{α:Type}(f:α->List Value)(s:Nat)(hf:∀x,(f x).length=s):∀(l:List α) (k j:Nat) (hk:k<l.length),j<s->(l.flatMap f)[k*s+j]?=(f l[k])[j]?:=by
 intro l;induction l with
 |nil=>intro k j hk;simp at hk
 |cons x l ih=>
  intro k j hk a;rw[Qy];obtain _|k:=k
  ·rw[Rz,PS,Pk (by rw[hf];exact a)];rfl
  ·rw[Ph (by rw[hf,Qj];omega),hf,show(k+1)*s+j-s=k*s+j by rw[Qj];omega];exact ih k j (by simpa using hk) a
def db{α:Type}(f:α->List Value)(s:Nat)(hf:∀x,(f x).length=s)(l:List α):(l.flatMap f).length=l.length*s:=by
 induction l with
 |nil=>simp
 |cons x l ih=>rw[Qy,OS,hf,ih,OC,Qj];omega
def an.J6{w:World}{B size n k:Nat}{A:Option Addr}{xs:List Value}(h:an w B size A n xs)(hs:0<size)(hk:k<n):
  ∃b o,A=some (Y b o)/\b<B/\∀j u,xs[j]?=some u->w.cell? (Y b (o+j))=some u:=by
 obtain⟨f,rfl,g,d⟩:=h.2 zO;have i:0<xs.length:=by rw[h.1];exact Nat.mul_pos zO hs
 have c:=d 0 _ (OL i);obtain⟨b,o,a⟩:=f;obtain rfl:a=none:=by
  have e:(⟨b,o,a⟩:Addr).add 0=⟨b,o,a⟩:=by simp[Addr.add]
  rw[e]at c
  cases a with
  |none=>rfl
  |some s=>simp[World.cell?]at c;split at c<;>simp_all
 refine⟨b,o,rfl,g,λj u l=>?_⟩;have:=d j u l
 rwa [show((Y b o):Addr).add j=(Y b (o+j)) by unfold Addr.add;split<;>simp_all]at this
def an.elem{α:Type}{f:α->List Value}{s:Nat}{w:World}{B n k:Nat}{A:Option Addr}{l:List α}(h:an w B s A n (l.flatMap f))(hf:∀x,(f x).length=s)(hs:0<s)(hn:n=l.length)(hk:k<l.length):
  ∃b o,A=some (Y b o)/\b<B/\∀j u,(f l[k])[j]?=some u->w.cell? (Y b (o+(k*s+j)))=some u:=by
 obtain⟨b,o,rfl,c,d⟩:=h.J6 (k:=k) hs zO;refine⟨b,o,rfl,c,λj u a=>d _ u ?_⟩;have e:j<s:=by have:=(OZ.1 a).1;rwa [hf]at this
 rw[kc f s hf l k j hk e,a]
structure cE(P:Program)(t e:TypeId)(z:Value)(s bytes:Nat):Prop where
 under:P.underlying t=some (.slice e)
 info:(P.info? e).map (λi=>(i.zero,i.size,i.bytes))=some (some z,s,bytes)
 cells:z.cells.size=s
structure aL(s:Nat)(w0 w:World)(e:TypeId)(v:Value)(n:Nat)(xs:List Value):Prop where
 own:w.ownsRow w0.heap.size e s v n xs
 below:M w0 w
section
variable {s:Nat} {w0 w:World} {e:TypeId} {v:Value} {n:Nat} {xs:List Value}
def aL.F8(s:Nat)(w:World)(e:TypeId):aL s w w e (.slice none 0 0) 0 []:=⟨Pn w _ e s,Oy _ _⟩
def aL.L8(s:Nat){w0 w:World}(h:M w0 w)(e:TypeId):aL s w0 w e (.slice none 0 0) 0 []:=⟨Pn w _ e s,h⟩
def aL.le(h:aL s w0 w e v n xs):w0.heap.size<=w.heap.size:=h.below.size
def aL.form(h:aL s w0 w e v n xs):∃A c,v=.slice A n c/\n<=c/\c<=maxLen/\an w w.heap.size s A n xs:=by
 obtain⟨A,c,rfl,a,b⟩:=ak h.own;exact⟨A,c,rfl,a,b,an.C4 h.own⟩
def aL.later(h:aL s w0 w e v n xs)(hb:M w w'):aL s w0 w' e v n xs:=by
 refine⟨h.own.kept (row:=none) ⟨hb.os,hb.tape,hb.output,hb.size,λk a _=>hb.block k a⟩ ?_,h.below.trans (hb.mono h.le)⟩
 cases v.ownBlock<;>simp
end
section
variable {P:Program}
end
structure Adv where
 tick:Int
 load:Int
 want:Int
 reps:Int
 I8:Int
 deriving DecidableEq
def Adv.cells(a:Adv):List Value:=[I a.tick,I a.load,I a.want,I a.reps,I a.I8]
def advs(l:List Adv):List Value:=l.flatMap Adv.cells
def Adv.C2(a:Adv):a.cells.length=5:=rfl
def kH(l:List Adv):(advs l).length=l.length*5:=db _ 5 Adv.C2 l
def aq(n:Int):Prop:= -9223372036854775808<=n/\n<=9223372036854775807
structure Adv.ok(a:Adv):Prop where
 tick:aq a.tick
 load:aq a.load
 want:aq a.want
 reps:aq a.reps
 I8:aq a.I8
def tB{w:World}{B n:Nat}{A:Option Addr}{l:List Adv}(h:an w B 5 A n (advs l)):n=l.length:=by
 have:=h.1;rw[kH]at this;omega
def adv_at{w:World}{B n k:Nat}{A:Option Addr}{l:List Adv}(h:an w B 5 A n (advs l))(hk:k<l.length):
  ∃b o,A=some (Y b o)/\b<B/\w.cell? (Y b (o+k*5))=some (I l[k].tick)/\w.cell? (Y b (o+k*5+1))=some (I l[k].load)/\
   w.cell? (Y b (o+k*5+2))=some (I l[k].want)/\w.cell? (Y b (o+k*5+3))=some (I l[k].reps)/\w.cell? (Y b (o+k*5+4))=some (I l[k].I8):=by
 obtain⟨b,o,rfl,c,a⟩:=h.elem Adv.C2 zP (tB h) hk;exact⟨b,o,rfl,c,a 0 _ rfl,a 1 _ rfl,a 2 _ rfl,a 3 _ rfl,a 4 _ rfl⟩
def uk(l:List Adv)(a:Adv):advs l++a.cells=advs (l++[a]):=by simp[advs]
end
section
open Go.WideShapes Go.ChangeShapes Go.Deep Go.Joins
section
variable {H:Type} {enc:TypeId×Value→H} {P:Program} {W:World}
end
section
variable {H:Type} {enc:TypeId×Value→H} {P:Program} {W:World}
end
end
def Blk(w:World)(g:Nat)(t:TypeId)(cs:Array Value):Prop:=w.heap[g]?=some (.cells cs t (0,0))
section
variable {w w':World} {g:Nat} {t:TypeId} {cs:Array Value}
def Blk.lt(h:Blk w g t cs):g<w.heap.size:=(PX.1 h).1
def Blk.cell(h:Blk w g t cs)(i:Nat):w.cell? (Y g i)=cs[i]?:=cell_of_row w g i cs t (0,0) h
def Blk.frozen(h:Blk w g t cs)(i:Nat):w.frozen? (Y g i)=false:=by
 unfold Blk at h;simp[World.frozen?,h]
def Blk.A8(w:World)(t:TypeId)(cs:Array Value)(hg:g=w.heap.size):Blk (w.alloc (.cells cs t)) g t cs:=by subst hg;exact heap_alloc_new w _
def Blk.alloc(h:Blk w g t cs)(o:Obj):Blk (w.alloc o) g t cs:=(Qh w o g h.lt).trans h
def Blk.B4(h:Blk w g t cs)(i:Nat)(u:Value):Blk (w.setCell (Y g i) u) g t (cs.setIfInBounds i u):=by
 unfold Blk at h ⊢;simp[World.setCell,RO,h]
def Blk.D1(h:Blk w g t cs){p:Addr}(hp:g≠p.block)(u:Value):Blk (w.setCell p u) g t cs:=(Pd w p u g hp).trans h
def Blk.later(h:Blk w g t cs)(hb:M w w'):Blk w' g t cs:=(hb.block g h.lt).trans h
def Blk.drew(h:Blk w g t cs):Blk w.drew g t cs:=h
def Blk.drewN(h:Blk w g t cs)(n:Nat):Blk (w.drewN n) g t cs:=h
def Blk.grown(h:Blk w g t cs)(hb:w.grownBy w' row)(hg:some g≠row):Blk w' g t cs:=(hb.block g h.lt hg).trans h
def aB{e:TypeId}{size:Nat}(h:w.ownsRow base e size v n xs)(hg:Blk w g t cs)(hne:e≠t):v.ownBlock≠some g:=by
 rcases h.2 with⟨rfl,_⟩|⟨a,f,i,rfl,_,b,_⟩
 ·simp[Value.ownBlock]
 ·intro c;have:a=g:=by simpa[Value.ownBlock]using c
  subst this;unfold Blk at hg;rw[b]at hg;injection hg with hg;injection hg with _ d;exact hne d
end
def aP{w:World}{b b' size n:Nat}{e:TypeId}{v:Value}{xs:List Value}(h:w.ownsRow b e size v n xs)(hb:b'<=b):w.ownsRow b' e size v n xs:=by
 refine⟨h.1,?_⟩
 rcases h.2 with h|⟨g,a,c,d,f,i⟩
 ·exact .inl h
 ·exact .inr ⟨g,a,c,d,OJ hb f,i⟩
def bA{w:World}{B:Nat}{e:TypeId}{s n:Nat}{v:Value}{xs:List Value}(h:w.ownsRow B e s v n xs){p:Addr}(hne:v.ownBlock≠some p.block)(u:Value):(w.setCell p u).ownsRow B e s v n xs:=
 h.kept (row:=some p.block) ⟨rfl,rfl,rfl,by simp[World.setCell],λk _ a=>Pd w p u k λe=>a (by rw[e])⟩ (.inr hne)
def aN{w w':World}{B:Nat}{e:TypeId}{s n:Nat}{v:Value}{xs:List Value}(h:w.ownsRow B e s v n xs)(hb:M w w'):w'.ownsRow B e s v n xs:=by
 refine h.kept (row:=none) ⟨hb.os,hb.tape,hb.output,hb.size,λk a _=>hb.block k a⟩ ?_
 cases v.ownBlock<;>simp
def p8{w:World}{B g:Nat}{e:TypeId}{s n:Nat}{v:Value}{xs:List Value}(h:w.ownsRow B e s v n xs)(hg:g<B):v.ownBlock≠some g:=λa=>by have:=(h.lt _ a).1;omega
def Lt{w:World}{B:Nat}{e:TypeId}{s n:Nat}{v:Value}{xs:List Value}(h:w.ownsRow B e s v n xs):v.ownBlock≠some w.heap.size:=λa=>by have:=(h.lt _ a).2;omega
def eI{w:World}{B g:Nat}{e:TypeId}{s n:Nat}{cs:Array Value}(h:Blk w g e cs)(hB:B<=g)(hn:cs.size=n*s)(hm:n<=maxLen):w.ownsRow B e s (V g 0 n n) n cs.toList:=by
 refine⟨by simp[hn],.inr ⟨g,n,cs,rfl,hB,h,OA _,hm,by simp[hn],?_⟩⟩;rw[OT (by simp[hn])]
def MX{w:World}{B:Nat}{e:TypeId}{n b:Nat}{v:Value}{xs:List Value}(h:w.ownsRow B e 1 v n xs)(hb:b<n):
  ∃g c,v=V g 0 n c/\B<=g/\g<w.heap.size/\n<=c/\w.cell? (Y g b)=xs[b]?/\w.frozen? (Y g b)=false/\∀u,(w.setCell (Y g b) u).ownsRow B e 1 v n (xs.set b u):=by
 obtain⟨j,h⟩:=h
 rcases h with⟨_,rfl⟩|⟨g,d,f,rfl,k,m,i,o,p,l⟩
 ·simp at j;omega
 ·have a:Blk w g e f:=m;refine⟨g,d,rfl,k,a.lt,i,?_,a.frozen b,λu=>⟨by simpa using j,.inr ⟨g,d,f.setIfInBounds b u,rfl,k,a.B4 b u,i,o,by simpa using p,?_⟩⟩⟩
  ·rw[a.cell,<-l];rw[Pw zO];simp
  ·rw[<-l,Ru,List.take_set]
def dD(w:World)(t:TypeId)(cs:Array Value)(s n g B:Nat)(hn:cs.size=n*s)(hg:g=w.heap.size)(hB:B=w.heap.size+1):an (w.alloc (.cells cs t)) B s (some (Y g 0)) n cs.toList:=by
 subst hg;subst hB;refine⟨by simp[hn],λ_=>⟨_,rfl,zS,λj u a=>?_⟩⟩;rw[show((Y w.heap.size 0):Addr).add j=(Y w.heap.size j) by unfold Addr.add;split<;>simp_all];rw[Qg]
 simpa using a
def bZ{P:Program}{s:Nat}{w:World}{ops:Array Oper}{rest:List Oper}{o:Oper}{a:Act}{Q:Exit->Act->World->Prop}{t e e':TypeId}{z:Value}{bytes:Nat}(hT:cE P t e z s bytes)(hs0:0<s)
  (hgd:o.guard=none)(sl x:Operand)(ho:o.op=.call {callee:=.builtin .append,args:=#[sl,x],argTypes:=#[t,t]})
  {v:Value}{n B g:Nat}{xs:List Value}(hs:a.eval sl=v)(hm:w.ownsRow B e s v n xs)(hB:B<=w.heap.size)(hg:g=w.heap.size){cs:Array Value}(hx:a.eval x=V g 0 1 1)(hcs:cs.size=s)(h1:∀u∈cs.toList,u.oneCell'=true)
  (hlen:(n+1)*bytes<=140737488355328)(hle:n+1<=maxLen)
  (h:∀v' w',w'.ownsRow B e s v' (n+1) (xs++cs.toList)->w.grownBy w' v.ownBlock->wpList P ops Q rest (a.put o.dst v') w'):
  wpList P ops Q (o::rest) a (w.alloc (.cells cs e')):=by
 subst hg;obtain⟨i,l,m,c,d⟩:=info_parts hT.info;refine wpList_append_own (w.alloc (.cells cs e')) hgd sl x t ho B e i z s bytes hT.under l m c d hT.cells hs0 v n xs hs (hm.alloc _) (Y w.heap.size 0) 1 1 cs.toList hx (by simpa using hcs)
  (λj u p=>?_) h1 hle hlen zT λv' w' q b _=>?_
 ·rw[show((Y w.heap.size 0):Addr).add j=(Y w.heap.size j) by unfold Addr.add;split<;>simp_all];rw[Qg]
  simpa using p
 ·have hg:w.grownBy w' v.ownBlock:=⟨b.os,b.tape,b.output,OJ zS b.size,λk r f=>(b.block k zT f).trans (Qh w _ k r)⟩;exact h v' w' q hg
def tC{P:Program}{s:Nat}{w:World}{o:Oper}{a:Act}{K:Act->World->Prop}{Q:Exit->Act->World->Prop}{t e e':TypeId}{z:Value}{bytes:Nat}(hT:cE P t e z s bytes)(hs0:0<s)
  (sl x:Operand)(ho:o.op=.call {callee:=.builtin .append,args:=#[sl,x],argTypes:=#[t,t]})
  {v:Value}{n B g:Nat}{xs:List Value}(hs:a.eval sl=v)(hm:w.ownsRow B e s v n xs)(hB:B<=w.heap.size)(hg:g=w.heap.size){cs:Array Value}(hx:a.eval x=V g 0 1 1)(hcs:cs.size=s)(h1:∀u∈cs.toList,u.oneCell'=true)
  (hlen:(n+1)*bytes<=140737488355328)(hle:n+1<=maxLen)
  (h:∀v' w',w'.ownsRow B e s v' (n+1) (xs++cs.toList)->w.grownBy w' v.ownBlock->K (a.put o.dst v') w'):
  o.wp P a (w.alloc (.cells cs e')) K Q:=by
 obtain⟨i,j,l,c,d⟩:=info_parts hT.info;refine dC (w.alloc (.cells cs e')) sl x t ho B e i z s bytes hT.under j l c d hT.cells hs0 v n xs hs (hm.alloc _) _ _ 1 1 cs.toList hx (dD w e' cs s 1 g _ zO hg rfl) h1 hle hlen zT λv' w' m b _=>?_;have hg:w.grownBy w' v.ownBlock:=⟨b.os,b.tape,b.output,OJ zS b.size,λk p f=>(b.block k zT f).trans (Qh w _ k p)⟩;exact h v' w' m hg
def aL.alloc{s:Nat}{w0 w:World}{e:TypeId}{v:Value}{n:Nat}{xs:List Value}(h:aL s w0 w e v n xs)(o:Obj):aL s w0 (w.alloc o) e v n xs:=⟨h.own.alloc o,ae h.below o⟩
def aL.lower{s:Nat}{w w1 w2:World}{e:TypeId}{v:Value}{n:Nat}{xs:List Value}(h:aL s w1 w2 e v n xs)(hb:M w w1):aL s w w2 e v n xs:=⟨aP h.own hb.size,af hb h.below⟩
def aL.app{s:Nat}{w0 w w':World}{e:TypeId}{v v':Value}{n n':Nat}{xs xs':List Value}(h:aL s w0 w e v n xs)(hg:w.grownBy w' v.ownBlock)(h':w'.ownsRow w0.heap.size e s v' n' xs'):aL s w0 w' e v' n' xs':=
 ⟨h',h.below.grown hg h.le λk a=>(h.own.lt k a).1⟩
section
open Go.WideShapes Go.ChangeShapes Go.Deep Go.Joins
structure cU(P:Program)(T:TypeId)(n:Nat):Prop where
 agg:(match P.underlying T with|some (.struct _)|some (.array _ _)=>true|_=>false)=true
 size:(P.info? T).map (·.size)=some n
 zero:(((P.info? T).bind (·.zero)).map λz=>z.cells.size)=some n
def zc(P:Program)(T:TypeId):Array Value:=(((P.info? T).bind (·.zero)).map Value.cells).getD #[]
section
variable {P:Program} {T:TypeId} {n:Nat}
def cU.D6(h:cU P T n):(zc P T).size=n:=by
 have:=h.zero;unfold zc
 cases hq:(P.info? T).bind (·.zero)with
 |none=>simp[hq]at this
 |some z=>simp[hq]at this ⊢;exact this
def iA(hT:cU P T n)(w:World)(ad:Addr)(cs:Array Value)(hn:cs.size=n)(hc:∀j v,cs.toList[j]?=some v->w.cell? (ad.add j)=some v):
  (loadVar T ad).run P w=.ok (.agg cs) w:=by
 have b:=run_loadCells_list (P:=P) w ad cs.toList hc;have c:=hT.size;have e:=hT.agg
 cases hu:P.underlying T with
 |none=>simp[hu]at e
 |some d=>
  cases hq:P.info? T with
  |none=>simp[hq]at c
  |some i=>
   have f:i.size=cs.size:=by rw[hn];simpa[hq]using c
   have a:(isAgg T).run P w=.ok true w:=by
    unfold isAgg;rw[Sem.run_bind,run_underlying hu w]
    cases d<;>simp_all
   simp only[QQ,Array.toArray_toList]at b;simp[loadVar,Sem.run_bind,a,sizeOf,typeInfo,hq,f,b]
def nU{o:Oper}(hT:cU P T n)(x:Operand)(ho:o.op=.load T x)
  (ad:Addr)(hx:a.eval x=.pointer (some ad))(cs:Array Value)(hn:cs.size=n)(hc:∀j v,cs.toList[j]?=some v->w.cell? (ad.add j)=some v)(h:K (a.put o.dst (.agg cs)) w):o.wp P a w K Q:=by
 unfold Oper.wp execOp;simp only[ho,hx,Instr.loadAt,Instr.sureAddr,Sem.run_bind,Sem.run_pure,Result.andThen_ok,iA hT w ad cs hn hc];exact h
def aG{rest:List Oper}{o:Oper}(hT:cU P T n)(hgd:o.guard=none)(x:Operand)(ho:o.op=.load T x)
  (ad:Addr)(hx:a.eval x=.pointer (some ad))(cs:Array Value)(hn:cs.size=n)(hc:∀j v,cs.toList[j]?=some v->w.cell? (ad.add j)=some v)(h:wpList P ops Q rest (a.put o.dst (.agg cs)) w):wpList P ops Q (o::rest) a w:=
 wpList_plain hgd λ_ hK=>nU hT x ho ad hx cs hn hc (hK _ _ h)
def fh{rest:List Oper}{o:Oper}(hT:cU P T n)(hgd:Region.wanted o (yielded ops a.tmps)=true)(x:Operand)(ho:o.op=.load T x)
  (ad:Addr)(hx:a.eval x=.pointer (some ad))(cs:Array Value)(hn:cs.size=n)(hc:∀j v,cs.toList[j]?=some v->w.cell? (ad.add j)=some v)(h:wpList P ops Q rest (a.put o.dst (.agg cs)) w):wpList P ops Q (o::rest) a w:=
 wpList_step λK hK=>by
  simp only[hgd,if_true];exact nU hT x ho ad hx cs hn hc (hK _ _ h)
def bE{o:Oper}{ρ:Operand->Value}(hT:cU P T n)(x:Operand)(ho:o.op=.load T x)(ad:Addr)(hx:ρ x=.pointer (some ad))(cs:Array Value)(hn:cs.size=n)(hc:∀j v,cs.toList[j]?=some v->w.cell? (ad.add j)=some v):
  (execOp ρ o).run P w=.ok (.value (.agg cs)) w:=by
 unfold execOp;simp only[ho,hx,Instr.loadAt,Instr.sureAddr,Sem.run_bind,Sem.run_pure,Result.andThen_ok,iA hT w ad cs hn hc]
def wz{D:Nat}(hm:m<=10000){t:TypeId}(hk:P.keyTypeAt m t=true)(hs:(match P.underlying t with|some (.struct _)=>true|_=>false)=true)(cs:Array Value)(hC:cs.size=P.cellsOf t){ls:List Lit}(hl:P.keyLits D t cs.toList=some ls)(w:World):
  (binOp .neq t (.agg cs) (.agg cs)).run P w=.ok (.bool false) w:=by
 have b:(Value.agg cs).formed P t=true:=by
  unfold Value.formed
  cases hu:P.underlying t with
  |none=>simp[hu]at hs
  |some d=>cases d<;>simp[hu]at hs ⊢;exact hC
 obtain⟨r,c,a⟩:=run_equalIn_deep (10000-m) m t hk w D D (.agg cs) (.agg cs) ls ls b b hl hl;have e:=a.2 rfl;subst e;rw[run_neq_struct];rw[show 10000-m+m=10000 by omega]at c;rw[c];rfl
def pg{o:Oper}(hT:cU P T n)(ho:o.op=.alloc T)
  (h:K (a.put o.dst (Z w.heap.size 0)) (w.alloc (.cells (zc P T) T))):o.wp P a w K Q:=by
 have b:=hT.zero
 cases hi:P.info? T with
 |none=>simp[hi]at b
 |some i=>
  cases hzz:i.zero with
  |none=>simp[hi,hzz]at b
  |some z=>
   have e:zc P T=z.cells:=by simp[zc,hi,hzz]
   rw[e]at h;unfold Oper.wp execOp;simp only[ho];simp[Instr.alloc,zeroValue,typeInfo,hi,hzz,newVar,newRow];exact h
def aS{rest:List Oper}{o:Oper}(hT:cU P T n)(hgd:o.guard=none)(ho:o.op=.alloc T)
  (h:wpList P ops Q rest (a.put o.dst (Z w.heap.size 0)) (w.alloc (.cells (zc P T) T))):wpList P ops Q (o::rest) a w:=
 wpList_plain hgd λ_ hK=>pg hT ho (hK _ _ h)
def aT{rest:List Oper}{o:Oper}(hT:cU P T n)(hgd:o.guard=none)(x y:Operand)(ho:o.op=.store T x y)
  (g:Nat)(hg:g=w.heap.size)(hx:a.eval x=Z g 0)(cs E8:Array Value)(hy:a.eval y=.agg cs)(t:TypeId)(hn:cs.size=n)(hold:E8.size=n)(h1:cs.all (·.oneCell')=true)
  (h:wpList P ops Q rest (a.put o.dst undef) (w.alloc (.cells cs t))):wpList P ops Q (o::rest) a (w.alloc (.cells E8 t)):=by
 subst hg;refine wpList_store_row hgd T x y ho w.heap.size cs hx hy t E8 (heap_alloc_last w _) (by rw[hT.size,hn]) zO h1 ?_;rw[World.setRow_alloc_new];exact h
end
section
variable {P:Program} {T:TypeId} {n:Nat}
def BR(hT:cU P T n)(hn0:0<n)(hn1:n<=16777216)(w:World)(t:TypeId)(hu:P.underlying t=some (.slice T))(cs:Array Value)(hn:cs.size=n):
  (Instr.buildSlice t 1 #[(0,.agg cs)]).run P w=.ok (V w.heap.size 0 1 1) (w.alloc (.cells cs T)):=by
 have b:=hT.zero;have c:=hT.size
 cases hi:P.info? T with
 |none=>simp[hi]at b
 |some i=>
  cases hzz:i.zero with
  |none=>simp[hi,hzz]at b
  |some z=>
   have a:i.size=n:=by simpa[hi]using c
   have d:=Great.fill_whole (s:=n) hn0 [.agg cs] ((Array.range (1*i.size)).map (z.cells[·% z.cells.size]!)) (by simp[Value.cells,hn]) (by simp[a]);refine run_buildSlice w t T 1 _ cs i z hu hi hzz (by rw[a];omega) (by rw[a];omega) ?_;rw[a]at d ⊢;simpa[Value.cells]using d
def ul{o:Oper}(hT:cU P T n)(hn0:0<n)(hn1:n<=16777216)(t:TypeId)(x:Operand)(ho:o.op=.buildSlice t 1 #[(0,x)])(hu:P.underlying t=some (.slice T))
  (cs:Array Value)(hx:a.eval x=.agg cs)(hn:cs.size=n)(h:K (a.put o.dst (V w.heap.size 0 1 1)) (w.alloc (.cells cs T))):o.wp P a w K Q:=by
 unfold Oper.wp execOp;have b:=BR hT hn0 hn1 w t hu cs hn;simp only[ho,QS,Pi,Qs,hx,Sem.run_bind,b,Result.andThen_ok];exact h
def pa{rest:List Oper}{o:Oper}(hT:cU P T n)(hn0:0<n)(hn1:n<=16777216)(hgd:o.guard=none)(t:TypeId)(x:Operand)(ho:o.op=.buildSlice t 1 #[(0,x)])(hu:P.underlying t=some (.slice T))
  (cs:Array Value)(hx:a.eval x=.agg cs)(hn:cs.size=n)(h:wpList P ops Q rest (a.put o.dst (V w.heap.size 0 1 1)) (w.alloc (.cells cs T))):wpList P ops Q (o::rest) a w:=
 wpList_plain hgd λ_ hK=>ul hT hn0 hn1 t x ho hu cs hx hn (hK _ _ h)
def ff(w:World)(t:TypeId)(cs:Array Value):∀j v,cs.toList[j]?=some v->(w.alloc (.cells cs t)).cell? (((Y w.heap.size 0):Addr).add j)=some v:=by
 intro j u a;rw[show((Y w.heap.size 0):Addr).add j=(Y w.heap.size j) by unfold Addr.add;split<;>simp_all];rw[Qg]
 simpa using a
def bQ{t:TypeId}(h:Blk w g t cs):∀j v,cs.toList[j]?=some v->w.cell? (((Y g 0):Addr).add j)=some v:=by
 intro j u a;rw[show((Y g 0):Addr).add j=(Y g j) by unfold Addr.add;split<;>simp_all];rw[h.cell]
 simpa using a
def dw{b o:Nat}(h:∀j u,cs.toList[j]?=some u->w.cell? (Y b (o+j))=some u):∀j v,cs.toList[j]?=some v->w.cell? (((Y b o):Addr).add j)=some v:=by
 intro j u a;rw[show((Y b o):Addr).add j=(Y b (o+j)) by unfold Addr.add;split<;>simp_all];exact h j u a
end
def p9(P:Program):Nat->TypeId->Nat->Option TypeId
 |0,_,_=>none
 |m+1,t,i=>match P.underlying t with
  |some .bool|some (.int _)|some .string=>if i=0 then some t else none
  |some (.struct fs)=>(fs.toList.find? λf=>decide (f.offset<=i)&&decide (i<f.offset+P.cellsOf f.type)).bind λf=>p9 P m f.type (i-f.offset)
  |_=>none
section
variable {H:Type} {enc:TypeId×Value→H} {P:Program} {W:World} {base:Nat} {sp:Nat→Bool} {held:Bool}
def tD:∀(m:Nat) (t:TypeId) (i:Nat) (e:TypeId),p9 P m t i=some e->∀(n:Nat) (cs:List Value) (x:DataW H×List MemPlace),DataW.trod enc P W base sp held n t cs=some x->
  ∃(u:Value) (n':Nat) (y:DataW H×List MemPlace),cs[i]?=some u/\DataW.trod enc P W base sp held n' e [u]=some y
 |0,_,_,_,h=>by simp[p9]at h
 |m+1,t,i,e,h=>by
  intro n cs x hx;unfold p9 at h
  cases hu:P.underlying t with
  |none=>simp[hu]at h
  |some kd=>
   cases kd
   case bool=>
    simp only[hu]at h;split at h
    ·rename_i h0
     cases h
     obtain⟨b,rfl,_⟩:=DataW.trod_bool hu hx;exact⟨_,n,x,by simp[h0],hx⟩
    ·cases h
   case int q=>
    simp only[hu]at h;split at h
    ·rename_i h0
     cases h
     obtain⟨b,rfl,_⟩:=DataW.trod_int hu hx;exact⟨_,n,x,by simp[h0],hx⟩
    ·cases h
   case string=>
    simp only[hu]at h;split at h
    ·rename_i h0
     cases h
     obtain⟨b,rfl,_⟩:=DataW.trod_string hu hx;exact⟨_,n,x,by simp[h0],hx⟩
    ·cases h
   case struct fs=>
    simp only[hu,Option.bind_eq_some_iff]at h;obtain⟨f,g,s⟩:=h;have k:=List.find?_some g;have c:=List.mem_of_find?_eq_some g;simp only[OY,decide_eq_true_eq]at k;obtain⟨D,n',_,_,v,B,l⟩:=DataW.trod_struct hu hx;obtain⟨j,w,o⟩:=PJ c;have p:j<fs.size:=by simpa using w
    have d:fs[j]?=some f:=by rw[PE p];simpa using o
    have r:=l j f d;rw[OL zO]at r;obtain⟨u,z,y,a,A⟩:=tD m f.type (i-f.offset) e s n' _ _ r;refine⟨u,z,y,?_,A⟩;rw[Pw zO,PM]at a
    rwa [show f.offset+(i-f.offset)=i by omega]at a
   all_goals (simp[hu]at h)
def ek{m:Nat}{t:TypeId}{i:Nat}{e:TypeId}{k:IntKind}(hl:p9 P m t i=some e)(he:P.underlying e=some (.int k)){n:Nat}{cs:List Value}{x:DataW H×List MemPlace}(hx:DataW.trod enc P W base sp held n t cs=some x):
  ∃z:Int,cs[i]?=some (.int k z)/\(Lit.int k z).wf=true:=by
 obtain⟨u,f,y,b,c⟩:=tD m t i e hl n cs x hx;obtain⟨z,a,_,d⟩:=DataW.trod_int he c;simp at a;subst a;exact⟨z,b,d⟩
end
end
structure ag(L:Nat->Prop)(w w':World):Prop where
 os:w'.os=w.os
 tape:w'.tape=w.tape
 output:w'.output=w.output
 size:w.heap.size<=w'.heap.size
 block:∀k,k<w.heap.size->¬L k->w'.heap[k]?=w.heap[k]?
theorem zK {L : Nat → Prop} {W:World} {p o : Nat} (h : ag L w W) (hp : p < w.heap.size) (hn : ¬L p) : W.cell? ⟨p, o, none⟩ = w.cell? ⟨p, o, none⟩ := World.cell?_of_block (a := ⟨p, o, none⟩) (h.block p hp hn)
def ag.refl(L:Nat->Prop)(w:World):ag L w w:=⟨rfl,rfl,rfl,OA _,λ_ _ _=>rfl⟩
def ag.trans(h:ag L w w')(k:ag L w' w''):ag L w w'':=
 ⟨k.os.trans h.os,k.tape.trans h.tape,k.output.trans h.output,OJ h.size k.size,λj a b=>(k.block j (OV a h.size) b).trans (h.block j a b)⟩
def ag.B5(h:M w w'):ag L w w':=⟨h.os,h.tape,h.output,h.size,λk a _=>h.block k a⟩
def ag.below(h:ag L w w')(hB:B<=w.heap.size)(hL:∀k,L k->B<=k):Below B w w':=
 ⟨h.os,h.tape,h.output,h.size,λk a=>h.block k zO λe=>by have:=hL k e;omega⟩
def ag.setCell(h:ag L w w'){p:Addr}(hp:L p.block\/w.heap.size<=p.block)(u:Value):ag L w (w'.setCell p u):=
 ⟨h.os,h.tape,h.output,by simpa[World.setCell]using h.size,λk b a=>(Pd w' p u k (λe=>by rcases hp with hp|hp;exact a (e▸hp);omega)).trans (h.block k b a)⟩
def ag.alloc(h:ag L w w')(o:Obj):ag L w (w'.alloc o):=
 ⟨h.os,h.tape,h.output,OJ h.size zS,λk a b=>(Qh w' o k (OV a h.size)).trans (h.block k a b)⟩
def ag.drew(h:ag L w w'):ag L w w'.drew:=⟨h.os,h.tape,h.output,h.size,h.block⟩
def ag.drewN(h:ag L w w')(n:Nat):ag L w (w'.drewN n):=⟨h.os,h.tape,h.output,h.size,h.block⟩
def ag.B0(h:ag L w w'){t:TypeId}(hb:Blk w g t cs)(hg:¬L g):Blk w' g t cs:=(h.block g hb.lt hg).trans hb
def ag.reads(h:ag L w w'){s:Nat}(hr:an w B s A n xs)(hB:B<=w.heap.size)(hL:∀ad,A=some ad->0<n->¬L ad.block):an w' B s A n xs:=
 ⟨hr.1,λa=>by
  obtain⟨ad,e,b,c⟩:=hr.2 a;refine⟨ad,e,b,λj u d=>(OI (h.block _ (by rw[gk];omega) (by rw[gk];exact hL ad e a))).trans (c j u d)⟩⟩
def ag.C3(h:ag L w w')(hl:∀k,L k->L' k):ag L' w w':=⟨h.os,h.tape,h.output,h.size,λk a b=>h.block k a λe=>b (hl k e)⟩
def dl{w1:World}(h:ag L w w1)(g:w1.grownBy w' row)(hl:∀k,L k->L' k)(hr:∀k,row=some k->L' k):ag L' w w':=
 ⟨g.os.trans h.os,g.tape.trans h.tape,g.output.trans h.output,OJ h.size g.size,λk a b=>(g.block k (OV a h.size) λe=>b (hr k e.symm)).trans (h.block k a λe=>b (hl k e))⟩
def bH:Array Value->Nat->List Value->Array Value
 |cs,_,[]=>cs
 |cs,o,v::r=>bH (cs.setIfInBounds o v) (o+1) r
def bV:∀(cs:Array Value) (o:Nat),(bH cs o vs).size=cs.size:=by
 induction vs with
 |nil=>intro cs o;rfl
 |cons v r ih=>intro cs o;rw[bH,ih];simp
def lJ:∀(cs:Array Value) (o j:Nat),j<o\/o+vs.length<=j->(bH cs o vs)[j]?=cs[j]?:=by
 induction vs with
 |nil=>intro cs o j _;rfl
 |cons v r ih=>
  intro cs o j h;rw[bH,ih _ _ _ (by simp at h;omega),Array.getElem?_setIfInBounds];rw[Oz (by simp at h;omega)]
def ph:∀(cs:Array Value) (o j:Nat),o+vs.length<=cs.size->j<vs.length->(bH cs o vs)[o+j]?=vs[j]?:=by
 induction vs with
 |nil=>intro cs o j _ h;simp at h
 |cons v r ih=>
  intro cs o j a h;rw[bH];simp only[OC]at a h;obtain _|j:=j
  ·rw[Qt,lJ _ _ _ _ zO,Array.getElem?_setIfInBounds,OB zO,OB zO];rfl
  ·rw[show o+(j+1)=(o+1)+j by omega,ih _ _ _ zT zO];rfl
def Blk.setCells{g:Nat}{t:TypeId}(vs:List Value):∀{w:World} {cs:Array Value} (o:Nat),Blk w g t cs->Blk (w.setCells g o vs) g t (bH cs o vs):=by
 induction vs with
 |nil=>intro w cs o h;exact h
 |cons v r ih=>intro w cs o h;exact ih (o+1) (h.B4 o v)
def vS(hk:k≠g)(vs:List Value):∀(w:World) (o:Nat),(w.setCells g o vs).heap[k]?=w.heap[k]?:=by
 induction vs with
 |nil=>intro w o;rfl
 |cons v r ih=>intro w o;exact(ih _ _).trans (Pd w (Y g o) v k hk)
def pc:∀(w:World) (o:Nat),(w.setCells g o vs).heap.size=w.heap.size/\(w.setCells g o vs).os=w.os/\(w.setCells g o vs).tape=w.tape/\(w.setCells g o vs).output=w.output:=by
 induction vs with
 |nil=>intro w o;exact⟨rfl,rfl,rfl,rfl⟩
 |cons v r ih=>
  intro w o;obtain⟨a,b,c,d⟩:=ih (w.setCell (Y g o) v) (o+1);exact⟨a.trans (by simp[World.setCell]),b,c,d⟩
def aQ(w:World)(B:Nat)(e:TypeId)(s:Nat)(v:Value)(n:Nat)(xs:List Value):Prop:=
 xs.length=n*s/\((v=.slice none 0 0/\n=0)\/∃g off cap cur,v=V g off n cap/\B<=g/\Blk w g e cur/\n<=cap/\cap<=maxLen/\off+cap*s<=cur.size/\∀j u,xs[j]?=some u->cur[off+j]?=some u)
section
variable {w w':World} {B s n:Nat} {e:TypeId} {v:Value} {xs:List Value}
def aQ.F8(w:World)(B:Nat)(e:TypeId)(s:Nat):aQ w B e s (.slice none 0 0) 0 []:=⟨zS,.inl ⟨rfl,rfl⟩⟩
def aQ.C4(h:w.ownsRow B e s v n xs):aQ w B e s v n xs:=by
 refine⟨h.1,?_⟩
 rcases h.2 with f|⟨g,b,c,rfl,i,k,d,l,o,m⟩
 ·exact .inl f
 ·refine .inr ⟨g,0,b,c,rfl,i,k,d,l,zO,λj u a=>?_⟩;rw[<-m]at a;rw[QX]at a;split at a
  ·simpa using a
  ·cases a
def aQ.lt(h:aQ w B e s v n xs):∀k,v.ownBlock=some k->B<=k/\k<w.heap.size:=by
 intro k a
 rcases h.2 with⟨rfl,_⟩|⟨g,d,f,i,rfl,b,c,_⟩
 ·simp[Value.ownBlock]at a
 ·simp[Value.ownBlock]at a;subst a;exact⟨b,c.lt⟩
def aQ.D3(h:aQ w B e s v n xs)(hk:∀k,v.ownBlock=some k->w'.heap[k]?=w.heap[k]?):aQ w' B e s v n xs:=by
 refine⟨h.1,?_⟩
 rcases h.2 with d|⟨g,a,b,c,rfl,f,i,j⟩
 ·exact .inl d
 ·exact .inr ⟨g,a,b,c,rfl,f,(hk g rfl).trans i,j⟩
def aQ.later(h:aQ w B e s v n xs)(hb:M w w'):aQ w' B e s v n xs:=h.D3 λk a=>hb.block k (h.lt k a).2
def aQ.lower{B':Nat}(h:aQ w B e s v n xs)(hb:B'<=B):aQ w B' e s v n xs:=by
 refine⟨h.1,?_⟩
 rcases h.2 with d|⟨g,a,b,c,f,i,j⟩
 ·exact .inl d
 ·exact .inr ⟨g,a,b,c,f,OJ hb i,j⟩
def aQ.ne(h:aQ w B e s v n xs){g:Nat}{t:TypeId}{cs:Array Value}(hg:Blk w g t cs)(hne:e≠t):v.ownBlock≠some g:=by
 rcases h.2 with⟨rfl,_⟩|⟨b,f,i,j,rfl,_,a,_⟩
 ·simp[Value.ownBlock]
 ·intro c;have:b=g:=by simpa[Value.ownBlock]using c
  subst this;unfold Blk at hg a;rw[a]at hg;injection hg with hg;injection hg with _ d;exact hne d
def aQ.form(h:aQ w B e s v n xs):∃A c,v=.slice A n c/\n<=c/\c<=maxLen/\an w w.heap.size s A n xs:=by
 rcases h.2 with⟨rfl,rfl⟩|⟨g,a,b,m,rfl,o,d,f,i,p,k⟩
 ·exact⟨none,0,rfl,OA _,by simp[maxLen],⟨h.1,λh=>absurd h zO⟩⟩
 ·refine⟨_,b,rfl,f,i,h.1,λ_=>⟨_,rfl,d.lt,λj u l=>?_⟩⟩;rw[show((Y g a):Addr).add j=(Y g (a+j)) by unfold Addr.add;split<;>simp_all];rw[d.cell];exact k j u l
def aQ.rest(h:aQ w B e s v (n+1) xs):∃g off cap,v=V g off (n+1) (cap+1)/\n<=cap/\cap<maxLen/\
  aQ w B e s (.slice (if cap+1=1 then some (Y g off)else some (((Y g off):Addr).add s)) n cap) n (xs.drop s):=by
 rcases h.2 with⟨_,o⟩|⟨g,off,cap,b,rfl,d,f,m,p,i,k⟩
 ·omega
 ·obtain⟨cap,rfl⟩:∃c,cap=c+1:=⟨cap-1,zO⟩;refine⟨g,off,cap,rfl,zO,zO,by rw[PW,h.1,Qj];omega,.inr ?_⟩;by_cases l:cap=0
  ·subst l;obtain rfl:n=0:=zO;refine⟨g,off,0,b,zS,d,f,OA _,by simp[maxLen],by simp at i ⊢;omega,λj u a=>?_⟩;have q:=h.1;rw[Pt zO]at a;simp at a
  ·refine⟨g,off+s,cap,b,?_,d,f,zO,zO,by rw[Qj]at i;omega,λj u a=>?_⟩
   ·rw[Oz zO,show((Y g off):Addr).add s=(Y g (off+s)) by unfold Addr.add;split<;>simp_all]
   ·rw[PM]at a;have:=k (s+j) u a
    rwa [<-PQ]at this
end
section
variable {P:Program} {s:Nat} {w:World} {t e e':TypeId} {z:Value} {bytes:Nat}
end
structure aI(g:Nat)(w w':World):Prop where
 B7:ag (λj=>j=g) w w'
 size:w'.heap.size=w.heap.size
def aI.B4(g:Nat)(w:World)(o:Nat)(u:Value):aI g w (w.setCell (Y g o) u):=⟨(ag.refl (λj=>j=g) w).setCell (p:=Y g o) (.inl rfl) u,by simp[World.setCell]⟩
def aI.trans(h:aI g w w')(k:aI g w' w''):aI g w w'':=⟨h.B7.trans k.B7,k.size.trans h.size⟩
def aI.below{w0:World}(h:aI g w w')(hb:Below B w0 w)(hg:B<=g):Below B w0 w':=
 hb.trans ⟨h.B7.os,h.B7.tape,h.B7.output,h.B7.size,λk b=>by
  by_cases a:k<w.heap.size
  ·exact h.B7.block k a zO
  ·rw[Array.getElem?_eq_none (by have:=h.size;omega),Array.getElem?_eq_none zO]⟩
def aI.B0(h:aI g w w'){t:TypeId}(hb:Blk w j t cs)(hne:j≠g):Blk w' j t cs:=h.B7.B0 hb hne
def pi(E8 cs:Array Value)(h:E8.size=cs.size):bH E8 0 cs.toList=cs:=by
 apply Array.ext
 ·rw[bV];exact h
 ·intro i b a;have:=ph cs.toList E8 0 i zT (by simpa using a);rw[PS]at this;rw[PE b]at this;simp[a]at this;exact this
def jx(g:Nat)(vs:List Value):∀(w:World) (o:Nat),aI g w (w.setCells g o vs):=by
 induction vs with
 |nil=>intro w o;exact⟨ag.refl _ w,rfl⟩
 |cons v r ih=>intro w o;exact(aI.B4 g w o v).trans (ih _ _)
section
variable {P:Program} {T:TypeId} {n:Nat}
def cU.N1(hT:cU P T n):(P.info? T).map (·.size)=some n:=hT.size
def Hr{o:Nat}{t:TypeId}(hb:Blk w g t E8)(h:o+m<=E8.size):w.there g o m:=λj a=>⟨by rw[hb.cell,PE zO];rfl,hb.frozen _⟩
def bX{o:Oper}(hT:cU P T n)(x y:Operand)(ho:o.op=.store T x y)(g off:Nat)(hx:a.eval x=Z g off)(cs:Array Value)(hy:a.eval y=.agg cs)
  {t:TypeId}(hb:Blk w g t E8)(hn:cs.size=n)(hfit:off+n<=E8.size)(h1:cs.all (·.oneCell')=true)
  (h:∀w',Blk w' g t (bH E8 off cs.toList)->aI g w w'->K (a.put o.dst undef) w'):o.wp P a w K Q:=
 wp_store_mid T x y ho g off cs hx hy (Hr hb zO) (by rw[hT.N1,hn]) h1 (h _ (hb.setCells cs.toList off) (jx g cs.toList w off))
def dW{rest:List Oper}{o:Oper}(hT:cU P T n)(hgd:o.guard=none)(x y:Operand)(ho:o.op=.store T x y)(g off:Nat)(hx:a.eval x=Z g off)(cs:Array Value)(hy:a.eval y=.agg cs)
  {t:TypeId}(hb:Blk w g t E8)(hn:cs.size=n)(hfit:off+n<=E8.size)(h1:cs.all (·.oneCell')=true)
  (h:∀w',Blk w' g t (bH E8 off cs.toList)->aI g w w'->wpList P ops Q rest (a.put o.dst undef) w'):wpList P ops Q (o::rest) a w:=
 wpList_plain hgd λ_ hK=>bX hT x y ho g off hx cs hy hb hn hfit h1 λw' b c=>hK _ _ (h w' b c)
def ai{rest:List Oper}{o:Oper}(hT:cU P T n)(hgd:o.guard=none)(x y:Operand)(ho:o.op=.store T x y)(g:Nat)(hx:a.eval x=Z g 0)(cs:Array Value)(hy:a.eval y=.agg cs)
  {t:TypeId}(hb:Blk w g t E8)(hn:cs.size=n)(hold:E8.size=n)(h1:cs.all (·.oneCell')=true)
  (h:∀w',Blk w' g t cs->aI g w w'->wpList P ops Q rest (a.put o.dst undef) w'):wpList P ops Q (o::rest) a w:=
 dW hT hgd x y ho g 0 hx cs hy hb hn zO h1 λw' b c=>h w' (by rwa [pi _ _ zO]at b) c
theorem zj {P : Program} {n : Nat} {T : TypeId} {ops : Array Oper} {rest : List Oper} {o : Oper} {a : Act} {w : World} {Q : Exit → Act → World → Prop} (hT : cU P T n) {x y : Operand} {g : Nat} {cs : Array Value} {t : TypeId} {E8 : Array Value} (hb : Blk w g t E8) (h : ∀ w', Blk w' g t cs → aI g w w' → wpList P ops Q rest (a.put o.dst undef) w') (hgd : o.guard = none := by rfl) (ho : o.op = .store T x y := by rfl) (hx : a.eval x = .pointer (some ⟨g, 0, none⟩) := by rfl) (hy : a.eval y = .agg cs := by rfl) (hn : cs.size = n := by rfl) (hold : E8.size = n := by rfl) (h1 : cs.all (·.oneCell') = true := by first | (simp [Value.oneCell']; done) | rfl | exact dy _) : wpList P ops Q (o :: rest) a w := ai hT hgd x y ho g hx cs hy hb hn hold h1 h
def au(hT:cU P T n){t:Tmp}(h:fn.results=#[.cell t T]){ty:TypeId}(hb:Blk w g ty cs)(hn:cs.size=n)(tmps:Array Value)(ht:tmps[t]?.getD undef=Z g 0):(results fn tmps).run P w=.ok (.agg cs) w:=by
 have a:=iA hT w (Y g 0) cs hn (bQ hb);simp[results,h,ht,asAddr,a]
end
def aY{id:Nat}{l:List Oper}(n:Nat)(hm:P.follows .mixedOrders=true)(hB:Region.lexTailB .any l.toArray n=true)
  (h:wpStill P l.toArray w.drew (λa'=>wpList P l.toArray Q (l.drop n) a' w.drew) (l.take n) a):(Code.region id l.toArray true).wp P Q a w:=wp_region_still_tail n hm hB h
theorem zb  {id : Nat} {Q : Exit → Act → World → Prop}   {l : List Oper}  (n : Nat) (k : G) (hm : P.follows .mixedOrders = true := by kernel_rfl) (hB : Region.lexTailB .any l.toArray n = true := by kernel_rfl) (h : G → wpStill P l.toArray w.drew (fun a' => wpList P l.toArray Q (l.drop n) a' w.drew) (l.take n) a := by intro h; simp only [List.take_succ_cons, List.take_zero, List.drop_succ_cons, List.drop_zero]; exact h) : (Code.region id l.toArray true).wp P Q a w := aY n hm hB (h k)
def cM{id:Nat}{l:List Oper}(hm:P.follows .mixedOrders=true)(hB:Region.lexB .any l.toArray=true)
  (h:wpStill P l.toArray w.drew (λa'=>Q .normal a' w.drew) l a):(Code.region id l.toArray true).wp P Q a w:=wp_region_still_lit hm hB h
def fU(cur:Array Value)(o:Nat)(vs:List Value)(h:o+vs.length<=cur.size):(bH cur o vs).toList=cur.toList.take o++(vs++cur.toList.drop (o+vs.length)):=by
 apply QI;intro j;rw[PA];by_cases a:j<o
 ·rw[lJ _ _ _ _ (.inl a),Pk zT,Pw a,PA]
 ·by_cases b:j<o+vs.length
  ·obtain⟨k,rfl⟩:∃k,j=o+k:=⟨j-o,zO⟩;rw[ph _ _ _ _ h zO,Ph zT,Pk zT];congr 1;simp;omega
  ·rw[lJ _ _ _ _ (.inr zO),Ph zT,Ph zT,PM,PA];congr 1;simp;omega
section
variable {P:Program} {T:TypeId}
def DT(w:World)(dT sT ty elem:TypeId)(s g off dLen dCap:Nat)(a:Addr)(sLen sCap:Nat)(cs:List Value){t:TypeId}(hb:Blk w g t cur)
  (hu:P.underlying dT=some (.slice elem))(hs:(P.info? elem).map (·.size)=some s)(hn:cs.length=Nat.min sLen dLen*s)
  (hsrc:∀j v,cs[j]?=some v->w.cell? (a.add j)=some v)(hfit:off+cs.length<=cur.size)(h1:∀v∈cs,v.oneCell'=true):
  (Builtin.copy_ #[dT,sT] ty #[V g off dLen dCap,.slice (some a) sLen sCap]).run P w=.ok (goInt (Nat.min sLen dLen)) (w.setCells g off cs):=by
 have b:=run_storeCells_cells (P:=P) g off cs 0 w (λj e=>by rw[Qt,hb.cell,PE zO];rfl) (λj e=>hb.frozen _) h1
 cases hq:P.info? elem with
 |none=>simp[hq]at hs
 |some i=>
  have d:i.size=s:=by simpa[hq]using hs
  have c:=run_firstCells_some (P:=P) w i.size (Nat.min sLen dLen) a sLen sCap cs (by rw[hn,d]) hsrc;rw[d]at c;simp only[Qt]at b;simp[Builtin.copy_,run_underlying hu,Builtin.lenOf,sizeOf,typeInfo,hq,d,c,b]
def yM{o:Oper}(d x:Operand)(dT sT:TypeId)(ho:o.op=.call {callee:=.builtin .copy,args:=#[d,x],argTypes:=#[dT,sT]})
  {elem:TypeId}{s:Nat}(hu:P.underlying dT=some (.slice elem))(hs:(P.info? elem).map (·.size)=some s)(g off dLen dCap:Nat)(hd:a.eval d=V g off dLen dCap)(ad:Addr)(sLen sCap:Nat)(hx:a.eval x=.slice (some ad) sLen sCap)
  {t:TypeId}(hb:Blk w g t cur)(cs:List Value)(hn:cs.length=Nat.min sLen dLen*s)(hsrc:∀j v,cs[j]?=some v->w.cell? (ad.add j)=some v)(hfit:off+cs.length<=cur.size)(h1:∀v∈cs,v.oneCell'=true)
  (h:∀w',Blk w' g t (bH cur off cs)->aI g w w'->K (a.put o.dst (goInt (Nat.min sLen dLen))) w'):o.wp P a w K Q:=by
 have b:=DT (P:=P) w dT sT o.type elem s g off dLen dCap ad sLen sCap cs hb hu hs hn hsrc hfit h1;unfold Oper.wp execOp;simp only[ho,resolve,invoke,builtin,Sem.run_bind,Sem.run_pure,Result.andThen_ok,QS,Pi,Qs,hd,hx,b];exact h _ (hb.setCells cs off) (jx g cs w off)
def ii{rest:List Oper}{o:Oper}(hgd:o.guard=none)(d x:Operand)(dT sT:TypeId)(ho:o.op=.call {callee:=.builtin .copy,args:=#[d,x],argTypes:=#[dT,sT]})
  {elem:TypeId}{s:Nat}(hu:P.underlying dT=some (.slice elem))(hs:(P.info? elem).map (·.size)=some s)(g off dLen dCap:Nat)(hd:a.eval d=V g off dLen dCap)(ad:Addr)(sLen sCap:Nat)(hx:a.eval x=.slice (some ad) sLen sCap)
  {t:TypeId}(hb:Blk w g t cur)(cs:List Value)(hn:cs.length=Nat.min sLen dLen*s)(hsrc:∀j v,cs[j]?=some v->w.cell? (ad.add j)=some v)(hfit:off+cs.length<=cur.size)(h1:∀v∈cs,v.oneCell'=true)
  (h:∀w',Blk w' g t (bH cur off cs)->aI g w w'->wpList P ops Q rest (a.put o.dst (goInt (Nat.min sLen dLen))) w'):wpList P ops Q (o::rest) a w:=
 wpList_plain hgd λ_ hK=>yM d x dT sT ho hu hs g off dLen dCap hd ad sLen sCap hx hb cs hn hsrc hfit h1 λw' b c=>hK _ _ (h w' b c)
def jd{rest:List Oper}{o:Oper}(hgd:o.guard=none)(x:Operand)(sT:TypeId)(ho:o.op=.call {callee:=.builtin .clear,args:=#[x],argTypes:=#[sT]})
  {elem:TypeId}(hu:P.underlying sT=some (.slice elem))(z:Value)(hz:∀w,(zeroValue elem).run P w=.ok z w)(g off n c:Nat)(hn:0<n)(hx:a.eval x=V g off n c)
  {t:TypeId}(hb:Blk w g t cur)(hfit:off+(Builtin.zeroCells z.cells n).size<=cur.size)(h1:∀v∈(Builtin.zeroCells z.cells n).toList,v.oneCell'=true)
  (h:∀w',Blk w' g t (bH cur off (Builtin.zeroCells z.cells n).toList)->aI g w w'->wpList P ops Q rest (a.put o.dst (.tuple #[])) w'):wpList P ops Q (o::rest) a w:=by
 have b:=run_storeCells_cells (P:=P) g off (Builtin.zeroCells z.cells n).toList 0 w (λj d=>by rw[Qt,hb.cell,PE (by simp at d;omega)];rfl) (λj d=>hb.frozen _) h1;simp only[Qt]at b;obtain⟨m,rfl⟩:∃m,n=m+1:=⟨n-1,zO⟩;refine wpList_plain hgd λK hK=>?_;unfold Oper.wp execOp;simp only[ho,resolve,invoke,builtin,Sem.run_bind,Sem.run_pure,Result.andThen_ok,QS,Pi,Qs,hx];simp[Builtin.clear_,run_underlying hu,hz,b];exact hK _ _ (h _ (hb.setCells _ off) (jx g _ w off))
def kZ{rest:List Oper}{o:Oper}(hgd:o.guard=none)(d x:Operand)(sT:TypeId)(ho:o.op=.call {callee:=.builtin .append,args:=#[d,x],argTypes:=#[sT,sT]})
  {elem:TypeId}{s:Nat}(hu:P.underlying sT=some (.slice elem))(hs:(P.info? elem).map (·.size)=some s)(g off k cap:Nat)(hd:a.eval d=V g off k cap)(ad:Addr)(m c:Nat)(hx:a.eval x=.slice (some ad) m c)
  {t:TypeId}(hb:Blk w g t cur)(cs:List Value)(hn:cs.length=m*s)(hsrc:∀j v,cs[j]?=some v->w.cell? (ad.add j)=some v)(hroom:k+m<=cap)(hfit:off+k*s+cs.length<=cur.size)(h1:∀v∈cs,v.oneCell'=true)
  (h:∀w',Blk w' g t (bH cur (off+k*s) cs)->aI g w w'->wpList P ops Q rest (a.put o.dst (V g off (k+m) cap)) w'):wpList P ops Q (o::rest) a w:=by
 cases hq:P.info? elem with
 |none=>simp[hq]at hs
 |some i=>
  have b:i.size=s:=by simpa[hq]using hs
  have e:=run_append_room_cells (P:=P) w sT o.type elem i hu hq g off k cap ad m c cs (by rw[hn,b]) hsrc h1 hroom (λj f=>by rw[hb.cell,PE (by rw[b];omega)];rfl) (λj _=>hb.frozen _);rw[b]at e;refine wpList_plain hgd λK hK=>?_;unfold Oper.wp execOp;simp only[ho,resolve,invoke,builtin,Sem.run_bind,Sem.run_pure,Result.andThen_ok,QS,Pi,Qs,hd,hx,e];exact hK _ _ (h _ (hb.setCells cs (off+k*s)) (jx g cs w (off+k*s)))
end
def fj{e:TypeId}{s:Nat}(h:w.ownsRow B e s v n xs)(hn:0<n):
  ∃g cap cur,v=V g 0 n cap/\B<=g/\Blk w g e cur/\n<=cap/\cap<=maxLen/\cur.size=cap*s/\cur.toList.take (n*s)=xs:=by
 rcases h.2 with⟨_,a⟩|h
 ·omega
 ·exact h
def lf{e:TypeId}{s:Nat}(hB:B<=g)(hb:Blk w g e cur)(hnc:n<=cap)(hc:cap<=maxLen)(hs:cur.size=cap*s)(ht:cur.toList.take (n*s)=xs)(hl:xs.length=n*s):w.ownsRow B e s (V g 0 n cap) n xs:=
 ⟨hl,.inr ⟨g,cap,cur,rfl,hB,hb,hnc,hc,hs,ht⟩⟩
def d9{s:Nat}{rest:List Oper}{o:Oper}{t e e':TypeId}{z:Value}{bytes:Nat}(hT:cE P t e z s bytes)(hs0:0<s)
  (hgd:o.guard=none)(sl x:Operand)(ho:o.op=.call {callee:=.builtin .append,args:=#[sl,x],argTypes:=#[t,t]})
  (hs:a.eval sl=v)(hm:w.ownsRow B e s v n xs)(hB:B<=w.heap.size)(hg:g=w.heap.size)(hx:a.eval x=V g 0 1 1)(hcs:cs.size=s)(h1:∀u∈cs.toList,u.oneCell'=true)
  (hlen:(n+1)*bytes<=140737488355328)(hle:n+1<=maxLen)
  (h:∀v' w',w'.ownsRow B e s v' (n+1) (xs++cs.toList)->w.grownBy w' v.ownBlock->(v'.ownBlock=v.ownBlock\/∀k,v'.ownBlock=some k->w.heap.size<=k)->wpList P ops Q rest (a.put o.dst v') w'):
  wpList P ops Q (o::rest) a (w.alloc (.cells cs e')):=by
 subst hg;obtain⟨i,m,p,f,j⟩:=info_parts hT.info;refine bP (w.alloc (.cells cs e')) hgd sl x t ho B e i z s bytes hT.under m p f j hT.cells hs0 v n xs hs (hm.alloc _) _ _ 1 1 cs.toList hx (dD w e' cs s 1 w.heap.size _ zO rfl rfl) h1 hle hlen zT λv' w' q c d=>?_;have hg:w.grownBy w' v.ownBlock:=⟨c.os,c.tape,c.output,OJ zS c.size,λk b l=>(c.block k zT l).trans (Qh w _ k b)⟩;refine h v' w' q hg ?_
 rcases d with d|d
 ·exact .inl d
 ·refine .inr λk b=>?_;rw[d]at b;injection b with b;simp at b;omega
def bJ(c:Int):Int:=if c=45 then 1 else if c=46 then 2 else if 48<=c/\c<=57 then c-45 else if c=95 then 13 else if 97<=c/\c<=122 then c-83 else 0
def ik:0<=bJ c/\bJ c<=39:=by unfold bJ;repeat' split<;>omega
def pm{c:Int}(h:122<c):bJ c=0:=by unfold bJ;repeat' split<;>omega
def tE(b:UInt8):Bool:=bJ (b.toNat:Int) !=0
def bd(s:ByteArray):Bool:=decide (1<=s.size)&&(decide (s.size<=20)&&s.data.toList.all tE)
def qG{b:UInt8}:tE b=true↔bJ (b.toNat:Int)≠0:=by unfold tE;simp
def Lu(h1:1<=s.size)(h2:s.size<=20)(h3:∀(k:Nat) (h:k<s.size),bJ (s[k].toNat:Int)≠0):bd s=true:=by
 unfold bd;simp only[OY,decide_eq_true_eq,QT];refine⟨h1,h2,λb a=>?_⟩;obtain⟨k,c,rfl⟩:=PJ a;exact qG.2 (h3 k (by simpa using c))
def dn(h:bd s=true):1<=s.size/\s.size<=20/\∀(k:Nat) (h:k<s.size),bJ (s[k].toNat:Int)≠0:=by
 unfold bd at h;simp only[OY,decide_eq_true_eq,QT]at h;refine⟨h.1,h.2.1,λk a=>qG.1 (h.2.2 _ ?_)⟩;have:s[k]=s.data.toList[k]'(by simpa using a):=rfl;rw[this];exact OR _
def AX(hk:k<s.size)(h:bJ (s[k].toNat:Int)=0):bd s=false:=by
 cases h2:bd s
 ·rfl
 ·exact absurd h ((dn h2).2.2 k hk)
def BS(h:s.size<1):bd s=false:=by
 cases h2:bd s
 ·rfl
 ·have:=(dn h2).1;omega
def DU(h:20<s.size):bd s=false:=by
 cases h2:bd s
 ·rfl
 ·have:=(dn h2).2.1;omega
def BT(s:ByteArray)(pos:Nat)(h:pos<s.size)(ha:¬(s[pos]'h).toNat<128):128<=(Utf8.decode s pos).1:=(decode_high s pos h zO).1
def jy{p:Nat}(h:w.heap[k]?=some (.stringIter s p)):w.iterPos k=p:=by simp[World.iterPos,h]
def idE(s:ByteArray):Int:=if bd s=true then 0 else 2
def jz(h:bd s=false):idE s=2:=by unfold idE;rw[h];rfl
def lT(h:bd s=true):idE s=0:=by unfold idE;rw[h];rfl
def nV(w:World)(h0:0<=c)(h1:c<=2147483647):
  C 63 #[.int .i32 c] w λx w'=>x=.returned (E (bJ c))/\w=w':=by
 by_cases a:c=45
 ·subst a
  go_in
  go_wp2;go_ret;exact⟨rfl,rfl⟩
 by_cases b:c=46
 ·subst b
  go_in
  go_wp2;go_ret;exact⟨rfl,rfl⟩
 by_cases d:c=95
 ·subst d
  go_in
  go_wp2;go_ret;exact⟨rfl,rfl⟩
 have r:(c==45)=false:=by simpa using a
 have s:(c==46)=false:=by simpa using b
 have t:(c==95)=false:=by simpa using d
 by_cases e:48<=c/\c<=57
 ·have f:Hid (bJ c=c-45):=Z1 (by unfold bJ;rw[Oz a,Oz b,OB e]);obtain⟨h,k⟩:=e;have n:IntKind.i32.wrap (c-48)=c-48:=IntWalk.i32_in _ zO;have p:IntKind.u64.wrap (c-48)=c-48:=IntWalk.u64_in _ zO;have q:IntKind.u64.wrap (3+(c-48))=3+(c-48):=IntWalk.u64_in _ zO;clear a b d
  go_in
  go_wp2;go_ret;exact⟨aC (by rw[f.o];omega),rfl⟩
 have i:¬48<=c\/(48<=c/\¬c<=57):=zO;by_cases g:97<=c/\c<=122
 ·have f:Hid (bJ c=c-83):=Z1 (by unfold bJ;rw[Oz a,Oz b,Oz e,Oz d,OB g]);obtain⟨j,l⟩:=g;have n:IntKind.i32.wrap (c-97)=c-97:=IntWalk.i32_in _ zO;have p:IntKind.u64.wrap (c-97)=c-97:=IntWalk.u64_in _ zO;have q:IntKind.u64.wrap (14+(c-97))=14+(c-97):=IntWalk.u64_in _ zO;have u:48<=c:=zO;have v:¬c<=57:=zO;clear a b d e i
  go_in
  go_wp2;go_ret;exact⟨aC (by rw[f.o];omega),rfl⟩
 have m:¬97<=c\/(97<=c/\¬c<=122):=zO;have f:Hid (bJ c=0):=Z1 (by unfold bJ;rw[Oz a,Oz b,Oz e,Oz d,Oz g]);clear a b d e g
 rcases i with h|⟨h,k⟩<;>rcases m with j|⟨j,l⟩
 all_goals
  first
  |omega
  |(go_in
    go_wp2;go_ret;exact⟨aC f.o.symm,rfl⟩)
def dN(s:ByteArray)(hs:s.size<=maxLen)(w:World):
  C 62 #[.string s] w λx w'=>x=.returned (I (idE s))/\M w w':=by
 unfold maxLen at hs;by_cases A:s.size<1
 ·have c:=Z1 (jz (BS A));have l:(s.size:Int)<1:=zO
  go_in
  go_wp2;go_ret;exact⟨aC c.o.symm,Oy _ _⟩
 by_cases B:20<s.size
 ·have c:=Z1 (jz (DU B));have l:¬(s.size:Int)<1:=zO;have t:(20:Int)<s.size:=zO
  go_in
  go_wp2;go_ret;exact⟨aC c.o.symm,Oy _ _⟩
 have l:¬(s.size:Int)<1:=zO;have t:¬(20:Int)<s.size:=zO
 go_in
 go_wp2;go_loopw [] (λwr=>∃(a:Nat),a<=s.size/\wr.heap[w.heap.size]?=some (.stringIter s a)/\M w wr/\Hid (∀(k:Nat) (h:k<s.size),k<a->bJ (s[k].toNat:Int)≠0)) (λwr=>s.size-wr.iterPos w.heap.size)
 case atStart=>exact⟨0,zO,World.iter_heap w s 0,ae (Oy _ w) _,Z1 λk _ h=>zO⟩
 case round=>
  obtain⟨a,N,hit,p,u⟩:=hrel;have e:=jy hit;have D:=Z1 e;clear e;by_cases hlt:a<s.size
  ·by_cases v:(s[a]'hlt).toNat<128
   ·have m:∀b,(Instr.next (Z w.heap.size 0) true b).run prog wr=_:=λb=>Lib.run_next_ascii_at wr w.heap.size s a b hit hlt v;have i:=Lib.iterAt_heap wr w.heap.size s a (a+1) hit;have f:=Lib.below_iterAt p (k:=w.heap.size) (OA _) s (a+1);have y:=Z1 i;clear hit i;by_cases d:bJ ((s[a]'hlt).toNat:Int)=0
    ·have c:=Z1 (jz (AX hlt d));have q:=Z1 d;have g:=Z1 (λW=>nV ((s[a]'hlt).toNat:Int) W zO zO);clear d;generalize bJ ((s[a]'hlt).toNat:Int)=F at*;go_wp2_with fail;refine zY (g.o _) ?_;rw[q.o];go_wp2;go_ret;exact⟨aC c.o.symm,f⟩
    ·have j:(bJ ((s[a]'hlt).toNat:Int)==0)=false:=by simpa using d
     have q:=Z1 d;have g:=Z1 (λW=>nV ((s[a]'hlt).toNat:Int) W zO zO);clear d;generalize n:bJ ((s[a]'hlt).toNat:Int)=F at*;have G:=Z1 n;clear n;go_wp2_with fail;refine zY (g.o _) ?_;go_wp2;go_roundw
     case rel=>
      refine⟨a+1,zO,y.o,f,Z1 λk r H=>?_⟩;by_cases z:k=a
      ·subst z;rw[G.o];exact q.o
      ·exact u.o k r zO
     case measure=>rw[jy y.o,D.o];omega
   ·have O:=BT s a hlt v;have m:∀b,(Instr.next (Z w.heap.size 0) true b).run prog wr=_:=λb=>Lib.run_next_any_at wr w.heap.size s a b hit hlt;have f:=Lib.below_iterAt p (k:=w.heap.size) (OA _) s (a+(Utf8.decode s a).2);have d:bJ ((s[a]'hlt).toNat:Int)=0:=pm zO;have c:=Z1 (jz (AX hlt d));have L:=decode_le s a;have j:bJ ((Utf8.decode s a).1:Int)=0:=pm zO;have g:=Z1 (λW=>nV ((Utf8.decode s a).1:Int) W zO zO);rw[j]at g;clear d j hit;generalize Utf8.decode s a=P at*;go_wp2_with fail;refine zY (g.o _) ?_;go_wp2;go_ret;exact⟨aC c.o.symm,f⟩
  ·have m:∀b,(Instr.next (Z w.heap.size 0) true b).run prog wr=_:=λb=>Lib.run_next_end_at wr w.heap.size s a b hit hlt;have c:=Z1 (lT (Lu zO zO λk r=>u.o k r zO));clear hit;go_wp2;go_ret;exact⟨aC c.o.symm,p⟩
def In6(a b c d e f:Int):Prop:=aq a/\aq b/\aq c/\aq d/\aq e/\aq f
def aD:aq 0:=⟨zP,zP⟩
structure Cl where
 k:Int
 id:ByteArray
 tick:Int
 value:Int
 handle:Int
 a:Int
 b:Int
 c:Int
 d:Int
 e:Int
 f:Int
 deriving DecidableEq
def Cl.arr(x:Cl):Array Value:=#[I x.k,.string x.id,I x.tick,I x.value,I x.handle,I x.a,I x.b,I x.c,I x.d,I x.e,I x.f]
def Cl.val(x:Cl):Value:=.agg x.arr
def Cl.zero:Cl:=⟨0,⟨#[]⟩,0,0,0,0,0,0,0,0,0⟩
structure Cl.ok(x:Cl):Prop where
 k:aq x.k
 tick:aq x.tick
 value:aq x.value
 handle:aq x.handle
 D8:In6 x.a x.b x.c x.d x.e x.f
 L7:x.id.size<=maxLen
def Cl.I2:Cl.zero.ok:=⟨aD,aD,aD,aD,⟨aD,aD,aD,aD,aD,aD⟩,OK _⟩
def Cl.cells(x:Cl):List Value:=x.arr.toList
def cls(l:List Cl):List Value:=l.flatMap Cl.cells
def Cl.C2(x:Cl):x.cells.length=11:=rfl
def BU(l:List Cl):(cls l).length=l.length*11:=db _ 11 Cl.C2 l
def AY{l:List Cl}(h:an w B 11 A n (cls l)):n=l.length:=by
 have:=h.1;rw[BU]at this;omega
def sf{l:List Cl}(h:an w B 11 A n (cls l))(hk:k<l.length):
  ∃b o,A=some (Y b o)/\b<B/\∀j u,l[k].cells[j]?=some u->w.cell? (Y b (o+(k*11+j)))=some u:=
 h.elem Cl.C2 zP (AY h) hk
structure Smp where
 tick:Int
 value:Int
 deriving DecidableEq
def Smp.cells(a:Smp):List Value:=[I a.tick,I a.value]
def smps(l:List Smp):List Value:=l.flatMap Smp.cells
def Smp.C2(a:Smp):a.cells.length=2:=rfl
def dc(l:List Smp):(smps l).length=l.length*2:=db _ 2 Smp.C2 l
def iB{l:List Smp}(h:an w B 2 A n (smps l)):n=l.length:=by
 have:=h.1;rw[dc]at this;omega
def il{l:List Smp}(h:an w B 2 A n (smps l))(hk:k<l.length):
  ∃b o,A=some (Y b o)/\b<B/\w.cell? (Y b (o+k*2))=some (I l[k].tick)/\w.cell? (Y b (o+k*2+1))=some (I l[k].value):=by
 obtain⟨b,o,rfl,c,a⟩:=h.elem Smp.C2 zP (iB h) hk;exact⟨b,o,rfl,c,a 0 _ rfl,a 1 _ rfl⟩
structure K2 where
 hi:Int
 lo:Int
 deriving DecidableEq
def K2.cells(k:K2):List Value:=[E k.hi,E k.lo]
def K2.arr(k:K2):Array Value:=#[E k.hi,E k.lo]
def K2.val(k:K2):Value:=.agg k.arr
def cK(n:Int):Prop:=0<=n/\n<=18446744073709551615
structure K2.ok(k:K2):Prop where
 hi:cK k.hi
 lo:cK k.lo
def cG(l:List K2):List Value:=l.flatMap K2.cells
def K2.C2(k:K2):k.cells.length=2:=rfl
def qH(l:List K2):(cG l).length=l.length*2:=db _ 2 K2.C2 l
structure Pl where
 mn:Int
 mx:Int
 tg:Int
 G9:Int
 G5:Int
 hold:Int
 deriving DecidableEq
def Pl.arr(p:Pl):Array Value:=#[I p.mn,I p.mx,I p.tg,I p.G9,I p.G5,I p.hold]
def Pl.val(p:Pl):Value:=.agg p.arr
def Pl.zero:Pl:=⟨0,0,0,0,0,0⟩
def Pl.ok(p:Pl):Prop:=In6 p.mn p.mx p.tg p.G9 p.G5 p.hold
def Pl.right(p:Pl):Bool:=decide (0<=p.mn/\1<=p.mx/\p.mx<=1073741824/\p.mn<=p.mx/\1<=p.tg/\0<=p.G9/\p.G9<=999/\1<=p.G5/\0<=p.hold)
def Cl.D8(x:Cl):Pl:=⟨x.a,x.b,x.c,x.d,x.e,x.f⟩
structure St where
 count:Int
 sum:Int
 least:Int
 F5:Int
 F3:Int
 deriving DecidableEq
def St.zero:St:=⟨0,0,0,0,0⟩
def St.cells(s:St):List Value:=[I s.count,I s.sum,I s.least,I s.F5,I s.F3]
def St.arr(s:St):Array Value:=#[I s.count,I s.sum,I s.least,I s.F5,I s.F3]
def St.val(s:St):Value:=.agg s.arr
structure St.ok(s:St):Prop where
 count:aq s.count
 sum:aq s.sum
 least:aq s.least
 F5:aq s.F5
 F3:aq s.F3
def az:Adv:=⟨0,0,0,0,0⟩
structure Rp where
 err:Int
 I9:Int
 handle:Int
 stat:St
 E0:Adv
 deriving DecidableEq
def Rp.zero:Rp:=⟨0,0,0,.zero,az⟩
def Rp.of(e:Int):Rp:=⟨e,0,0,.zero,az⟩
def Rp.cells(r:Rp):List Value:=I r.err::I r.I9::I r.handle::(r.stat.cells++r.E0.cells)
def Rp.arr(r:Rp):Array Value:=#[I r.err,I r.I9,I r.handle,I r.stat.count,I r.stat.sum,I r.stat.least,I r.stat.F5,I r.stat.F3,I r.E0.tick,I r.E0.load,I r.E0.want,I r.E0.reps,I r.E0.I8]
def Rp.val(r:Rp):Value:=.agg r.arr
structure Rp.ok(r:Rp):Prop where
 err:aq r.err
 I9:aq r.I9
 handle:aq r.handle
 stat:r.stat.ok
 E0:r.E0.ok
structure Vt where
 kind:Int
 task:Int
 nth:Int
 call:Cl
 rep:Rp
 key:K2
 E0:Adv
 deriving DecidableEq
def Vt.cells(x:Vt):List Value:=I x.kind::I x.task::I x.nth::(x.call.cells++(x.rep.cells++(x.key.cells++x.E0.cells)))
def Vt.arr(x:Vt):Array Value:=x.cells.toArray
def Vt.C2(x:Vt):x.cells.length=34:=rfl
structure Vt.ok(x:Vt):Prop where
 kind:aq x.kind
 task:aq x.task
 nth:aq x.nth
 call:x.call.ok
 rep:x.rep.ok
 key:x.key.ok
 E0:x.E0.ok
def vts(l:List Vt):List Value:=l.flatMap Vt.cells
def hfW(a:Int):Int:=bits BinOp.and IntKind.u64 a 4294967295
def orW(a b:Int):Int:=bits BinOp.or IntKind.u64 a b
def wrW(a:Int):Int:=IntKind.u64.wrap a
def jA(a:Int):cK (wrW a):=by
 unfold wrW cK IntKind.wrap;simp[IntKind.bits,IntKind.signed];omega
def Lv(op:BinOp)(a b:Int):cK (bits op .u64 a b):=by
 unfold bits;split<;>first|exact jA _|(unfold cK;omega)
def mc(a b:Int):cK (orW a b):=Lv _ a b
def KX(a b:Int):Int:=wrW (wrW (a/4294967296*hfW b)+wrW (hfW a*hfW b)/4294967296)
def KY(a b:Int):Int:=wrW (hfW (KX a b)+wrW (hfW a*(b/4294967296)))
def me(a b:Int):K2:=⟨wrW (wrW (wrW (a/4294967296*(b/4294967296))+KX a b/4294967296)+KY a b/4294967296),orW (wrW (KY a b*4294967296)) (hfW (wrW (hfW a*hfW b)))⟩
def sg(x y:K2):Int:=(x.lo+y.lo)%18446744073709551616
def nW(x y:K2):Int:=(x.lo+y.lo)/18446744073709551616
def si(x y:K2):Int:=(x.hi+y.hi+nW x y)%18446744073709551616
def wa(x y:K2):Int:=(x.hi+y.hi+nW x y)/18446744073709551616
def fk(x y:K2):K2×Bool:=if wa x y=0 then(⟨si x y,sg x y⟩,true)else(⟨0,0⟩,false)
def bM(x y:K2):Int:=if x=y then 0 else if x.hi<y.hi\/(x.hi=y.hi/\x.lo<y.lo)then -1 else 1
def AZ{x y:K2}(hx:x.ok)(hy:y.ok):(fk x y).1.ok:=by
 unfold fk;split
 ·exact⟨by unfold cK si;dsimp only;omega,by unfold cK sg;dsimp only;omega⟩
 ·exact⟨by unfold cK;decide,by unfold cK;decide⟩
def lU(a b:Int):(me a b).ok:=⟨jA _,mc _ _⟩
def qX(a b:Int)(w:World)(ha:cK a)(hb:cK b):
  C 170 #[E a,E b] w (J (.agg #[E (me a b).hi,E (me a b).lo]) w):=by
 obtain⟨c,d⟩:=ha;obtain⟨f,g⟩:=hb
 go_in
 go_wp2;exact OH (v:=.agg #[E (me a b).hi,E (me a b).lo]) (by simp[results,results170,go_sem];exact⟨rfl,rfl⟩) rfl ⟨rfl,by exact(ae (Oy _ _) _)⟩
def um(x y c:Int)(hx:0<=x)(hy:0<=y)(hc0:0<=c)(hc:c<=1)(w:World):
  (callFunc 220 #[E x,E y,E c]).run prog w=.ok (.value (.tuple #[E ((x+y+c)%18446744073709551616),E ((x+y+c)/18446744073709551616)])) w:=by
 rw[run_callFunc_extern func220 zR zR zR (e:=add64Entry) zR,run_add64 x y c hx hy hc0 hc];rfl
def qY(x y:K2)(w:World)(hx:x.ok)(hy:y.ok):
  C 197 #[x.val,y.val] w (J (.tuple #[.agg #[E (fk x y).1.hi,E (fk x y).1.lo],.bool (fk x y).2]) w):=by
 obtain⟨⟨n,B⟩,p,D⟩:=hx;obtain⟨⟨q,F⟩,r,G⟩:=hy;obtain⟨a,b⟩:=x;obtain⟨c,f⟩:=y;simp only at n B p D q F r G;unfold K2.val K2.arr;simp only;have s:=um b f 0 p r (Int.le_refl 0) zP;rw[Int.add_zero]at s;have i:sg ⟨a,b⟩ ⟨c,f⟩=(b+f)%18446744073709551616:=rfl;have g:nW ⟨a,b⟩ ⟨c,f⟩=(b+f)/18446744073709551616:=rfl;have j:si ⟨a,b⟩ ⟨c,f⟩=(a+c+nW ⟨a,b⟩ ⟨c,f⟩)%18446744073709551616:=rfl;have k:wa ⟨a,b⟩ ⟨c,f⟩=(a+c+nW ⟨a,b⟩ ⟨c,f⟩)/18446744073709551616:=rfl;have t:fk ⟨a,b⟩ ⟨c,f⟩=if wa ⟨a,b⟩ ⟨c,f⟩=0 then(⟨si ⟨a,b⟩ ⟨c,f⟩,sg ⟨a,b⟩ ⟨c,f⟩⟩,true)else(⟨0,0⟩,false):=rfl
 rw[<-i,<-g]at s;have H:=um a c (nW ⟨a,b⟩ ⟨c,f⟩) n q (by rw[g];omega) (by rw[g];omega);rw[<-j,<-k]at H;generalize nW ⟨a,b⟩ ⟨c,f⟩=L at*;generalize sg ⟨a,b⟩ ⟨c,f⟩=u at*;generalize si ⟨a,b⟩ ⟨c,f⟩=z at*;generalize wa ⟨a,b⟩ ⟨c,f⟩=l at*;have A:=Z1 t;clear t i g j k;by_cases h:l=0
 ·have m:Hid (fk ⟨a,b⟩ ⟨c,f⟩=(⟨z,u⟩,true)):=Z1 (by rw[A.o,OB h]);have d:(l !=0)=false:=by simp[h]
  clear h
  go_in
  go_wp2;rw[m.o];exact OH (v:=.tuple #[.agg #[E z,E u],.bool true]) (by simp[results,results197,go_sem]) rfl ⟨rfl,by first|exact ae (ae (ae (Oy _ _) _) _) _|exact fd (ae (ae (ae (Oy _ _) _) _) _) _⟩
 ·have m:Hid (fk ⟨a,b⟩ ⟨c,f⟩=(⟨0,0⟩,false)):=Z1 (by rw[A.o,Oz h]);have d:(l !=0)=true:=by simp[h]
  clear h
  go_in
  go_wp2;rw[m.o];exact OH (v:=.tuple #[.agg #[E 0,E 0],.bool false]) (by simp[results,results197,go_sem]) rfl ⟨rfl,by first|exact ae (ae (ae (Oy _ _) _) _) _|exact fd (ae (ae (ae (Oy _ _) _) _) _) _⟩
def sat(x:Int):Int:=if 9223372036854775807<x then 9223372036854775807 else if x < -9223372036854775808 then -9223372036854775808 else x
def wB(x:Int):aq (sat x):=by unfold aq sat;split<;>(try split)<;>omega
def DY(x:Int)(h:aq x):sat x=x:=by unfold sat aq at*;rw[Oz zO,Oz zO]
def wC(x:Int)(h:9223372036854775807<x):sat x=9223372036854775807:=OB h
def MZ(x:Int)(h:x < -9223372036854775808):sat x= -9223372036854775808:=by unfold sat;rw[Oz zO,OB h]
def ke(a b:Int)(w:World)(ha:aq a)(hb:aq b):
  C 165 #[I a,I b] w λe w'=>e=.returned (I (sat (a+b)))/\w=w':=by
 obtain⟨s,t⟩:=ha;obtain⟨u,v⟩:=hb;by_cases f:9223372036854775807<a+b
 ·have c:=Z1 (wC _ f);have d:wrap64 (a+b)=a+b-18446744073709551616:=by unfold wrap64;omega
  have g:a+b-18446744073709551616<=0:=zO;have ha:0<a:=zO;have hb:0<b:=zO;have x:=Z1 d;have h:wrap64 (a+b)<=0:=by rw[d];exact g
  clear d f g
  go_in
  go_wp2;go_ret;exact⟨aC c.o.symm,rfl⟩
 ·by_cases i:a+b < -9223372036854775808
  ·have c:=Z1 (MZ _ i);have d:wrap64 (a+b)=a+b+18446744073709551616:=by unfold wrap64;omega
   have ha:a<0:=zO;have hb:b<0:=zO;have h:0<=wrap64 (a+b):=by rw[d];omega
   clear d f i
   go_in
   go_wp2;go_ret;exact⟨aC c.o.symm,rfl⟩
  ·have c:=Z1 (DY (a+b) ⟨zO,zO⟩);by_cases k:0<a/\0<b
   ·obtain⟨n,p⟩:=k;have l:0<a+b:=zO
    go_in
    go_wp2;go_ret;exact⟨aC c.o.symm,rfl⟩
   ·by_cases m:a<0/\b<0
    ·obtain⟨q,r⟩:=m;have l:a+b<0:=zO
     go_in
     go_wp2;go_ret;exact⟨aC c.o.symm,rfl⟩
    ·by_cases ha:0<a
     ·have hb:¬0<b:=zO;have j:¬a<0:=zO
      go_in
      go_wp2;go_ret;exact⟨aC c.o.symm,rfl⟩
     ·by_cases j:a<0
      ·have hb:¬b<0:=zO
       go_in
       go_wp2;go_ret;exact⟨aC c.o.symm,rfl⟩
      ·go_in
       go_wp2;go_ret;exact⟨aC c.o.symm,rfl⟩
def Be(t:Bool)(w:World):C 199 #[.bool t] w λe w'=>e=.returned (I (if t then 1 else 0))/\w=w':=by
 cases t
 all_goals
  go_in
  go_wp2;go_ret;exact⟨rfl,rfl⟩
def Bf(a b:Int)(w:World)(ha:aq a)(hb:aq b):
  C 166 #[I a,I b] w λe w'=>e=.returned (I (sat (a-b)))/\w=w':=by
 obtain⟨l,m⟩:=ha;obtain⟨n,p⟩:=hb;by_cases hb:b= -9223372036854775808
 ·have f:(b== -9223372036854775808)=true:=by simpa using hb
  have g:=wB (a+9223372036854775807);by_cases h:a<0
  ·have i:sat (a+9223372036854775807)=a+9223372036854775807:=DY _ ⟨zO,zO⟩;have c:sat (sat (a+9223372036854775807)+(if true then 1 else 0))=sat (a-b):=by rw[i,hb];simp;congr 1;omega
   have d:=Z1 c;clear i c hb
   go_in
   go_wp2_with fail;refine zY (ke _ _ _ ⟨zO,zO⟩ ⟨zO,zO⟩) ?_;go_wp2_with fail;refine zY (Be _ _) ?_;go_wp2_with fail;refine zY (ke _ _ _ g ⟨zP,zP⟩) ?_;go_wp2;go_ret;exact⟨aC d.o,rfl⟩
  ·have c:sat (sat (a+9223372036854775807))=sat (a-b):=by
    rw[hb,wC (a - -9223372036854775808) zO];by_cases j:a=0
    ·rw[j];decide
    ·rw[wC (a+9223372036854775807) zO];decide
   have d:=Z1 c;clear c hb
   go_in
   go_wp2_with fail;refine zY (ke _ _ _ ⟨zO,zO⟩ ⟨zO,zO⟩) ?_;go_wp2_with fail;refine zY (Be _ _) ?_;go_wp2_with fail;refine zY (ke _ _ _ g ⟨zP,zP⟩) ?_;go_wp2;go_ret;exact⟨aC d.o,rfl⟩
 ·have f:(b== -9223372036854775808)=false:=by simpa using hb
  have k: -9223372036854775808<b:=zO;clear hb
  go_in
  go_wp2_with fail;refine zY (ke _ _ _ ⟨zO,zO⟩ ⟨zO,zO⟩) ?_;go_wp2;go_ret;exact⟨aC (by rw[Int.sub_eq_add_neg]),rfl⟩
section
variable {P:Program} {ops:Array Oper} {l:List Oper} {Q:Exit→Act→World→Prop} {S S':World→Prop}
def ay{id:Nat}(hm:P.follows .mixedOrders=true)(hS:S w.drew)
  (h:wpAnyH P .any ops Q S ops.size (Array.replicate ops.size false) a w.drew):(Code.region id ops true).wp P Q a w:=
 wp_region_held_drew hm hS λ_=>h
def ar(hr:Region.ready .any ops listed=[])(h:Q .normal a w):wpAnyH P .any ops Q S fuel listed a w:=
 wpAnyH_done hr h fuel
def ac{o:Oper}(ho:l[i]?=some o)
  (hB:(Region.noSelect l.toArray&&Region.free .any l.toArray listed i&&(Region.ready .any l.toArray listed).contains i)=true)
  (hQ:∀c a w,Q (.panic c) (a.put o.dst v) w->Q (.panic c) a w)(hS:S w)(hg:Region.wanted o (yielded l.toArray a.tmps)=true)
  (hy:∀w,S w->(execOp a.eval o).run P w=.ok (.value v) w)
  (h:wpAnyH P .any l.toArray Q S fuel (listed.setIfInBounds i true) (a.put o.dst v) w):wpAnyH P .any l.toArray Q S (fuel+1) listed a w:=by
 simp only[OY]at hB;exact wpAnyH_take (by simpa using ho) hB.1.1 hB.1.2 hB.2 hQ (.inl ⟨hg,hy⟩) hS h
def aJ{o:Oper}(ho:l[i]?=some o)
  (hB:(Region.noSelect l.toArray&&Region.free .any l.toArray listed i&&(Region.ready .any l.toArray listed).contains i)=true)
  (hQ:∀c a w,Q (.panic c) (a.put o.dst undef) w->Q (.panic c) a w)(hS:S w)(hg:Region.wanted o (yielded l.toArray a.tmps)=false)
  (h:wpAnyH P .any l.toArray Q S fuel (listed.setIfInBounds i true) (a.put o.dst undef) w):wpAnyH P .any l.toArray Q S (fuel+1) listed a w:=by
 simp only[OY]at hB;exact wpAnyH_take (by simpa using ho) hB.1.1 hB.1.2 hB.2 hQ (.inr ⟨hg,rfl⟩) hS h
def aj{o:Oper}(hr:Region.ready .any l.toArray listed=[i])(ho:l[i]?=some o)
  (hg:Region.wanted o (yielded l.toArray a.tmps)=true)
  (hc:∀K:Act->World->Prop,(∀a' w',S w'->wpAnyH P .any l.toArray Q S fuel (listed.setIfInBounds i true) a' w'->K a' w')->Oper.wp P o a w K Q):wpAnyH P .any l.toArray Q S (fuel+1) listed a w:=by
 refine wpAnyH_all hr zS λj c=>?_;obtain rfl:j=i:=by simpa using c
 unfold wpOp;have b:l.toArray[j]?=some o:=by simpa using ho
 simp only[b];rw[OB hg];exact .inl (hc _ λa' w' d e=>⟨d,e⟩)
theorem zD {α : Type _} {a : α} {l : List α} : (a :: l).length = l.length + 1 := List.length_cons
theorem zE {α : Type _} : ([] : List α).length = 0 := List.length_nil
theorem zG {α : Type _} {l : List α} : l.toArray.size = l.length := List.size_toArray
theorem zf  (h : p := by first | (go_simp; done) | (go_simp; with_reducible rfl)) : p := h
theorem zn  (k : G') (h : G' → G := by intro h; first | (simp only [Act.put, List.setIfInBounds_toArray, List.set_cons_zero, List.set_cons_succ]; exact h) | exact h) : G := h k
theorem zp  {o : Oper}      (h : wpAnyH P .any l.toArray Q S fuel listed' a' w) (ho : l[i]? = some o := by rfl) (hB : (Region.noSelect l.toArray && Region.free .any l.toArray listed i && (Region.ready .any l.toArray listed).contains i) = true := by decide +kernel) (hQ : ∀ c a w, Q (.panic c) (a.put o.dst v) w → Q (.panic c) a w := by intro _ _ _ h; exact h) (hS : S w := by assumption) (hg : Region.wanted o (yielded l.toArray a.tmps) = true := by rfl)
    (hy : ∀ w, S w → (execOp a.eval o).run P w = .ok (.value v) w := by intro W hW; go_simp; first | done | with_reducible rfl | (simp (disch := first | assumption | omega) only [Below.cell hW]; go_simp; done) | (simp (disch := first | assumption | omega) only [zK hW]; go_simp; done) | (simp (disch := first | assumption | omega) only [Below.cell hW.1]; go_simp; done) | (simp (disch := first | assumption | omega) only [zK hW.1]; go_simp; done) | (simp only [Blk.cell hW.1]; first | (go_simp; done) | rfl) | (simp only [Blk.cell hW.2]; first | (go_simp; done) | rfl)) (hl : listed.setIfInBounds i true = listed' := by first | (simp only [List.setIfInBounds_toArray, List.set_cons_zero, List.set_cons_succ] <;> rfl) | rfl) (ha : a.put o.dst v = a' := by first | (simp only [Act.put, List.setIfInBounds_toArray, List.set_cons_zero, List.set_cons_succ] <;> rfl) | rfl) : wpAnyH P .any l.toArray Q S (fuel + 1) listed a w := by
  subst hl
  subst ha
  exact ac i ho hB hQ hS hg hy h
theorem zq  {o : Oper} (v : Value)     (h : wpAnyH P .any l.toArray Q S fuel listed' a' w) (ho : l[i]? = some o := by rfl) (hB : (Region.noSelect l.toArray && Region.free .any l.toArray listed i && (Region.ready .any l.toArray listed).contains i) = true := by kernel_rfl) (hQ : ∀ c a w, Q (.panic c) (a.put o.dst v) w → Q (.panic c) a w := by intro _ _ _ h; exact h) (hS : S w := by assumption) (hg : Region.wanted o (yielded l.toArray a.tmps) = true := by rfl) (hy : ∀ w, S w → (execOp a.eval o).run P w = .ok (.value v) w) (hl : listed.setIfInBounds i true = listed' := by first | (simp only [List.setIfInBounds_toArray, List.set_cons_zero, List.set_cons_succ] <;> rfl) | rfl) (ha : a.put o.dst v = a' := by first | (simp only [Act.put, List.setIfInBounds_toArray, List.set_cons_zero, List.set_cons_succ] <;> rfl) | rfl) : wpAnyH P .any l.toArray Q S (fuel + 1) listed a w := by
  subst hl
  subst ha
  exact ac i ho hB hQ hS hg hy h
theorem zs  {o : Oper}     (h : wpAnyH P .any l.toArray Q S fuel listed' a' w) (ho : l[i]? = some o := by rfl) (hB : (Region.noSelect l.toArray && Region.free .any l.toArray listed i && (Region.ready .any l.toArray listed).contains i) = true := by decide +kernel) (hQ : ∀ c a w, Q (.panic c) (a.put o.dst undef) w → Q (.panic c) a w := by intro _ _ _ h; exact h) (hS : S w := by assumption) (hg : Region.wanted o (yielded l.toArray a.tmps) = false := by rfl) (hl : listed.setIfInBounds i true = listed' := by first | (simp only [List.setIfInBounds_toArray, List.set_cons_zero, List.set_cons_succ] <;> rfl) | rfl) (ha : a.put o.dst undef = a' := by first | (simp only [Act.put, List.setIfInBounds_toArray, List.set_cons_zero, List.set_cons_succ] <;> rfl) | rfl) : wpAnyH P .any l.toArray Q S (fuel + 1) listed a w := by
  subst hl
  subst ha
  exact aJ i ho hB hQ hS hg h
theorem zo  {o : Oper}    
    (hc : ∀ K : Act → World → Prop, (∀ a' w', S w' → wpAnyH P .any l.toArray Q S fuel (listed.setIfInBounds i true) a' w' → K a' w') → Oper.wp P o a w K Q) (hr : Region.ready .any l.toArray listed = [i] := by kernel_rfl) (ho : l[i]? = some o := by rfl)
    (hg : Region.wanted o (yielded l.toArray a.tmps) = true := by rfl) : wpAnyH P .any l.toArray Q S (fuel + 1) listed a w := aj i hr ho hg hc
theorem zd     (h : Q .normal a w) (hr : Region.ready .any ops listed = [] := by decide +kernel) : wpAnyH P .any ops Q S fuel listed a w := ar hr h
structure zW (p : Prop) : Prop where
 x : p
theorem zg  (k : G') (h : zW G' → G := by intro h; (first | refine zp 0 ?_ | refine zs 0 ?_ | skip); (first | refine zp 1 ?_ | refine zs 1 ?_ | skip); (first | refine zp 2 ?_ | refine zs 2 ?_ | skip); (first | refine zp 3 ?_ | refine zs 3 ?_ | skip); (first | refine zp 4 ?_ | refine zs 4 ?_ | skip); (first | refine zp 5 ?_ | refine zs 5 ?_ | skip); (first | refine zp 6 ?_ | refine zs 6 ?_ | skip); (first | refine zp 7 ?_ | refine zs 7 ?_ | skip); (first | refine zp 8 ?_ | refine zs 8 ?_ | skip); (first | refine zp 9 ?_ | refine zs 9 ?_ | skip); (first | refine zp 10 ?_ | refine zs 10 ?_ | skip); (first | refine zp 11 ?_ | refine zs 11 ?_ | skip); (first | refine zp 12 ?_ | refine zs 12 ?_ | skip); (first | refine zp 13 ?_ | refine zs 13 ?_ | skip); (first | refine zp 14 ?_ | refine zs 14 ?_ | skip); (first | refine zp 15 ?_ | refine zs 15 ?_ | skip); (first | refine zp 16 ?_ | refine zs 16 ?_ | skip); (first | refine zp 17 ?_ | refine zs 17 ?_ | skip); (first | refine zp 18 ?_ | refine zs 18 ?_ | skip); (first | refine zp 19 ?_ | refine zs 19 ?_ | skip); (first | refine zp 20 ?_ | refine zs 20 ?_ | skip); (first | refine zp 21 ?_ | refine zs 21 ?_ | skip); (first | refine zp 22 ?_ | refine zs 22 ?_ | skip); (first | refine zp 23 ?_ | refine zs 23 ?_ | skip); (first | refine zp 24 ?_ | refine zs 24 ?_ | skip); (first | refine zp 25 ?_ | refine zs 25 ?_ | skip); (first | refine zp 26 ?_ | refine zs 26 ?_ | skip); (first | refine zp 27 ?_ | refine zs 27 ?_ | skip); (first | refine zp 28 ?_ | refine zs 28 ?_ | skip); (first | refine zp 29 ?_ | refine zs 29 ?_ | skip); (first | refine zp 30 ?_ | refine zs 30 ?_ | skip); (first | refine zp 31 ?_ | refine zs 31 ?_ | skip); (first | refine zp 32 ?_ | refine zs 32 ?_ | skip); (first | refine zp 33 ?_ | refine zs 33 ?_ | skip); (first | refine zp 34 ?_ | refine zs 34 ?_ | skip); (first | refine zp 35 ?_ | refine zs 35 ?_ | skip); (first | refine zp 36 ?_ | refine zs 36 ?_ | skip); (first | refine zp 37 ?_ | refine zs 37 ?_ | skip); (first | refine zp 38 ?_ | refine zs 38 ?_ | skip); (first | refine zp 39 ?_ | refine zs 39 ?_ | skip); (try refine zd ?_); exact h.x) : G := h ⟨k⟩
theorem za {id : Nat}    (hS : S w.drew) (k : G) (hm : P.follows .mixedOrders = true := by kernel_rfl) (h : zW G → wpAnyH P .any ops Q S ops.size (Array.replicate ops.size false) a w.drew := by intro h; (simp only [List.length_cons, List.length_nil, Nat.reduceAdd, List.size_toArray]); refine zg ?_; exact h.x) : (Code.region id ops true).wp P Q a w := ay hm hS (h ⟨k⟩)
theorem zk {K:Act → World → Prop}    (hK : ∀ a w, S w → H a w → K a w) (s : S w) (k : G) (x : K a w = X := by rfl) (h : zW G → H a w := by intro h; (try simp only [Act.put, List.setIfInBounds_toArray, List.set_cons_zero, List.set_cons_succ]); refine zg ?_; exact h.x) : X := x ▸ hK a w s (h ⟨k⟩)
theorem zM  {o : Oper}      (h : wpAnyH P .any l.toArray Q S fuel listed' a' w) (ho : l[i]? = some o := by rfl) (hB : (Region.noSelect l.toArray && Region.free .any l.toArray listed i && (Region.ready .any l.toArray listed).contains i) = true := by decide +kernel) (hQ : ∀ c a w, Q (.panic c) (a.put o.dst v) w → Q (.panic c) a w := by intro _ _ _ h; exact h) (hS : S w := by assumption) (hg : Region.wanted o (yielded l.toArray a.tmps) = true := by rfl)
    (hy : ∀ w, S w → (execOp a.eval o).run P w = .ok (.value v) w := by intro W hW; go_simp; first | done | with_reducible rfl) (hl : listed.setIfInBounds i true = listed' := by first | (simp only [List.setIfInBounds_toArray, List.set_cons_zero, List.set_cons_succ] <;> rfl) | rfl) (ha : a.put o.dst v = a' := by first | (simp only [Act.put, List.setIfInBounds_toArray, List.set_cons_zero, List.set_cons_succ] <;> rfl) | rfl) : wpAnyH P .any l.toArray Q S (fuel + 1) listed a w := by
  subst hl
  subst ha
  exact ac i ho hB hQ hS hg hy h
theorem zL  (k : G') (h : zW G' → G := by intro h; (first | refine zM 0 ?_ | refine zs 0 ?_ | skip); (first | refine zM 1 ?_ | refine zs 1 ?_ | skip); (first | refine zM 2 ?_ | refine zs 2 ?_ | skip); (first | refine zM 3 ?_ | refine zs 3 ?_ | skip); (first | refine zM 4 ?_ | refine zs 4 ?_ | skip); (first | refine zM 5 ?_ | refine zs 5 ?_ | skip); (first | refine zM 6 ?_ | refine zs 6 ?_ | skip); (first | refine zM 7 ?_ | refine zs 7 ?_ | skip); (first | refine zM 8 ?_ | refine zs 8 ?_ | skip); (first | refine zM 9 ?_ | refine zs 9 ?_ | skip); (first | refine zM 10 ?_ | refine zs 10 ?_ | skip); (first | refine zM 11 ?_ | refine zs 11 ?_ | skip); (first | refine zM 12 ?_ | refine zs 12 ?_ | skip); (first | refine zM 13 ?_ | refine zs 13 ?_ | skip); (first | refine zM 14 ?_ | refine zs 14 ?_ | skip); (first | refine zM 15 ?_ | refine zs 15 ?_ | skip); (first | refine zM 16 ?_ | refine zs 16 ?_ | skip); (first | refine zM 17 ?_ | refine zs 17 ?_ | skip); (first | refine zM 18 ?_ | refine zs 18 ?_ | skip); (first | refine zM 19 ?_ | refine zs 19 ?_ | skip); (first | refine zM 20 ?_ | refine zs 20 ?_ | skip); (first | refine zM 21 ?_ | refine zs 21 ?_ | skip); (first | refine zM 22 ?_ | refine zs 22 ?_ | skip); (first | refine zM 23 ?_ | refine zs 23 ?_ | skip); (first | refine zM 24 ?_ | refine zs 24 ?_ | skip); (first | refine zM 25 ?_ | refine zs 25 ?_ | skip); (first | refine zM 26 ?_ | refine zs 26 ?_ | skip); (first | refine zM 27 ?_ | refine zs 27 ?_ | skip); (first | refine zM 28 ?_ | refine zs 28 ?_ | skip); (first | refine zM 29 ?_ | refine zs 29 ?_ | skip); (first | refine zM 30 ?_ | refine zs 30 ?_ | skip); (first | refine zM 31 ?_ | refine zs 31 ?_ | skip); (first | refine zM 32 ?_ | refine zs 32 ?_ | skip); (first | refine zM 33 ?_ | refine zs 33 ?_ | skip); (first | refine zM 34 ?_ | refine zs 34 ?_ | skip); (first | refine zM 35 ?_ | refine zs 35 ?_ | skip); (first | refine zM 36 ?_ | refine zs 36 ?_ | skip); (first | refine zM 37 ?_ | refine zs 37 ?_ | skip); (first | refine zM 38 ?_ | refine zs 38 ?_ | skip); (first | refine zM 39 ?_ | refine zs 39 ?_ | skip); (try refine zd ?_); exact h.x) : G := h ⟨k⟩
theorem zH {id : Nat}    (hS : S w.drew) (k : G) (hm : P.follows .mixedOrders = true := by kernel_rfl) (h : zW G → wpAnyH P .any ops Q S ops.size (Array.replicate ops.size false) a w.drew := by intro h; (simp only [List.length_cons, List.length_nil, Nat.reduceAdd, List.size_toArray]); refine zL ?_; exact h.x) : (Code.region id ops true).wp P Q a w := ay hm hS (h ⟨k⟩)
theorem zJ {K:Act → World → Prop}    (hK : ∀ a w, S w → H a w → K a w) (s : S w) (k : G) (x : K a w = X := by rfl) (h : zW G → H a w := by intro h; (try simp only [Act.put, List.setIfInBounds_toArray, List.set_cons_zero, List.set_cons_succ]); refine zL ?_; exact h.x) : X := x ▸ hK a w s (h ⟨k⟩)
theorem zQ  {o : Oper} (v : Value)      (k : G) (ho : l[i]? = some o := by rfl) (hB : (Region.noSelect l.toArray && Region.free .any l.toArray listed i && (Region.ready .any l.toArray listed).contains i) = true := by kernel_rfl) (hQ : ∀ c a w, Q (.panic c) (a.put o.dst v) w → Q (.panic c) a w := by intro _ _ _ h; exact h) (hS : S w := by assumption) (hg : Region.wanted o (yielded l.toArray a.tmps) = true := by rfl) (hy : ∀ w, S w → (execOp a.eval o).run P w = .ok (.value v) w) (hl : listed.setIfInBounds i true = listed' := by first | (simp only [List.setIfInBounds_toArray, List.set_cons_zero, List.set_cons_succ] <;> rfl) | rfl) (ha : a.put o.dst v = a' := by first | (simp only [Act.put, List.setIfInBounds_toArray, List.set_cons_zero, List.set_cons_succ] <;> rfl) | rfl) (h : zW G → wpAnyH P .any l.toArray Q S fuel listed' a' w := by intro h; refine zL ?_; exact h.x) : wpAnyH P .any l.toArray Q S (fuel + 1) listed a w := by
  subst hl
  subst ha
  exact ac i ho hB hQ hS hg hy (h ⟨k⟩)
end
def sn(L:Act->World->Prop):Exit->Act->World->Prop
 | .normal,a,w=>L a w
 |_,_,_=>False
def bI{L:Act->World->Prop}:sn L .normal a w=L a w:=rfl
section
variable {P:Program} {Q:Exit→Act→World→Prop}
def so{md:Region.Mode}{ops:Array Oper}:∀(f:Nat) (listed:Array Bool) (a:Act) (w:World),wpAny P md ops Q f listed a w->wpAny P md ops Q (f+1) listed a w
 |0,listed,a,w,h=>⟨λ_=>h.2,λi hi=>by rw[h.1]at hi;cases hi⟩
 |f+1,listed,a,w,h=>⟨h.1,λi hi=>wpOp_mono (λa' w' h'=>so f _ a' w' h') (h.2 i hi)⟩
def yU{md:Region.Mode}{f:Nat}(hfg:f<=g)(h:wpAny P md ops Q f listed a w):wpAny P md ops Q g listed a w:=by
 induction hfg with
 |refl=>exact h
 |step _ ih=>exact so _ _ _ _ ih
def sq(l:List Oper)(n:Nat):Bool:=
 decide (n<l.length)&&Region.sinkB .any l.toArray n&&Region.chainB .any l.toArray n&&
 (List.range n).all (λi=>match l[i]? with
  |some o=>o.after.all (λe=>!Region.binds .any e||decide (e.on<i))&&(match o.guard with|none=>true|some (j,_)=>decide (j<n))
  |none=>false)&&
 Region.seqB .any l.toArray (l.length-n) n (Array.replicate n true++Array.replicate (l.length-n) false)
def Nb{o:Oper}{L K':Act->World->Prop}(hK:∀a' w',K a' w'->K' a' w')(h:o.wp P a w K (sn L)):o.wp P a w K' Q:=by
 unfold Oper.wp at*;generalize (execOp a.eval o).run P w=r at*
 cases r with
 |ok n w'=>
  cases n<;>simp only[Oper.upon]at h ⊢
  case value u=>exact hK _ _ h
  case skip=>exact hK _ _ h
  case defer d=>exact hK _ _ h
  case enter f args=>
   refine Calls.mono h λe g b=>?_
   cases e with
   |returned u=>exact hK _ _ b
   |panicked c=>exact False.elim b
   |outgrown=>obtain⟨_,_,h⟩:=b;exact False.elim h
  case row row args=>exact Rows.mono h λu g b=>hK _ _ b
 |halt x w'=>
  cases x<;>simp only[Oper.upon]at h ⊢
  case panic u=>exact False.elim h
def rj(A B:Array Bool)(i:Nat)(d:Bool)(h:i<A.size):(A++B).getD i d=A.getD i d:=by simp[Array.getD,h,OV h (Nat.le_add_right _ _)]
def Ec(l:List Oper)(n:Nat)(hB:sq l n=true):∀(f:Nat) (listed:Array Bool) (a:Act) (w:World),listed.size=n->
  HeadInv .any l.toArray n (listed++Array.replicate (l.length-n) false)->
  wpAny P .any (l.take n).toArray (sn (wpList P l.toArray Q (l.drop n))) f listed a w->
  wpAny P .any l.toArray Q (f+(l.length-n)) (listed++Array.replicate (l.length-n) false) a w:=by
 unfold sq at hB;simp only[OY,decide_eq_true_eq]at hB;obtain⟨⟨⟨⟨hn,hs⟩,hc⟩,y⟩,hq⟩:=hB;have y:∀i,i<n->∃o,l[i]?=some o/\(∀e∈o.after,Region.binds .any e=true->e.on<i)/\(∀j b,o.guard=some (j,b)->j<n):=by
  intro i m;have:=QT.1 y i (Sg.2 m)
  cases g:l[i]? with
  |none=>rw[g]at this;cases this
  |some o=>
   rw[g]at this;simp only[OY]at this;refine⟨o,rfl,λe q r=>?_,λj b z=>?_⟩
   ·have:=Array.all_eq_true'.1 this.1 e q;rw[r]at this
    simpa using this
   ·have d:=this.2;rw[z]at d
    simpa using d
 have H:∀listed:Array Bool,listed.size=n->(∀i,i<n->listed.getD i true=true)->listed=Array.replicate n true:=by
  intro listed c h;apply Array.ext
  ·simp[c]
  ·intro i A d;have:=h i zO;simp[Array.getD,A]at this;simp[this]
 have B:∀(f:Nat) (a:Act) (w:World),wpList P l.toArray Q (l.drop n) a w->wpAny P .any l.toArray Q (f+(l.length-n)) (Array.replicate n true++Array.replicate (l.length-n) false) a w:=by
  intro f a w h;have:=wpAny_of_seq (md:=.any) (Q':=Q) (ops:=l.toArray) (l.drop n) n (Array.replicate n true++Array.replicate (l.length-n) false) a w (λj=>by simp[PM]) (by simpa using hq) h;rw[PW]at this;exact yU zO this
 have t:∀listed:Array Bool,listed.size=n->∀i,i<n->(i∈Region.ready .any l.toArray (listed++Array.replicate (l.length-n) false)↔i∈Region.ready .any (l.take n).toArray listed):=by
  intro listed c i m;obtain⟨o,g,D,_⟩:=y i m;rw[mem_ready,mem_ready,rj _ _ _ _ zO];have T:l.toArray[i]?=some o:=by simpa using g
  have U:(l.take n).toArray[i]?=some o:=by simp[m,g]
  rw[T,U];constructor
  ·rintro⟨s,o',p,u⟩;injection p with p;subst p;exact⟨s,o,rfl,λe q r=>by have:=u e q r;rwa [rj _ _ _ _ (by have:=D e q r;omega)]at this⟩
  ·rintro⟨s,o',p,u⟩;injection p with p;subst p;exact⟨s,o,rfl,λe q r=>by rw[rj _ _ _ _ (by have:=D e q r;omega)];exact u e q r⟩
 have v:∀listed:Array Bool,listed.size=n->Region.ready .any (l.take n).toArray listed=[]->listed=Array.replicate n true:=by
  intro listed c s;refine H listed c λi=>?_;induction i using Nat.strongRecOn with
  |_ i X=>
   intro m
   cases z:listed.getD i true with
   |true=>rfl
   |false=>
    exfalso;obtain⟨o,g,D,_⟩:=y i m;have:i∈Region.ready .any (l.take n).toArray listed:=by
     rw[mem_ready];refine⟨z,o,by simp[m,g],λe q r=>?_⟩;have ab:=D e q r;have:=X e.on ab zO;have d:e.on<listed.size:=zO;simp[Array.getD,d]at this ⊢;exact this
    rw[s]at this
    cases this
 intro f;induction f with
 |zero=>
  intro listed a w c F h;rw[v listed c h.1];exact B 0 a w h.2
 |succ f X=>
  intro listed a w c F h;by_cases s:Region.ready .any (l.take n).toArray listed=[]
  ·rw[v listed c s];exact B (f+1) a w (h.1 s)
  ·obtain⟨k,hk⟩:=List.exists_mem_of_ne_nil _ s;have R:k<n:=by
    obtain⟨_,o,g,_⟩:=mem_ready.1 hk;have:=(PX.1 g).1;simp at this;omega
   have S:=(t listed c k R).2 hk;rw[show f+1+(l.length-n)=(f+(l.length-n))+1 by omega];refine⟨λe=>absurd S (by rw[e];exact List.not_mem_nil),λi m=>?_⟩;have x:i<n:=by
    rcases Nat.lt_or_ge i n with A|A
    ·exact A
    ·exact absurd m (tail_waits hs hc (by simpa using hn) F _ k rfl R (mem_ready.1 S).1 i A)
   have d:=h.2 i ((t listed c i x).1 m);obtain⟨o,g,D,ad⟩:=y i x;have T:l.toArray[i]?=some o:=by simpa using g
   have U:(l.take n).toArray[i]?=some o:=by simp[x,g]
   have G:∀L N,wpAny P .any (l.take n).toArray (sn (wpList P l.toArray Q (l.drop n))) f (listed.setIfInBounds i true) L N->
     wpAny P .any l.toArray Q (f+(l.length-n)) ((listed++Array.replicate (l.length-n) false).setIfInBounds i true) L N:=by
    intro L N h';have e3:(listed++Array.replicate (l.length-n) false).setIfInBounds i true=listed.setIfInBounds i true++Array.replicate (l.length-n) false:=by
     rw[Array.setIfInBounds_append_left zO]
    rw[e3];refine X _ L N (by simpa using c) ?_ h';rw[<-e3];exact F.set m x
   have O:Region.wanted o (yielded l.toArray a.tmps)=Region.wanted o (yielded (l.take n).toArray a.tmps):=by
    unfold Region.wanted
    cases z:o.guard with
    |none=>rfl
    |some jb=>
     obtain⟨j,b⟩:=jb;have:=ad j b z;have e4:(l.take n).toArray[j]?=l.toArray[j]?:=by simp[this]
     simp only[yielded,e4]
   unfold wpOp at*;rw[U]at d;rw[T];simp only at d ⊢;rw[O];split
   ·rename_i hw;rw[OB hw]at d
    rcases d with d|⟨_,_,_,d⟩
    ·exact .inl (Nb G d)
    ·exact False.elim d
   ·rename_i hw;rw[Oz hw]at d;exact G _ _ d
def bW{S:World->Prop}{id:Nat}{l:List Oper}(n:Nat)(hm:P.follows .mixedOrders=true)(hB:sq l n=true)(hS:S w.drew)
  (h:wpAnyH P .any (l.take n).toArray (sn (wpList P l.toArray Q (l.drop n))) S n (Array.replicate n false) a w.drew):(Code.region id l.toArray true).wp P Q a w:=by
 refine wp_region_any hm ?_;have e:n<l.length:=by
  unfold sq at hB;simp only[OY,decide_eq_true_eq]at hB;exact hB.1.1.1.1
 have b:HeadInv .any l.toArray n (Array.replicate n false++Array.replicate (l.length-n) false):=by
  rw[RM,show n+(l.length-n)=l.length by omega];exact⟨zS,λj f _ c=>(by rw[getD_replicate_false]at c;cases c),λt _ d=>getD_in (by simpa using d) (getD_replicate_false _ _)⟩
 have:=Ec l n hB n (Array.replicate n false) a w.drew zS b (wpAny_of_held _ _ _ _ h);rw[RM,show n+(l.length-n)=l.length by omega]at this
 simpa using this
end
def yV:∃z,cE prog 36 58 z 2 16:=by
 have h:(prog.info? 58).map (λi=>(i.zero.isSome,i.size,i.bytes,(i.zero.map λz=>z.cells.size)))=some (true,2,16,some 2):=zR
 cases hi:prog.info? 58 with
 |none=>simp[hi]at h
 |some i=>
  cases hzz:i.zero with
  |none=>simp[hi,hzz]at h
  |some z=>
   simp[hi,hzz]at h;exact⟨z,underlying36,by simp[hi,hzz,h],h.2.2⟩
def NS(xs:List Value)(A:Option Addr)(c n:Nat)(w:World)(hr:an w w.heap.size 2 A n xs)(h1:∀u∈xs,u.oneCell'=true)(hn:n<=100000):
  C 157 #[.slice A n c] w λe w'=>∃v,e=.returned v/\aL 2 w w' 58 v n xs:=by
 rcases A with _|j
 ·have a:n=0:=by
   rcases PR n with a|a
   ·exact a
   ·obtain⟨j,h,_⟩:=hr.2 a
    cases h
  subst a;have m:=OU (by simpa using hr.1);rw[m];clear hr m;have D:∀w,(binOp .eql 36 (.slice none 0 c) (.slice none 0 0)).run prog w=.ok (.bool true) w:=λw=>zR
  go_in
  go_wp2;go_ret;exact⟨_,rfl,aL.F8 2 w 58⟩
 ·obtain⟨z,l⟩:=yV;have F:=Blk.A8 w 58 #[] (g:=w.heap.size) rfl;have p:=eI (B:=w.heap.size) (s:=2) (n:=0) F (OA _) zS (by simp[maxLen]);have q:=hr.alloc (OA _) (.cells #[] 58);obtain⟨i,r,t,d,f⟩:=info_parts l.info;have b:=Z4 r t d f;clear r t d f;have D:∀w,(binOp .eql 36 (.slice (some j) n c) (.slice none 0 0)).run prog w=.ok (.bool false) w:=λw=>zR
  go_in
  go_wp2_with (at_builtin;go_must (refine bP (w.alloc (.cells #[] 58)) rfl (.tmp 5) (.tmp 6) _ rfl w.heap.size 58 i z 2 16 l.under b.o.1 b.o.2.1 b.o.2.2.1 b.o.2.2.2 l.cells zP _ 0 [] rfl p w.heap.size (some j) n c xs rfl q h1 zU zO zS ?_);intro G w' x y _)
  go_ret;refine⟨G,rfl,by simpa using x,?_⟩;exact(ae (Oy _ w) (.cells #[] 58)).grown y zS λk H=>(p.lt k H).1
def wF:∃z,cE prog 48 66 z 2 16:=by
 have h:(prog.info? 66).map (λi=>(i.zero.isSome,i.size,i.bytes,(i.zero.map λz=>z.cells.size)))=some (true,2,16,some 2):=zR
 cases hi:prog.info? 66 with
 |none=>simp[hi]at h
 |some i=>
  cases hzz:i.zero with
  |none=>simp[hi,hzz]at h
  |some z=>
   simp[hi,hzz]at h;exact⟨z,underlying48,by simp[hi,hzz,h],h.2.2⟩
def kI(xs:List Value)(A:Option Addr)(c n:Nat)(w:World)(hr:an w w.heap.size 2 A n xs)(h1:∀u∈xs,u.oneCell'=true)(hn:n<=100000):
  C 108 #[.slice A n c] w λe w'=>∃v,e=.returned v/\aL 2 w w' 66 v n xs:=by
 rcases A with _|j
 ·have a:n=0:=by
   rcases PR n with a|a
   ·exact a
   ·obtain⟨j,h,_⟩:=hr.2 a
    cases h
  subst a;have m:=OU (by simpa using hr.1);rw[m];clear hr m;have D:∀w,(binOp .eql 48 (.slice none 0 c) (.slice none 0 0)).run prog w=.ok (.bool true) w:=λw=>zR
  go_in
  go_wp2;go_ret;exact⟨_,rfl,aL.F8 2 w 66⟩
 ·obtain⟨z,l⟩:=wF;have F:=Blk.A8 w 66 #[] (g:=w.heap.size) rfl;have p:=eI (B:=w.heap.size) (s:=2) (n:=0) F (OA _) zS (by simp[maxLen]);have q:=hr.alloc (OA _) (.cells #[] 66);obtain⟨i,r,t,d,f⟩:=info_parts l.info;have b:=Z4 r t d f;clear r t d f;have D:∀w,(binOp .eql 48 (.slice (some j) n c) (.slice none 0 0)).run prog w=.ok (.bool false) w:=λw=>zR
  go_in
  go_wp2_with (at_builtin;go_must (refine bP (w.alloc (.cells #[] 66)) rfl (.tmp 5) (.tmp 6) _ rfl w.heap.size 66 i z 2 16 l.under b.o.1 b.o.2.1 b.o.2.2.1 b.o.2.2.2 l.cells zP _ 0 [] rfl p w.heap.size (some j) n c xs rfl q h1 zU zO zS ?_);intro G w' x y _)
  go_ret;refine⟨G,rfl,by simpa using x,?_⟩;exact(ae (Oy _ w) (.cells #[] 66)).grown y zS λk H=>(p.lt k H).1
def wG:∃z,cE prog 170 224 z 3 24:=by
 have h:(prog.info? 224).map (λi=>(i.zero.isSome,i.size,i.bytes,(i.zero.map λz=>z.cells.size)))=some (true,3,24,some 3):=zR
 cases hi:prog.info? 224 with
 |none=>simp[hi]at h
 |some i=>
  cases hzz:i.zero with
  |none=>simp[hi,hzz]at h
  |some z=>
   simp[hi,hzz]at h;exact⟨z,underlying170,by simp[hi,hzz,h],h.2.2⟩
def yW(xs:List Value)(A:Option Addr)(c n:Nat)(w:World)(hr:an w w.heap.size 3 A n xs)(h1:∀u∈xs,u.oneCell'=true)(hn:n<=100000):
  C 329 #[.slice A n c] w λe w'=>∃v,e=.returned v/\aL 3 w w' 224 v n xs:=by
 rcases A with _|j
 ·have a:n=0:=by
   rcases PR n with a|a
   ·exact a
   ·obtain⟨j,h,_⟩:=hr.2 a
    cases h
  subst a;have m:=OU (by simpa using hr.1);rw[m];clear hr m;have D:∀w,(binOp .eql 170 (.slice none 0 c) (.slice none 0 0)).run prog w=.ok (.bool true) w:=λw=>zR
  go_in
  go_wp2;go_ret;exact⟨_,rfl,aL.F8 3 w 224⟩
 ·obtain⟨z,l⟩:=wG;have F:=Blk.A8 w 224 #[] (g:=w.heap.size) rfl;have p:=eI (B:=w.heap.size) (s:=3) (n:=0) F (OA _) zS (by simp[maxLen]);have q:=hr.alloc (OA _) (.cells #[] 224);obtain⟨i,r,t,d,f⟩:=info_parts l.info;have b:=Z4 r t d f;clear r t d f;have D:∀w,(binOp .eql 170 (.slice (some j) n c) (.slice none 0 0)).run prog w=.ok (.bool false) w:=λw=>zR
  go_in
  go_wp2_with (at_builtin;go_must (refine bP (w.alloc (.cells #[] 224)) rfl (.tmp 5) (.tmp 6) _ rfl w.heap.size 224 i z 3 24 l.under b.o.1 b.o.2.1 b.o.2.2.1 b.o.2.2.2 l.cells zP _ 0 [] rfl p w.heap.size (some j) n c xs rfl q h1 zU zO zS ?_);intro G w' x y _)
  go_ret;refine⟨G,rfl,by simpa using x,?_⟩;exact(ae (Oy _ w) (.cells #[] 224)).grown y zS λk H=>(p.lt k H).1
def wH:∃z,cE prog 134 268 z 3 24:=by
 have h:(prog.info? 268).map (λi=>(i.zero.isSome,i.size,i.bytes,(i.zero.map λz=>z.cells.size)))=some (true,3,24,some 3):=zR
 cases hi:prog.info? 268 with
 |none=>simp[hi]at h
 |some i=>
  cases hzz:i.zero with
  |none=>simp[hi,hzz]at h
  |some z=>
   simp[hi,hzz]at h;exact⟨z,underlying134,by simp[hi,hzz,h],h.2.2⟩
def yX(xs:List Value)(A:Option Addr)(c n:Nat)(w:World)(hr:an w w.heap.size 3 A n xs)(h1:∀u∈xs,u.oneCell'=true)(hn:n<=100000):
  C 156 #[.slice A n c] w λe w'=>∃v,e=.returned v/\aL 3 w w' 268 v n xs:=by
 rcases A with _|j
 ·have a:n=0:=by
   rcases PR n with a|a
   ·exact a
   ·obtain⟨j,h,_⟩:=hr.2 a
    cases h
  subst a;have m:=OU (by simpa using hr.1);rw[m];clear hr m;have D:∀w,(binOp .eql 134 (.slice none 0 c) (.slice none 0 0)).run prog w=.ok (.bool true) w:=λw=>zR
  go_in
  go_wp2;go_ret;exact⟨_,rfl,aL.F8 3 w 268⟩
 ·obtain⟨z,l⟩:=wH;have F:=Blk.A8 w 268 #[] (g:=w.heap.size) rfl;have p:=eI (B:=w.heap.size) (s:=3) (n:=0) F (OA _) zS (by simp[maxLen]);have q:=hr.alloc (OA _) (.cells #[] 268);obtain⟨i,r,t,d,f⟩:=info_parts l.info;have b:=Z4 r t d f;clear r t d f;have D:∀w,(binOp .eql 134 (.slice (some j) n c) (.slice none 0 0)).run prog w=.ok (.bool false) w:=λw=>zR
  go_in
  go_wp2_with (at_builtin;go_must (refine bP (w.alloc (.cells #[] 268)) rfl (.tmp 5) (.tmp 6) _ rfl w.heap.size 268 i z 3 24 l.under b.o.1 b.o.2.1 b.o.2.2.1 b.o.2.2.2 l.cells zP _ 0 [] rfl p w.heap.size (some j) n c xs rfl q h1 zU zO zS ?_);intro G w' x y _)
  go_ret;refine⟨G,rfl,by simpa using x,?_⟩;exact(ae (Oy _ w) (.cells #[] 268)).grown y zS λk H=>(p.lt k H).1
def wI:∃z,cE prog 35 79 z 34 280:=by
 have h:(prog.info? 79).map (λi=>(i.zero.isSome,i.size,i.bytes,(i.zero.map λz=>z.cells.size)))=some (true,34,280,some 34):=zR
 cases hi:prog.info? 79 with
 |none=>simp[hi]at h
 |some i=>
  cases hzz:i.zero with
  |none=>simp[hi,hzz]at h
  |some z=>
   simp[hi,hzz]at h;exact⟨z,underlying35,by simp[hi,hzz,h],h.2.2⟩
def yY(xs:List Value)(A:Option Addr)(c n:Nat)(w:World)(hr:an w w.heap.size 34 A n xs)(h1:∀u∈xs,u.oneCell'=true)(hn:n<=100000):
  C 73 #[.slice A n c] w λe w'=>∃v,e=.returned v/\aL 34 w w' 79 v n xs:=by
 rcases A with _|j
 ·have a:n=0:=by
   rcases PR n with a|a
   ·exact a
   ·obtain⟨j,h,_⟩:=hr.2 a
    cases h
  subst a;have m:=OU (by simpa using hr.1);rw[m];clear hr m;have D:∀w,(binOp .eql 35 (.slice none 0 c) (.slice none 0 0)).run prog w=.ok (.bool true) w:=λw=>zR
  go_in
  go_wp2;go_ret;exact⟨_,rfl,aL.F8 34 w 79⟩
 ·obtain⟨z,l⟩:=wI;have F:=Blk.A8 w 79 #[] (g:=w.heap.size) rfl;have p:=eI (B:=w.heap.size) (s:=34) (n:=0) F (OA _) zS (by simp[maxLen]);have q:=hr.alloc (OA _) (.cells #[] 79);obtain⟨i,r,t,d,f⟩:=info_parts l.info;have b:=Z4 r t d f;clear r t d f;have D:∀w,(binOp .eql 35 (.slice (some j) n c) (.slice none 0 0)).run prog w=.ok (.bool false) w:=λw=>zR
  go_in
  go_wp2_with (at_builtin;go_must (refine bP (w.alloc (.cells #[] 79)) rfl (.tmp 5) (.tmp 6) _ rfl w.heap.size 79 i z 34 280 l.under b.o.1 b.o.2.1 b.o.2.2.1 b.o.2.2.2 l.cells zP _ 0 [] rfl p w.heap.size (some j) n c xs rfl q h1 zU zO zS ?_);intro G w' x y _)
  go_ret;refine⟨G,rfl,by simpa using x,?_⟩;exact(ae (Oy _ w) (.cells #[] 79)).grown y zS λk H=>(p.lt k H).1
structure Rg(α:Type) where
 items:List α
 from_:Nat
 room:Nat
structure Rg.ok{α:Type}(r:Rg α):Prop where
 pos:1<=r.room
 F5:r.room<=4096
 fits:r.items.length<=r.room
 lt:r.from_<r.room
 front:r.items.length<r.room->r.from_=0
def Rg.list{α:Type}(r:Rg α):List α:=r.items.drop r.from_++r.items.take r.from_
def Rg.push{α:Type}(r:Rg α)(x:α):Rg α:=
 if r.items.length<r.room then{r with items:=r.items++[x]} else⟨r.items.set r.from_ x,(r.from_+1)%r.room,r.room⟩
section
variable {α:Type} {r:Rg α}
def Rg.length(r:Rg α):r.list.length=r.items.length:=by
 unfold Rg.list;simp;omega
def Rg.P7(h1:1<=n)(h2:n<=4096):(Rg.mk ([]:List α) 0 n).ok:=⟨h1,h2,OK _,h1,λ_=>rfl⟩
def Rg.J3(h:r.ok)(x:α):(r.push x).ok:=by
 unfold Rg.push;split
 ·rename_i a;exact⟨h.pos,h.F5,zT,h.lt,λ_=>h.front a⟩
 ·rename_i a;have b:=Rj (r.from_+1) (show 0<r.room from h.pos);exact⟨h.pos,h.F5,by simp;exact h.fits,b,λc=>by simp at c;omega⟩
def Rg.M6(r:Rg α)(x:α):(r.push x).room=r.room:=by unfold Rg.push;split<;>rfl
def Rg.N2(h:r.ok)(hlt:r.items.length<r.room):r.list=r.items:=by
 unfold Rg.list;rw[h.front hlt];simp
def Rg.N3(h:r.ok)(hlt:r.items.length<r.room)(x:α):(r.push x).list=r.list++[x]:=by
 rw[Rg.N2 h hlt];unfold Rg.push Rg.list;rw[OB hlt,h.front hlt];simp
def Rg.M7(h:r.ok)(hlt:¬r.items.length<r.room)(x:α):(r.push x).list=r.list.tail++[x]:=by
 have j:r.items.length=r.room:=by have:=h.fits;omega
 have k:=h.lt;have a:r.from_<r.items.length:=zO;unfold Rg.push Rg.list;rw[Oz hlt];simp only;have e:=Pu a;rw[e,PY,List.tail_cons];by_cases f:r.from_+1=r.room
 ·rw[f,Nat.mod_self,OQ,OO,PC];have b:r.items.drop r.room=[]:=Pt zO;rw[b,QA];have c:r.from_=r.items.length-1:=zO;apply Vh
  ·simp;omega
  ·intro i g l;simp at g;rw[List.getElem_set];by_cases d:r.from_=i
   ·subst d;rw[OB rfl,Qi zT];simp
   ·rw[Oz d,PK zT];simp
 ·rw[QE zO];have b:(r.items.set r.from_ x).drop (r.from_+1)=r.items.drop (r.from_+1):=by
   rw[List.drop_set_of_lt zO]
  have c:(r.items.set r.from_ x).take (r.from_+1)=r.items.take r.from_++[x]:=by
   rw[OG (by simpa using a)];rw[List.take_set_of_le (OA _)];simp
  rw[b,c,Pv]
def Rg.get(h:r.ok){i:Nat}(hi:i<r.list.length):∃(hj:(r.from_+i)%r.items.length<r.items.length),r.list[i]=r.items[(r.from_+i)%r.items.length]:=by
 have j:=Rg.length r;have k:=h.lt;have d:=h.fits;have a:0<r.items.length:=zO;have hj:=Rj (r.from_+i) a;refine⟨hj,?_⟩;have g:r.from_<r.items.length:=by
  by_cases c:r.items.length<r.room
  ·rw[h.front c];exact a
  ·omega
 have b:r.list[i]?=r.items[(r.from_+i)%r.items.length]?:=by
  unfold Rg.list;by_cases f:r.from_+i<r.items.length
  ·rw[QE f,Pk zT,PM]
  ·have e:(r.from_+i)%r.items.length=r.from_+i-r.items.length:=by
    rw[Nat.mod_eq_sub_mod zO,QE zO]
   rw[e,Ph zT,PW,Pw zO];congr 1;omega
 rw[OL hi,OL hj]at b;exact Option.some.inj b
def Rg.head(h:r.ok)(hlt:¬r.items.length<r.room):∃(hj:r.from_<r.items.length),r.list.head?=some r.items[r.from_]:=by
 have a:r.items.length=r.room:=by have:=h.fits;omega
 have b:=h.lt;refine⟨zO,?_⟩;unfold Rg.list;rw[Pu zO];rfl
end
structure ej{α:Type}(cells:List α->List Value)(s:Nat)(T e:TypeId)(w:World)(p B:Nat)(sl:Value)(r:Rg α):Prop where
 B0:Blk w p T #[sl,I (r.from_:Int),I (r.room:Int)]
 own:w.ownsRow B e s sl r.items.length (cells r.items)
 ok:r.ok
section
variable {α:Type} {cells:List α→List Value} {s:Nat} {T e:TypeId} {w w':World} {p B:Nat} {sl:Value} {r:Rg α}
def ej.c0(h:ej cells s T e w p B sl r):w.cell? (Y p 0)=some sl:=by rw[h.B0.cell];rfl
def ej.c1(h:ej cells s T e w p B sl r):w.cell? (Y p 1)=some (I (r.from_:Int)):=by rw[h.B0.cell];rfl
def ej.c2(h:ej cells s T e w p B sl r):w.cell? (Y p 2)=some (I (r.room:Int)):=by rw[h.B0.cell];rfl
def ej.up(h:ej cells s T e w p B sl r)(hb:M w w'):ej cells s T e w' p B sl r:=⟨h.B0.later hb,aN h.own hb,h.ok⟩
def ej.drew(h:ej cells s T e w p B sl r):ej cells s T e w.drew p B sl r:=⟨h.B0,h.own,h.ok⟩
def ej.B7(h:ej cells s T e w p B sl r)(hK:ag L w w')(hp:¬L p)(hs:∀k,sl.ownBlock=some k->¬L k):ej cells s T e w' p B sl r:=by
 refine⟨hK.B0 h.B0 hp,⟨h.own.1,?_⟩,h.ok⟩
 rcases h.own.2 with d|⟨g,b,a,rfl,f,c,i⟩
 ·exact .inl d
 ·exact .inr ⟨g,b,a,rfl,f,(hK.block g (Blk.lt (t:=e) (cs:=a) c) (hs g rfl)).trans c,i⟩
def ej.N5(w:World)(n:Nat)(h1:1<=n)(h2:n<=4096)(hc:cells []=[]):ej cells s T e (w.alloc (.cells #[.slice none 0 0,I 0,I (n:Int)] T)) w.heap.size w.heap.size (.slice none 0 0) ⟨[],0,n⟩:=
 ⟨Blk.A8 _ _ _ rfl,by rw[hc];exact Pn _ _ _ _,Rg.P7 h1 h2⟩
end
def el(S:Nat->Prop)(W W':World):Prop:=∀k,S k->W'.heap[k]?=W.heap[k]?
def el.refl:el S W W:=λ_ _=>rfl
def el.trans{S:Nat->Prop}{A B C:World}(h:el S A B)(k:el S B C):el S A C:=λj a=>(k j a).trans (h j a)
def el.put{S:Nat->Prop}{n:Nat}(hS:∀k,S k->k<n)(W:World)(l:Nat)(o o':Obj)(hl:n<=l)(_:W.heap[l]?=some o)(_:o.isCells=false)(_:o.isWalk=false):el S W (W.putObj l o'):=λk a=>World.putObj_heap_other (λe=>by have:=hS k a;omega)
def el.B5{S:Nat->Prop}{W W':World}(hb:Below B W W')(hS:∀k,S k->k<B):el S W W':=λk a=>hb.block k (hS k a)
def wK(p Bb:Nat)(sl:Value)(k:Nat):Prop:=(k=p\/sl.ownBlock=some k)\/k=Bb
def ej.same{α:Type}{cells:List α->List Value}{s:Nat}{T e:TypeId}{p Bb:Nat}{r:Rg α}(h:ej cells s T e w p B sl r)(hS:el (wK p Bb sl) w w'):ej cells s T e w' p B sl r:=by
 refine⟨(hS p (.inl (.inl rfl))).trans h.B0,⟨h.own.1,?_⟩,h.ok⟩
 rcases h.own.2 with c|⟨g,a,b,rfl,d,f,i⟩
 ·exact .inl c
 ·exact .inr ⟨g,a,b,rfl,d,(hS g (.inl (.inr rfl))).trans f,i⟩
def ej.R0{α:Type}{cells:List α->List Value}{s:Nat}{T e:TypeId}{p Bb:Nat}{r:Rg α}(h:ej cells s T e w p B sl r)(hb:Bb<w.heap.size):∀k,wK p Bb sl k->k<w.heap.size:=by
 rintro k ((rfl|a)|rfl)
 ·exact h.B0.lt
 ·exact(h.own.lt k a).2
 ·exact hb
section
open Go.Shelf
set_option maxRecDepth 100000
attribute [local go_sem] Oper.semAt_some
end
section
variable {P:Program} {l:List Oper} {Q:Exit→Act→World→Prop}
def pq{id:Nat}(hm:P.follows .mixedOrders=true)
  (h:wpAny P .any l.toArray Q l.toArray.size (Array.replicate l.toArray.size false) a w.drew):(Code.region id l.toArray true).wp P Q a w:=wp_region_any hm h
def bB{o:Oper}(ho:l[i]?=some o)
  (hB:(Region.noSelect l.toArray&&Region.free .any l.toArray listed i&&(Region.ready .any l.toArray listed).contains i)=true)
  (hQ:∀c a w,Q (.panic c) (a.put o.dst v) w->Q (.panic c) a w)(hg:Region.wanted o (yielded l.toArray a.tmps)=true)
  (hy:∀w,(execOp a.eval o).run P w=.ok (.value v) w)
  (h:wpAny P .any l.toArray Q fuel (listed.setIfInBounds i true) (a.put o.dst v) w):wpAny P .any l.toArray Q (fuel+1) listed a w:=by
 simp only[OY]at hB;exact wpAny_take (by simpa using ho) hB.1.1 hB.1.2 hB.2 hQ (.inl ⟨hg,hy⟩) h
def aZ(hr:Region.ready .any l.toArray listed=rs)(hne:rs≠[])
  (h:AllReady P .any l.toArray Q fuel listed a w rs):wpAny P .any l.toArray Q (fuel+1) listed a w:=wpAny_ready hr hne h
def aX{i:Nat}{o:Oper}(ho:l[i]?=some o)(hg:Region.wanted o (yielded l.toArray a.tmps)=true)
  (h:∀K':Act->World->Prop,(∀a w,wpAny P .any l.toArray Q fuel (listed.setIfInBounds i true) a w->K' a w)->Oper.wp P o a w K' Q)
  (hs:AllReady P .any l.toArray Q fuel listed a w rs):AllReady P .any l.toArray Q fuel listed a w (i::rs):=
 AllReady.cons (by simpa using ho) (λK' hK=>by rw[OB hg];exact h K' hK) hs
def gF(hr:Region.ready .any l.toArray listed=[])(h:Q .normal a w):wpAny P .any l.toArray Q fuel listed a w:=wpAny_done hr h fuel
theorem zx  {o : Oper}      (h : wpAny P .any l.toArray Q fuel listed' a' w) (ho : l[i]? = some o := by rfl) (hB : (Region.noSelect l.toArray && Region.free .any l.toArray listed i && (Region.ready .any l.toArray listed).contains i) = true := by kernel_rfl) (hQ : ∀ c a w, Q (.panic c) (a.put o.dst v) w → Q (.panic c) a w := by intro _ _ _ h; exact h) (hg : Region.wanted o (yielded l.toArray a.tmps) = true := by rfl)
    (hy : ∀ w, (execOp a.eval o).run P w = .ok (.value v) w := by intro W; first | (go_simp; done) | (go_simp; with_reducible rfl)) (hl : listed.setIfInBounds i true = listed' := by first | (simp only [List.setIfInBounds_toArray, List.set_cons_zero, List.set_cons_succ] <;> rfl) | rfl) (ha : a.put o.dst v = a' := by first | (simp only [Act.put, List.setIfInBounds_toArray, List.set_cons_zero, List.set_cons_succ] <;> rfl) | rfl) : wpAny P .any l.toArray Q (fuel + 1) listed a w := by
  subst hl
  subst ha
  exact bB i ho hB hQ hg hy h
theorem zw  {o : Oper}     (h : ∀ K' : Act → World → Prop, (∀ a w, wpAny P .any l.toArray Q fuel (listed.setIfInBounds i true) a w → K' a w) → Oper.wp P o a w K' Q) (hr : Region.ready .any l.toArray listed = [i] := by kernel_rfl)
    (ho : l[i]? = some o := by rfl) (hg : Region.wanted o (yielded l.toArray a.tmps) = true := by rfl) : wpAny P .any l.toArray Q (fuel + 1) listed a w := aZ hr (by simp) (aX ho hg h AllReady.nil)
theorem zr  {o : Oper}      (k : G) (hr : Region.ready .any l.toArray listed = [i] := by kernel_rfl) (ho : l[i]? = some o := by rfl) (hg : Region.wanted o (yielded l.toArray a.tmps) = true := by rfl)
    (h : G → ∀ K' : Act → World → Prop, (∀ a w, wpAny P .any l.toArray Q fuel (listed.setIfInBounds i true) a w → K' a w) → Oper.wp P o a w K' Q := by intro k K hK; go_simp; refine hK _ _ ?_; first | (simp only [Act.put, List.setIfInBounds_toArray, List.set_cons_zero, List.set_cons_succ]; exact k) | exact k) : wpAny P .any l.toArray Q (fuel + 1) listed a w := aZ hr (by simp) (aX ho hg (h k) AllReady.nil)
theorem zv (rs : List Nat)     (h : AllReady P .any l.toArray Q fuel listed a w rs) (hr : Region.ready .any l.toArray listed = rs := by kernel_rfl) (hne : rs ≠ [] := by simp) : wpAny P .any l.toArray Q (fuel + 1) listed a w := aZ hr hne h
theorem zu     {i : Nat} {o : Oper}  (h : ∀ K' : Act → World → Prop, (∀ a w, wpAny P .any l.toArray Q fuel (listed.setIfInBounds i true) a w → K' a w) → Oper.wp P o a w K' Q)
    (hs : AllReady P .any l.toArray Q fuel listed a w rs) (ho : l[i]? = some o := by rfl) (hg : Region.wanted o (yielded l.toArray a.tmps) = true := by rfl) : AllReady P .any l.toArray Q fuel listed a w (i :: rs) := aX ho hg h hs
end
def Ik{e:TypeId}{s:Nat}(h:Blk w g e #[])(hB:B<=g):w.ownsRow B e s (V g 0 0 0) 0 []:=by
 have:=eI (s:=s) (n:=0) h hB zS (by simp[maxLen])
 simpa using this
def dL(n:Int):Bool:=n==1||(n==2||(n==4||(n==8||(n==16||(n==32||n==64)))))
def In:∀n:Fin 65,1<=n.val->(bits BinOp.and IntKind.i64 (n.val:Int) ((n.val:Int)-1)==0)=dL (n.val:Int):=by decide+kernel
def ob{n:Int}(h:dL n=true):1<=n/\n<=64:=by
 unfold dL at h;simp at h;omega
def uu{n:Int}(h:n<1\/64<n):dL n=false:=by
 cases h2:dL n
 ·rfl
 ·have:=ob h2;omega
def cA(st sa lo hi:Int):Bool:=dL st&&(decide (1<=sa/\sa<=256)&&(decide (1<=lo/\lo<=256)&&decide (1<=hi/\hi<=64)))
def pu(st sa lo hi:Int):Int:=if cA st sa lo hi=true then 0 else 1
def uv:(dL st=false/\cA st sa lo hi=false)\/(dL st=true/\sa<1/\cA st sa lo hi=false)\/(dL st=true/\¬sa<1/\256<sa/\cA st sa lo hi=false)\/
  (dL st=true/\¬sa<1/\¬256<sa/\lo<1/\cA st sa lo hi=false)\/(dL st=true/\¬sa<1/\¬256<sa/\¬lo<1/\256<lo/\cA st sa lo hi=false)\/
  (dL st=true/\¬sa<1/\¬256<sa/\¬lo<1/\¬256<lo/\hi<1/\cA st sa lo hi=false)\/(dL st=true/\¬sa<1/\¬256<sa/\¬lo<1/\¬256<lo/\¬hi<1/\64<hi/\cA st sa lo hi=false)\/
  (dL st=true/\¬sa<1/\¬256<sa/\¬lo<1/\¬256<lo/\¬hi<1/\¬64<hi/\cA st sa lo hi=true):=by
 cases h0:dL st with
 |false=>exact .inl ⟨rfl,by unfold cA;rw[h0];rfl⟩
 |true=>
  refine .inr ?_;have d:¬((1<=sa/\sa<=256)/\(1<=lo/\lo<=256)/\(1<=hi/\hi<=64))->cA st sa lo hi=false:=λh=>by
   unfold cA;rw[h0,Vg];by_cases a:1<=sa/\sa<=256
   ·by_cases b:1<=lo/\lo<=256
    ·rw[decide_eq_true a,decide_eq_true b,decide_eq_false λc=>h ⟨a,b,c⟩];rfl
    ·rw[decide_eq_true a,decide_eq_false b];rfl
   ·rw[decide_eq_false a];rfl
  have i:((1<=sa/\sa<=256)/\(1<=lo/\lo<=256)/\(1<=hi/\hi<=64))->cA st sa lo hi=true:=λh=>by
   unfold cA;rw[h0,decide_eq_true h.1,decide_eq_true h.2.1,decide_eq_true h.2.2];rfl
  by_cases a:sa<1
  ·exact .inl ⟨rfl,a,d zO⟩
  refine .inr ?_;by_cases b:256<sa
  ·exact .inl ⟨rfl,a,b,d zO⟩
  refine .inr ?_;by_cases c:lo<1
  ·exact .inl ⟨rfl,a,b,c,d zO⟩
  refine .inr ?_;by_cases e:256<lo
  ·exact .inl ⟨rfl,a,b,c,e,d zO⟩
  refine .inr ?_;by_cases f:hi<1
  ·exact .inl ⟨rfl,a,b,c,e,f,d zO⟩
  refine .inr ?_;by_cases g:64<hi
  ·exact .inl ⟨rfl,a,b,c,e,f,g,d zO⟩
  ·exact .inr ⟨rfl,a,b,c,e,f,g,i zO⟩
def oc(n:Int)(w:World):C 112 #[I n] w λx w'=>x=.returned (.bool (dL n))/\w=w':=by
 by_cases b:n<1
 ·have d:¬1<=n:=zO;have a:=Z1 (uu (.inl b));clear b
  go_in
  go_wp2;go_ret;exact⟨cN a.o.symm,rfl⟩
 by_cases c:64<n
 ·have d:1<=n:=zO;have e:¬n<=64:=zO;have a:=Z1 (uu (.inr c));clear b c
  go_in
  go_wp2;go_ret;exact⟨cN a.o.symm,rfl⟩
 obtain⟨k,rfl⟩:∃k:Nat,n=k:=⟨n.toNat,zO⟩;have a:Hid ((bits BinOp.and IntKind.i64 (k:Int) ((k:Int)-1)==0)=dL (k:Int)):=Z1 (In ⟨k,zO⟩ zT);have d:1<=(k:Int):=zO;have e:(k:Int)<=64:=zO;clear b c
 go_in
 go_wp2;go_ret;exact⟨cN a.o,rfl⟩
def gH(w:World):C 66 #[.agg #[I st,I sa,I lo,I hi]] w λx w'=>x=.returned (I (pu st sa lo hi))/\M w w':=by
 have g:=Z1 (λW=>oc st W);have i:=uv st sa lo hi;have j:=Z1 (λo=>ae (Oy _ w) o);unfold pu
 rcases i with⟨a,b⟩|⟨a,c,b⟩|⟨a,c,d,b⟩|⟨a,c,d,e,b⟩|⟨a,c,d,e,f,b⟩|⟨a,c,d,e,f,h,b⟩|⟨a,c,d,e,f,h,k,b⟩|⟨a,c,d,e,f,h,k,b⟩
 all_goals
  rw[a]at g;rw[b];clear a b
  go_in
  go_wp2_with fail;refine zY (g.o _) ?_;go_wp2;go_ret;exact⟨rfl,j.o _⟩
def lh(a b c d e f:Int):Prop:=0<=a/\1<=b/\b<=1073741824/\a<=b/\1<=c/\0<=d/\d<=999/\1<=e/\0<=f
instance (a b c d e f:Int):Decidable (lh a b c d e f):=by unfold lh;infer_instance
def Nf{a b c d e f:Int}(h:¬lh a b c d e f):a<0\/(¬a<0/\b<1)\/(¬a<0/\¬b<1/\b<a/\1073741824<b)\/(¬a<0/\¬b<1/\b<a/\¬1073741824<b)\/(¬a<0/\¬b<1/\¬b<a/\1073741824<b)\/
  (¬a<0/\¬b<1/\¬b<a/\¬1073741824<b/\c<1)\/(¬a<0/\¬b<1/\¬b<a/\¬1073741824<b/\¬c<1/\d<0)\/(¬a<0/\¬b<1/\¬b<a/\¬1073741824<b/\¬c<1/\¬d<0/\999<d)\/
  (¬a<0/\¬b<1/\¬b<a/\¬1073741824<b/\¬c<1/\¬d<0/\¬999<d/\e<1)\/(¬a<0/\¬b<1/\¬b<a/\¬1073741824<b/\¬c<1/\¬d<0/\¬999<d/\¬e<1/\f<0):=by
 by_cases g:a<0
 ·exact .inl g
 refine .inr ?_;by_cases i:b<1
 ·exact .inl ⟨g,i⟩
 refine .inr ?_;by_cases k:b<a
 ·by_cases j:1073741824<b
  ·exact .inl ⟨g,i,k,j⟩
  ·exact .inr (.inl ⟨g,i,k,j⟩)
 refine .inr (.inr ?_);by_cases j:1073741824<b
 ·exact .inl ⟨g,i,k,j⟩
 refine .inr ?_;by_cases l:c<1
 ·exact .inl ⟨g,i,k,j,l⟩
 refine .inr ?_;by_cases m:d<0
 ·exact .inl ⟨g,i,k,j,l,m⟩
 refine .inr ?_;by_cases n:999<d
 ·exact .inl ⟨g,i,k,j,l,m,n⟩
 refine .inr ?_;by_cases o:e<1
 ·exact .inl ⟨g,i,k,j,l,m,n,o⟩
 refine .inr ?_;by_cases p:f<0
 ·exact⟨g,i,k,j,l,m,n,o,p⟩
 exact absurd ⟨zO,zO,zO,zO,zO,zO,zO,zO,zO⟩ h
def tK(a b c d e f:Int):Int:=if lh a b c d e f then 0 else 7
def wN(a b c d e f:Int)(w:World)(h:lh a b c d e f):
  C 85 #[.agg #[I a,I b,I c,I d,I e,I f]] w λx w'=>x=.returned (I 0)/\M w w':=by
 obtain⟨g,i,j,k,l,m,n,o,p⟩:=h
 go_in
 go_wp2;go_ret;exact⟨rfl,ae (Oy _ w) _⟩
def Eu(a b c d e f:Int)(w:World)(h:¬lh a b c d e f):
  C 85 #[.agg #[I a,I b,I c,I d,I e,I f]] w λx w'=>x=.returned (I 7)/\M w w':=by
 have n:=Nf h;clear h
 rcases n with g|⟨g,i⟩|⟨g,i,j,k⟩|⟨g,i,j,k⟩|⟨g,i,j,k⟩|⟨g,i,j,k,l⟩|⟨g,i,j,k,l,m⟩|⟨g,i,j,k,l,m,o⟩|⟨g,i,j,k,l,m,o,p⟩|⟨g,i,j,k,l,m,o,p,q⟩
 all_goals
  go_in
  go_wp2;go_ret;exact⟨rfl,ae (Oy _ w) _⟩
def uz(a b c d e f:Int)(w:World):
  C 85 #[.agg #[I a,I b,I c,I d,I e,I f]] w λx w'=>x=.returned (I (tK a b c d e f))/\M w w':=by
 unfold tK;split
 ·exact wN _ _ _ _ _ _ w (by assumption)
 ·exact Eu _ _ _ _ _ _ w (by assumption)
def iD(from_ tick:Int):List Adv->Int->Bool->Int×Bool
 |[],b,i=>(b,i)
 |a::r,b,i=>if from_<a.tick/\a.tick<=tick then iD from_ tick r (if i=false\/b<a.want then a.want else b) true else iD from_ tick r b i
def fH(l:List Adv)(tick hold:Int):Int×Bool:=iD (sat (tick-hold)) tick l 0 false
def Ew{l:List Adv}(t b:Int)(i:Bool)(hk:k<l.length)(h:¬(f<l[k].tick/\l[k].tick<=t)):iD f t (l.drop k) b i=iD f t (l.drop (k+1)) b i:=by
 rw[Pu hk,iD,Oz h]
def Co{l:List Adv}(t b:Int)(i:Bool)(hk:k<l.length)(h:f<l[k].tick/\l[k].tick<=t)(h2:i=false\/b<l[k].want):iD f t (l.drop k) b i=iD f t (l.drop (k+1)) l[k].want true:=by
 rw[Pu hk,iD,OB h,OB h2]
def Cp{l:List Adv}(t b:Int)(i:Bool)(hk:k<l.length)(h:f<l[k].tick/\l[k].tick<=t)(h2:¬(i=false\/b<l[k].want)):iD f t (l.drop k) b i=iD f t (l.drop (k+1)) b true:=by
 rw[Pu hk,iD,OB h,Oz h2]
def Ad(l:List Adv)(A:Option Addr)(c n:Nat)(tick hold:Int)(w:World)(hr:an w w.heap.size 5 A n (advs l))(hl:n<=100000)(ht:aq tick)(hh:aq hold)(hall:∀(k:Nat) (h:k<l.length),aq l[k].tick/\aq l[k].want):
  C 135 #[.slice A n c,I tick,I hold] w (J (.tuple #[I (fH l tick hold).1,.bool (fH l tick hold).2]) w):=by
 have y:=tB hr;have z:=Z1 y;clear y
 go_in
 go_wp2_with (go_at_call 166;refine(Bf _ _ _ ht hh).mono ?_;rintro e w' ⟨rfl,rfl⟩)
 generalize B:sat (tick-hold)=f;have D:=Z1 B;clear B;go_loopw [9,10,18] (λb i x wr=>∃(k:Nat) (a:Int) (d:Bool),k<=n/\x=I k/\b=I a/\i=.bool d/\Hid (fH l tick hold=iD f tick (l.drop k) a d)/\M w wr) (λ_ _ x _=>n-(intOf x).toNat)
 case atStart=>exact⟨0,0,false,zO,rfl,rfl,rfl,Z1 (by unfold fH;rw[D.o];rfl),Oy _ _⟩
 case round=>
  obtain⟨k,a,d,O,rfl,rfl,rfl,q,p⟩:=hrel;by_cases F:k<n
  ·have m:k<l.length:=by have:=z.o;omega
   obtain⟨P,G,rfl,_,Q,R,S,T,U⟩:=adv_at (hr.up p) m;have t:=hall k m;have H:=t.1;have L:=t.2;clear t;by_cases g:f<l[k].tick/\l[k].tick<=tick
   ·by_cases r:d=false\/a<l[k].want
    ·have j:=Z1 (Co f tick a d m g r);obtain⟨u,v⟩:=g
     cases d with
     |false=>
      clear r;go_wp2;go_roundw
      case rel=>exact⟨k+1,_,_,zO,by go_num,rfl,rfl,Z1 (by rw[q.o,j.o]),ae p _⟩
      case measure=>simp[intOf];omega
     |true=>
      have s:a<l[k].want:=by simpa using r
      clear r;go_wp2;go_roundw
      case rel=>exact⟨k+1,_,_,zO,by go_num,rfl,rfl,Z1 (by rw[q.o,j.o]),ae p _⟩
      case measure=>simp[intOf];omega
    ·have j:=Z1 (Cp f tick a d m g r);obtain⟨u,v⟩:=g;have s:d=true/\¬a<l[k].want:=by cases d<;>simp_all
     obtain⟨rfl,N⟩:=s;clear r;go_wp2;go_roundw
     case rel=>exact⟨k+1,_,_,zO,by go_num,rfl,rfl,Z1 (by rw[q.o,j.o]),ae p _⟩
     case measure=>simp[intOf];omega
   ·have j:=Z1 (Ew f tick a d m g);by_cases X:f<l[k].tick
    ·have h6:¬l[k].tick<=tick:=zO;clear g;go_wp2;go_roundw
     case rel=>exact⟨k+1,_,_,zO,by go_num,rfl,rfl,Z1 (by rw[q.o,j.o]),ae p _⟩
     case measure=>simp[intOf];omega
    ·clear g;go_wp2;go_roundw
     case rel=>exact⟨k+1,_,_,zO,by go_num,rfl,rfl,Z1 (by rw[q.o,j.o]),ae p _⟩
     case measure=>simp[intOf];omega
  ·have j:Hid (fH l tick hold=(a,d)):=by
    show _=_;rw[q.o,Pt (by have:=z.o;omega)];rfl
   go_wp2
   go_ret2
   exact⟨by rw[j.o];rfl,p⟩
def tn:Int->Int->List Adv->Nat
 |_,_,[]=>0
 |p,w,a::r=>if a.reps=p then tn a.reps w r else if p<a.reps then(if w= -1 then 1 else 0)+tn a.reps 1 r else(if w=1 then 1 else 0)+tn a.reps (-1) r
def sk(v:Int)(l:List Adv):Nat->Nat
 |0=>0
 |m+1=>if(l[m]?.map Adv.reps)=some v then 1+sk v l m else 0
section
open Go.Maps
def cw{κ α:Type}(l:List (κ×α)):Prop:=(l.map (·.1)).Nodup
section
variable {κ α β:Type} [DecidableEq κ]
def ap:List (κ×α)->κ->Option α
 |[],_=>none
 |e::r,x=>if e.1=x then some e.2 else ap r x
def aR:List (κ×α)->κ->α->List (κ×α)
 |[],x,v=>[(x,v)]
 |e::r,x,v=>if e.1=x then(x,v)::r else e::aR r x v
def ft(l:List (κ×α))(x:κ):List (κ×α):=l.filter λe=>!decide (e.1=x)
def lD(l:List (κ×α))(x:κ)(v:α):ap (aR l x v) x=some v:=by
 induction l with
 |nil=>simp[aR,ap]
 |cons e r ih=>
  by_cases h:e.1=x
  ·simp[aR,ap,h]
  ·simp[aR,ap,h,ih]
def iE(l:List (κ×α)){x y:κ}(v:α)(hy:y≠x):ap (aR l x v) y=ap l y:=by
 induction l with
 |nil=>simp[aR,ap,Pc hy]
 |cons e r ih=>
  by_cases h:e.1=x
  ·have:e.1≠y:=λa=>hy (a.symm.trans h);simp[aR,ap,h,this,Pc hy]
  ·simp only[aR,Oz h,ap,ih]
def wO(l:List (κ×α))(x y:κ)(v:α):ap (aR l x v) y=if y=x then some v else ap l y:=by
 split
 ·rename_i h;rw[h,lD]
 ·rename_i h;exact iE l v h
def bR{l:List (κ×α)}{x:κ}{v:α}(h:ap l x=some v):(x,v)∈l:=by
 induction l with
 |nil=>cases h
 |cons e r ih=>
  by_cases a:e.1=x
  ·simp[ap,a]at h;rw[<-h,<-a];exact Qc
  ·simp[ap,a]at h;exact Pm _ (ih h)
def gz{l:List (κ×α)}{x:κ}:ap l x=none↔x∉l.map (·.1):=by
 induction l with
 |nil=>simp[ap]
 |cons e r ih=>
  by_cases a:e.1=x
  ·simp[ap,a]
  ·simp[ap,a,ih,Pc a]
def gY{l:List (κ×α)}{x:κ}:(ap l x).isSome=true↔x∈l.map (·.1):=by
 cases h:ap l x with
 |none=>simpa using gz.1 h
 |some v=>simpa using ⟨v,bR h⟩
def im{l:List (κ×α)}(hd:cw l){x:κ}{v:α}(h:(x,v)∈l):ap l x=some v:=by
 induction l with
 |nil=>cases h
 |cons e r ih=>
  unfold cw at hd;rw[Pi,QB]at hd
  rcases Pj.1 h with h|h
  ·subst h;simp[ap]
  ·have:e.1≠x:=λa=>hd.1 (by rw[a];exact Pq (f:=(·.1)) h);simp[ap,this,ih hd.2 h]
def uB{l l':List (κ×α)}(hd:cw l)(hp:l.Perm l')(x:κ):ap l x=ap l' x:=by
 have a:=(hp.map _).nodup_iff.1 hd
 cases h:ap l x with
 |none=>
  rw[gz]at h;exact(gz.2 λb=>h ((hp.map _).mem_iff.2 b)).symm
 |some v=>exact(im a (hp.mem_iff.1 (bR h))).symm
def wP(l:List (κ×α))(x:κ)(v:α):(aR l x v).map (·.1)=if x∈l.map (·.1)then l.map (·.1)else l.map (·.1)++[x]:=by
 induction l with
 |nil=>simp[aR]
 |cons e r ih=>
  by_cases a:e.1=x
  ·simp[aR,a]
  ·simp only[aR,Oz a,Pi,ih,Pj,Pc a,false_or];split<;>simp
def lM(l:List (κ×α))(x:κ)(v:α):(aR l x v).length=if(ap l x).isSome=true then l.length else l.length+1:=by
 have h:=congrArg List.length (wP l x v);rw[Pe]at h;rw[h];by_cases a:x∈l.map (·.1)
 ·rw[OB a,OB (gY.2 a)];simp
 ·rw[Oz a,Oz λe=>a (gY.1 e)];simp
def wQ{l:List (κ×α)}(hd:cw l)(x:κ)(v:α):cw (aR l x v):=by
 unfold cw at*;rw[wP];split
 ·exact hd
 ·rename_i h;rw[Qa];exact⟨hd,zS,λa d b c e=>by simp at c;subst c;subst e;exact h d⟩
def LA{l:List (κ×α)}{x:κ}{v:α}{e:κ×α}(h:e∈aR l x v):e=(x,v)\/(e∈l/\e.1≠x)\/(e∈l):=by
 induction l with
 |nil=>simp[aR]at h;exact .inl h
 |cons a r ih=>
  by_cases b:a.1=x
  ·simp only[aR,OB b,Pj]at h
   rcases h with h|h
   ·exact .inl h
   ·exact .inr (.inr (Pm _ h))
  ·simp only[aR,Oz b,Pj]at h
   rcases h with h|h
   ·exact .inr (.inr (by rw[h];exact Qc))
   ·rcases ih h with h|⟨h,c⟩|h
    ·exact .inl h
    ·exact .inr (.inl ⟨Pm _ h,c⟩)
    ·exact .inr (.inr (Pm _ h))
def io{l:List (κ×α)}(hd:cw l)(x:κ)(v:α):(aR l x v).Perm ((x,v)::ft l x):=by
 induction l with
 |nil=>simp[aR,ft]
 |cons e r ih=>
  unfold cw at hd;rw[Pi,QB]at hd;by_cases b:e.1=x
  ·have:ft (e::r) x=r:=by
    unfold ft;rw[So,Oz (by simp[b])];refine QR.2 λa c=>?_;have:a.1≠x:=λd=>hd.1 (by rw[b,<-d];exact Pq (f:=(·.1)) c);simp[this]
   rw[this];simp[aR,b]
  ·have:ft (e::r) x=e::ft r x:=by
    unfold ft;rw[So,OB (by simp[b])]
   rw[this];simp only[aR,Oz b];exact((ih hd.2).cons e).trans (List.Perm.swap _ _ _)
def Iw{l:List (κ×α)}(hd:cw l)(x:κ):cw (ft l x):=hd.sublist (List.filter_sublist.map _)
def rv(l:List (κ×α))(f:κ->α->β)(x:κ):ap (l.map λe=>(e.1,f e.1 e.2)) x=(ap l x).map (f x):=by
 induction l with
 |nil=>rfl
 |cons e r ih=>
  by_cases a:e.1=x
  ·simp[ap,a]
  ·simp only[Pi,ap,Oz a,ih]
end
def Rv(v:Value):Option (DataW Value×List MemPlace):=some (.held v,[])
def sw{ps:List MemPlace}(h:Rv v=some (.held u,ps)):v=u:=by
 unfold Rv at h;injection h with h;injection h with h;injection h
structure gp(P:Program)(k:TypeId){κ:Type}(enc:κ->Lit)(val:κ->Value)(E3:κ->Prop):Prop where
 keyed:Keyed P k
 key:∀x,E3 x->keyOf P k (val x)=some (enc x)
 inj:∀x y,E3 x->E3 y->enc x=enc y->x=y
def gp.lit{P:Program}{k:TypeId}{κ:Type}{enc:κ->Lit}{val:κ->Value}{E3:κ->Prop}(K:gp P k enc val E3){x:κ}(hx:E3 x):WideAt.IsKeyLit (enc x):=K.keyed.key (K.key x hx)
section
variable {P:Program} {k:TypeId} {κ:Type} {enc:κ→Lit} {val:κ→Value} {E3:κ→Prop} {w w':World} {b:Nat} {l:List (κ×Value)}
structure aw(P:Program)(k:TypeId)(enc:κ->Lit)(E3:κ->Prop)(w:World)(b:Nat)(l:List (κ×Value)):Prop where
 own:∃es,w.ownsMap P k Rv b l.length (.map es)/\es.Perm (l.map λp=>(enc p.1,DataW.held p.2))
 D7:cw l
 E3:∀p∈l,E3 p.1
def aw.lt(h:aw P k enc E3 w b l):b<w.heap.size:=by obtain⟨_,h,_⟩:=h.own;exact h.lt
def aw.D3(h:aw P k enc E3 w b l)(hb:w'.heap[b]?=w.heap[b]?):aw P k enc E3 w' b l:=by
 obtain⟨⟨c,⟨d,a,e,f⟩,g⟩,i,j⟩:=h;exact⟨⟨c,⟨d,a,hb.trans e,f⟩,g⟩,i,j⟩
def aw.B7(h:aw P k enc E3 w b l)(hK:ag L w w')(hL:¬L b):aw P k enc E3 w' b l:=h.D3 (hK.block b h.lt hL)
def aw.up(h:aw P k enc E3 w b l)(hb:M w w'):aw P k enc E3 w' b l:=h.D3 (hb.block b h.lt)
def aw.made(w:World):aw P k enc E3 (w.alloc (.map #[] 0)) w.heap.size []:=
 ⟨⟨[],World.ownsMap_made w P k Rv,.nil⟩,Sh,λp a=>by cases a⟩
def aw.made_at{g:Nat}(w:World)(hg:g=w.heap.size):aw P k enc E3 (w.alloc (.map #[] 0)) g []:=by subst hg;exact aw.made w
def aw.len{t e:TypeId}(h:aw P k enc E3 w b l)(ht:P.underlying t=some (.map k e))(ty:TypeId):(Builtin.len_ #[t] ty #[.map (some b)]).run P w=.ok (I (l.length:Int)) w:=by
 obtain⟨⟨d,a,c⟩,f,g⟩:=h;have:=a.len ht ty;rw[this,Maps.size_eq,c.length_eq,Pe]
structure dx(P:Program)(k:TypeId)(enc:κ->Lit)(E3:κ->Prop)(w:World)(b r:Nat)(l:List (κ×Value))(todo:List κ)(cnt:Nat):Prop where
 own:∃es left,w.ranges P k Rv b r l.length (.map es) left cnt/\es.Perm (l.map λp=>(enc p.1,DataW.held p.2))/\∀kl,left kl=true↔∃x∈todo,enc x=kl
 D7:cw l
 E3:∀p∈l,E3 p.1
 sub:∀x∈todo,x∈l.map (·.1)
 nodup:todo.Nodup
def dx.left_eq{todo:List κ}(h:dx P k enc E3 w b r l todo cnt):w.rangeLeft b r=cnt:=by obtain⟨_,_,h,_⟩:=h.own;exact h.left_eq
def dx.D3{todo:List κ}(h:dx P k enc E3 w b r l todo cnt)(hb:w'.heap[b]?=w.heap[b]?)(hr:w'.heap[r]?=w.heap[r]?):dx P k enc E3 w' b r l todo cnt:=by
 obtain⟨⟨f,d,⟨g,a,c,e,i,j,m,n,o,p,q⟩,s⟩,t,u,v,x⟩:=h;exact⟨⟨f,d,⟨g,a,c,e,i,hb.trans j,m,n,o,hr.trans p,q⟩,s⟩,t,u,v,x⟩
def dx.lt{todo:List κ}(h:dx P k enc E3 w b r l todo cnt):b<w.heap.size/\r<w.heap.size:=by obtain⟨_,_,h,_⟩:=h.own;exact⟨h.owns.lt,h.lt⟩
def dx.up{todo:List κ}(h:dx P k enc E3 w b r l todo cnt)(hb:M w w'):dx P k enc E3 w' b r l todo cnt:=h.D3 (hb.block b h.lt.1) (hb.block r h.lt.2)
def aw.range{t e:TypeId}(h:aw P k enc E3 w b l)(K:gp P k enc val E3)(ht:P.underlying t=some (.map k e)):
  ∃w',(Instr.range t (.map (some b))).run P w=.ok (Z w.heap.size 0) w'/\dx P k enc E3 w' b w.heap.size l (l.map (·.1)) l.length/\M w w'/\w'.heap.size=w.heap.size+1:=by
 obtain⟨⟨i,s,c⟩,m,n⟩:=h;obtain⟨w',u,o,a,v⟩:=s.range K.keyed ht;refine⟨w',u,⟨⟨i,Maps.has (.map i),?_,c,λA=>?_⟩,m,n,λx g=>g,m⟩,⟨a.os,a.tape,a.output,a.size,λj y=>a.block j y zS⟩,v⟩
 ·rw[Maps.size_eq,c.length_eq,Pe]at o;exact o
 ·rw[Maps.has_eq,Sq];constructor
  ·rintro⟨p,r,z⟩;obtain⟨q,d,rfl⟩:=Pa.1 (c.mem_iff.1 r);exact⟨q.1,Pq (f:=(·.1)) d,WideAt.sameKey_eq z⟩
  ·rintro⟨x,g,rfl⟩;obtain⟨q,d,rfl⟩:=Pa.1 g;exact⟨_,c.mem_iff.2 (Pq (f:=λp=>(enc p.1,DataW.held p.2)) d),WideAt.sameKey_self (K.lit (n q d))⟩
end
section
variable {P:Program} {k:TypeId} {κ:Type} [DecidableEq κ] {enc:κ→Lit} {val:κ→Value} {E3:κ→Prop} {w w':World} {b:Nat} {l:List (κ×Value)}
def oe{x:κ}(K:gp P k enc val E3)(hx:E3 x){es:List (Lit×DataW Value)}(hp:es.Perm (l.map λp=>(enc p.1,DataW.held p.2)))(hd:cw l)(hm:∀p∈l,E3 p.1):
  es.find? (λp=>p.1.sameKey (enc x))=(ap l x).map λv=>(enc x,DataW.held v):=by
 cases hg:ap l x with
 |none=>
  rw[QH];refine RB.2 λp c b=>?_;obtain⟨q,a,rfl⟩:=Pa.1 (hp.mem_iff.1 c);have:=K.inj _ _ (hm q a) hx (WideAt.sameKey_eq b);exact gz.1 hg (by rw[<-this];exact Pq (f:=(·.1)) a)
 |some v=>
  have d:=hp.mem_iff.2 (Pa.2 ⟨(x,v),bR hg,rfl⟩);rw[PT]
  cases hf:es.find? (λp=>p.1.sameKey (enc x))with
  |none=>
   have:=RB.1 hf _ d;exact absurd (WideAt.sameKey_self (K.lit hx)) this
  |some p=>
   have b:=List.find?_some hf;obtain⟨q,a,rfl⟩:=Pa.1 (hp.mem_iff.1 (List.mem_of_find?_eq_some hf));have e:=K.inj _ _ (hm q a) hx (WideAt.sameKey_eq b);obtain⟨g,h⟩:=q;simp only at e;subst e;have:=im hd a;rw[hg]at this;injection this with this;rw[this]
def LB{x:κ}(K:gp P k enc val E3)(hx:E3 x){es:List (Lit×DataW Value)}(hp:es.Perm (l.map λp=>(enc p.1,DataW.held p.2)))(hd:cw l)(hm:∀p∈l,E3 p.1):
  es.any (λp=>p.1.sameKey (enc x))=(ap l x).isSome:=by
 have h:=oe K hx hp hd hm;have:(es.find? λp=>p.1.sameKey (enc x)).isSome=(ap l x).isSome:=by rw[h];simp
 rw[<-this,List.isSome_find?]
section
variable {t e:TypeId} {x:κ} {z:Value}
def aw.look(h:aw P k enc E3 w b l)(K:gp P k enc val E3)(ht:P.underlying t=some (.map k e))(hz:(zeroValue e).run P w=.ok z w)(hx:E3 x):
  (Instr.lookup t (.map (some b)) (val x) false).run P w=.ok ((ap l x).getD z) w:=by
 obtain⟨⟨j,d,f⟩,g,i⟩:=h;obtain⟨v,m,c,a⟩:=d.lookup K.keyed ht hz (zd:=.held z) (zp:=[]) rfl (K.key x hx);rw[DataW.atKey,oe K hx f g i]at a;rw[c]
 cases hg:ap l x with
 |none=>rw[hg]at a;exact congrArg (λu=>Result.ok u w) (sw a)
 |some u=>rw[hg]at a;exact congrArg (λu=>Result.ok u w) (sw a)
def aw.look_ok(h:aw P k enc E3 w b l)(K:gp P k enc val E3)(ht:P.underlying t=some (.map k e))(hz:(zeroValue e).run P w=.ok z w)(hx:E3 x):
  (Instr.lookup t (.map (some b)) (val x) true).run P w=.ok (.tuple #[(ap l x).getD z,.bool (ap l x).isSome]) w:=by
 obtain⟨⟨j,i,d⟩,f,g⟩:=h;obtain⟨v,m,a,c⟩:=i.look_ok K.keyed ht hz (zd:=.held z) (zp:=[]) rfl (K.key x hx);rw[DataW.atKey,oe K hx d f g]at c;rw[Maps.has_eq,LB K hx d f g]at a;rw[a]
 cases hg:ap l x with
 |none=>rw[hg]at c;rw[show v=z from sw c];rfl
 |some u=>rw[hg]at c;rw[show v=u from sw c];rfl
end
def qJ(x:Lit×DataW Value):∀l:List (Lit×DataW Value),(DataW.insert x l).Perm (x::l)
 |[]=>.refl _
 |y::r=>by
  unfold DataW.insert;split
  ·exact .refl _
  ·exact((qJ x r).cons y).trans (List.Perm.swap _ _ _)
def sy{x:κ}(K:gp P k enc val E3)(hx:E3 x){es:List (Lit×DataW Value)}(hp:es.Perm (l.map λp=>(enc p.1,DataW.held p.2)))(hm:∀p∈l,E3 p.1):
  (es.filter λp=>!p.1.sameKey (enc x)).Perm ((ft l x).map λp=>(enc p.1,DataW.held p.2)):=by
 refine(hp.filter _).trans ?_;unfold ft;rw[Rk];refine .of_eq (congrArg _ (QK λp a=>?_));have:p.1=x↔(enc p.1).sameKey (enc x)=true:=⟨λh=>by rw[h];exact WideAt.sameKey_self (K.lit hx),λh=>K.inj _ _ (hm p a) hx (WideAt.sameKey_eq h)⟩;by_cases h:p.1=x
 ·simp[h,WideAt.sameKey_self (K.lit hx)]
 ·have b:(enc p.1).sameKey (enc x)=false:=by
   cases hs:(enc p.1).sameKey (enc x)with
   |false=>rfl
   |true=>exact absurd (this.2 hs) h
  simp[h,b]
def qK{es:List (Lit×DataW Value)}(h:w.ownsMap P k Rv b n (.map es))(hm:m=es.length):w.ownsMap P k Rv b m (.map es):=by
 obtain⟨d,a,e,f,g,c⟩:=h;refine⟨d,a,e,f,?_,c⟩;injection c with c;rw[hm,c,length_sorted];simp
def aw.S5{x:κ}{v:Value}{n:Nat}{es:List (Lit×DataW Value)}(K:gp P k enc val E3)(hx:E3 x)(hp:es.Perm (l.map λp=>(enc p.1,DataW.held p.2)))(hd:cw l)(hm:∀p∈l,E3 p.1)
  (ho:w'.ownsMap P k Rv b n ((DataW.map es).put (enc x) (.held v))):aw P k enc E3 w' b (aR l x v):=by
 have a:(DataW.insert (enc x,DataW.held v) (es.filter λp=>!p.1.sameKey (enc x))).Perm ((aR l x v).map λp=>(enc p.1,DataW.held p.2)):=
  ((qJ _ _).trans ((sy K hx hp hm).cons _)).trans (((io hd x v).map (λ(p:κ×Value)=>(enc p.1,(DataW.held p.2:DataW Value)))).symm)
 refine⟨⟨_,qK ho ?_,a⟩,wQ hd x v,λp c=>?_⟩
 ·rw[a.length_eq,Pe]
 ·rcases LA c with rfl|⟨h,_⟩|h
  ·exact hx
  ·exact hm p h
  ·exact hm p h
def cZ{ops:Array Oper}{rest:List Oper}{o:Oper}{a:Act}{Q:Exit->Act->World->Prop}(hg:o.guard=none)(m x v:Operand)(t e:TypeId)(hop:o.op=Op.mapUpdate t m x v)
  (K:gp P k enc val E3)(ht:P.underlying t=some (.map k e))(y:κ)(hy:E3 y)(u:Value)(hm:a.eval m=.map (some b))(hx:a.eval x=val y)(hv:a.eval v=u)(h:aw P k enc E3 w b l)(hn:l.length<=100000)
  (hK:∀w',aw P k enc E3 w' b (aR l y u)->ag (λj=>j=b) w w'->w'.heap.size=w.heap.size->wpList P ops Q rest (a.put o.dst undef) w'):wpList P ops Q (o::rest) a w:=by
 obtain⟨⟨c,p,q⟩,r,d⟩:=h;refine wpList_mapUpdate_in w hg m x v t hop k e K.keyed ht Rv b l.length (.map c) hm p zU (val y) u (enc y) hx hv (K.key y hy) (.held u) [] rfl λw' s f=>?_;have hg:=f.grown;refine hK w' (aw.S5 K hy q r d s) ⟨hg.os,hg.tape,hg.output,hg.size,λj z g=>hg.block j z λe=>g (by injection e)⟩ ?_;obtain⟨c,n,A,i,B,rfl⟩:=f;simp[Go.ChangeMaps.setBlock]
def mf{ops:Array Oper}{rest:List Oper}{o:Oper}{a:Act}{Q:Exit->Act->World->Prop}(hg:o.guard=none)(m x:Operand)(t e:TypeId)(hop:o.op=Op.call {callee:=Callee.builtin Builtin.delete,args:=#[m,x],argTypes:=#[t,k]})
  (K:gp P k enc val E3)(ht:P.underlying t=some (.map k e))(y:κ)(hy:E3 y)(hm:a.eval m=.map (some b))(hx:a.eval x=val y)(h:aw P k enc E3 w b l)
  (hK:∀w',aw P k enc E3 w' b (ft l y)->ag (λj=>j=b) w w'->w'.heap.size=w.heap.size->wpList P ops Q rest (a.put o.dst (.tuple #[])) w'):wpList P ops Q (o::rest) a w:=by
 obtain⟨⟨f,s,u⟩,v,c⟩:=h;refine wpList_delete_own w hg m x t k hop e K.keyed ht Rv b l.length (.map f) hm s (val y) (enc y) hx (K.key y hy) λw' z g=>?_;have hg:=g.grown;have d:=sy K hy u c;refine hK w' ⟨⟨_,qK z (by rw[d.length_eq,Pe]),d⟩,Iw v y,λp i=>c p (Pp.1 i).1⟩ ⟨hg.os,hg.tape,hg.output,hg.size,λj A n=>hg.block j A λe=>n (by injection e)⟩ ?_;obtain⟨f,r,B,q,D,rfl⟩:=g;simp[Go.ChangeMaps.setBlock]
def dx.next{todo:List κ}(h:dx P k enc E3 w b r l todo cnt)(K:gp P k enc val E3)(hval:∀v x,E3 x->keyOf P k v=some (enc x)->v=val x)(ty:TypeId):
  (todo=[]/\(Instr.next (Z r 0) false ty).run P w=.ok (.tuple #[.bool false]) w)\/
  ∃x v w' cnt',x∈todo/\ap l x=some v/\(Instr.next (Z r 0) false ty).run P w=.ok (.tuple #[.bool true,val x,v]) w'/\
   dx P k enc E3 w' b r l (todo.erase x) cnt'/\cnt'<cnt/\ag (λj=>j=r) w w'/\w'.heap.size=w.heap.size/\(Instr.entry (Z r 0)).run P w'=.ok (.tuple #[val x,v]) w':=by
 obtain⟨⟨L,N,O,A,n⟩,B,g,i,o⟩:=h
 rcases O.next K.keyed ty with⟨h0,p,s⟩|⟨D,v,F,y,w',cnt',p,s,m,Q,R,S,T,f,U,G⟩
 ·refine .inl ⟨?_,s⟩
  cases todo with
  |nil=>rfl
  |cons x r=>have:=(n (enc x)).2 ⟨x,zS,rfl⟩;rw[p]at this;cases this
 ·obtain⟨x,t,rfl⟩:=(n F).1 s;have c:E3 x:=by
   obtain⟨q,z,rfl⟩:=Pa.1 (i x t);exact g q z
  obtain rfl:=hval D x c p;have X:ap l x=some v:=by
   have:=Q (.held undef);rw[DataW.atKey,oe K c A B g]at this;obtain⟨u,hu⟩:=Rd.1 (gY.2 (i x t));rw[hu]at this ⊢;unfold Rv at m;injection m with m;rw[<-m]at this;simp only[PT]at this;injection this with this;rw[this]
  refine .inr ⟨x,v,w',cnt',t,X,R,⟨⟨L,_,S,A,λF=>?_⟩,B,g,λy a=>i y (List.mem_of_mem_erase a),o.erase x⟩,T,⟨f.os,f.tape,f.output,f.size,λj hj d=>f.block j hj λe=>d (by injection e)⟩,U,G⟩;simp only[OY,Sl,n];constructor
  ·rintro⟨⟨y,a,rfl⟩,d⟩;refine⟨y,?_,rfl⟩;rw[List.Nodup.mem_erase_iff o];refine⟨λe=>?_,a⟩;subst e;rw[WideAt.sameKey_self (K.lit c)]at d
   cases d
  ·rintro⟨y,a,rfl⟩;rw[List.Nodup.mem_erase_iff o]at a;refine⟨⟨y,a.2,rfl⟩,?_⟩
   cases hsk:(enc y).sameKey (enc x)with
   |false=>rfl
   |true=>
    have H:E3 y:=by
     obtain⟨q,z,rfl⟩:=Pa.1 (i y a.2);exact g q z
    exact absurd (K.inj _ _ H c (WideAt.sameKey_eq hsk)) a.1
end
end
def cx{T:TypeId}(hT:cU P T n){t u:Tmp}(h:fn.results=#[.cell t T,.tmp u]){ty:TypeId}(hb:Blk w g ty cs)(hn:cs.size=n)(tmps:Array Value)(ht:tmps[t]?.getD undef=Z g 0):(results fn tmps).run P w=.ok (.tuple #[.agg cs,tmps[u]?.getD undef]) w:=by
 have a:=iA hT w (Y g 0) cs hn (bQ hb);simp[results,h,ht,asAddr,a]
def lj:cU prog 58 2:=⟨zR,zR,zR⟩
def wR:cU prog 51 6:=⟨zR,zR,zR⟩
def bitN(t:Int):Nat:=if 0<=t/\t<32 then 2^t.toNat else 0
def iG(t:Int):bitN t<4294967296:=by
 unfold bitN;split
 ·have:2^t.toNat<=2^31:=Rb zO zO;omega
 ·omega
def lm(h:¬(0<=t/\t<32)):bitN t=0:=Oz h
def mi(h:0<=t/\t<32):bitN t=2^t.toNat:=OB h
def IA(h:0<=t/\t<32):0<bitN t:=by rw[mi h];exact Nat.two_pow_pos _
def mM(a:Nat)(ha:a<4294967296):(BitVec.ofInt 32 (a:Int)).toNat=a:=by
 rw[BitVec.ofInt_natCast,BitVec.toNat_ofNat];exact QE zO
def Bn(a b:Nat)(ha:a<4294967296)(hb:b<4294967296):bits .and .u32 (a:Int) (b:Int)=((a&&& b:Nat):Int):=by
 have c:a&&& b<2^32:=Nat.and_lt_two_pow _ zO;show IntKind.u32.wrap ((BitVec.ofInt 32 (a:Int)&&& BitVec.ofInt 32 (b:Int)).toNat:Int)=_;rw[BitVec.toNat_and,mM a ha,mM b hb];simp[IntKind.wrap,IntKind.bits,IntKind.signed];omega
def EC(a b:Nat)(ha:a<4294967296)(hb:b<4294967296):bits .or .u32 (a:Int) (b:Int)=((a|||b:Nat):Int):=by
 have c:a|||b<2^32:=Rq zO zO
 show IntKind.u32.wrap ((BitVec.ofInt 32 (a:Int)|||BitVec.ofInt 32 (b:Int)).toNat:Int)=_;rw[BitVec.toNat_or,mM a ha,mM b hb];simp[IntKind.wrap,IntKind.bits,IntKind.signed];omega
structure Lk where
 r:Nat
 w:Nat
 line:List (Int×Bool)
structure Lk.ok(l:Lk):Prop where
 r:l.r<4294967296
 w:l.w<4294967296
 line:∀x∈l.line,0<=x.1/\x.1<32
def mN(x:Int×Bool):List Value:=[I x.1,.bool x.2]
def eJ(l:List (Int×Bool)):List Value:=l.flatMap mN
def py:(mN x).length=2:=rfl
def wT(l:List (Int×Bool)):(eJ l).length=l.length*2:=db _ 2 py l
def eD(l:Lk)(t:Int):Int:=if bitN t=0 then 0 else if l.w&&& bitN t≠0 then 2 else if l.r&&& bitN t≠0 then 1 else 0
def fL(l:Lk)(write:Bool):Bool:=decide (l.w=0)&&(!write||decide (l.r=0))
def ei(l:Lk)(x:Int×Bool):Lk:=if x.2 then{l with w:=l.w|||bitN x.1} else{l with r:=l.r|||bitN x.1}
def gI(l:Lk)(t:Int)(b:Bool):Lk×Bool×Int:=
 if bitN t=0 then(l,false,1)
 else if eD l t≠0\/t∈l.line.map (·.1)then(l,false,15)
 else if l.line=[]/\fL l b=true then(ei l (t,b),true,0)
 else({l with line:=l.line++[(t,b)]},false,0)
def clr(a b:Nat):Nat:=a&&& (4294967295-b)
def wU{a:Nat}(b:Nat)(ha:a<4294967296):clr a b<4294967296:=Nat.lt_of_le_of_lt Nat.and_le_left ha
def eX:List (Int×Bool)->Nat->Nat->Lk×List Int
 |[],r,w=>(⟨r,w,[]⟩,[])
 |x::ln,r,w=>if fL ⟨r,w,[]⟩ x.2=true then((eX ln (ei ⟨r,w,ln⟩ x).r (ei ⟨r,w,ln⟩ x).w).1,x.1::(eX ln (ei ⟨r,w,ln⟩ x).r (ei ⟨r,w,ln⟩ x).w).2)else(⟨r,w,x::ln⟩,[])
def mO(l:Lk)(t:Int):Lk×List Int:=eX l.line (clr l.r (bitN t)) (clr l.w (bitN t))
def lN(l:Lk)(x:Int×Bool):(ei l x).line=l.line:=by unfold ei;split<;>rfl
def IB{w:Nat}{ln:List (Int×Bool)}(h:Lk.ok ⟨r,w,x::ln⟩):(ei ⟨r,w,ln⟩ x).ok:=by
 have a:=h.r;have b:=h.w;simp only at a b;have c:∀y∈ln,0<=y.1/\y.1<32:=λy d=>h.line y (by simp[d]);have e:=iG x.1;unfold ei;split
 ·exact⟨a,Rq (n:=32) zO zO,c⟩
 ·exact⟨Rq (n:=32) zO zO,b,c⟩
def ag.own{p:Nat}(h:ag (λj=>j=p) w w'){s:Nat}{e:TypeId}(hv:w.ownsRow B e s v n xs)(hp:p<B):w'.ownsRow B e s v n xs:=
 hv.kept (row:=some p) ⟨h.os,h.tape,h.output,h.size,λk b a=>h.block k b λe=>a (by rw[e])⟩ (.inr (p8 hv hp))
def IC{a b:Nat}(ha:a<4294967296)(hb:b<4294967296):a|||b<4294967296:=Rq (n:=32) zO zO
def ED{l:Lk}(h:l.ok):(ei l x).ok:=by
 unfold ei;split
 ·exact⟨h.r,IC h.w (iG _),h.line⟩
 ·exact⟨IC h.r (iG _),h.w,h.line⟩
def LD{l:Lk}(t:Int)(b:Bool)(h:l.ok):(gI l t b).1.ok:=by
 unfold gI;by_cases c:bitN t=0
 ·rw[OB c];exact h
 rw[Oz c];by_cases d:eD l t≠0\/t∈l.line.map (·.1)
 ·rw[OB d];exact h
 rw[Oz d];by_cases e:l.line=[]/\fL l b=true
 ·rw[OB e];exact ED _ h
 rw[Oz e];refine⟨h.r,h.w,λx a=>?_⟩;simp only[Po,Py]at a
 rcases a with a|rfl
 ·exact h.line x a
 ·refine Pg λf=>c (lm f)
def ID(l:Lk)(t:Int)(b:Bool):(gI l t b).1.line.length<=l.line.length+1:=by
 unfold gI;split
 ·exact OW _
 split
 ·exact OW _
 split
 ·rw[lN];exact OW _
 ·simp
def ag.L1(h:ag (λj=>B<=j) w w')(hB:B<=w.heap.size):Below B w w':=h.below hB λ_ h=>h
structure Rf where
 rd:List Int
 wr:List Int
 line:List (Int×Bool)
def bS(x:Rf)(t:Int):Int:=if t∈x.wr then 2 else if t∈x.rd then 1 else 0
def jL(x:Rf)(b:Bool):Bool:=decide (x.wr=[])&&(!b||decide (x.rd=[]))
def cO(x:Rf)(y:Int×Bool):Rf:=if y.2 then{x with wr:=x.wr++[y.1]} else{x with rd:=x.rd++[y.1]}
def ip(x:Rf)(t:Int)(b:Bool):Rf×Bool×Int:=
 if t<0\/31<t then(x,false,1)
 else if bS x t≠0\/t∈x.line.map (·.1)then(x,false,15)
 else if x.line=[]/\jL x b=true then(cO x (t,b),true,0)
 else({x with line:=x.line++[(t,b)]},false,0)
def fi:List (Int×Bool)->List Int->List Int->Rf×List Int
 |[],r,w=>(⟨r,w,[]⟩,[])
 |x::ln,r,w=>if jL ⟨r,w,[]⟩ x.2=true then((fi ln (cO ⟨r,w,ln⟩ x).rd (cO ⟨r,w,ln⟩ x).wr).1,x.1::(fi ln (cO ⟨r,w,ln⟩ x).rd (cO ⟨r,w,ln⟩ x).wr).2)else(⟨r,w,x::ln⟩,[])
def jM(l:List Int)(t:Int):List Int:=l.filter λx=>x≠t
def iH(x:Rf)(t:Int):Rf×List Int:=fi x.line (jM x.rd t) (jM x.wr t)
structure kr(m:Nat)(s:List Int):Prop where
 lt:m<4294967296
 bit:∀i:Nat,i<32->(m.testBit i=true↔(i:Int)∈s)
 M8:∀t∈s,0<=t/\t<32
def LE(h:0<=t/\t<32):(m&&& bitN t≠0)↔m.testBit t.toNat=true:=by
 rw[mi h];constructor
 ·intro b;refine Pg λa=>b ?_;apply Nat.eq_of_testBit_eq;intro i;rw[Nat.testBit_and,Rw,Ss];by_cases c:t.toNat=i
  ·subst c;simp at a;simp[a]
  ·simp[c]
 ·intro b a;have:(m&&& 2^t.toNat).testBit t.toNat=true:=by rw[Nat.testBit_and,Rw,b];simp
  rw[a]at this;simp at this
def kr.mem{s:List Int}(h:kr m s)(t:Int):(m&&& bitN t≠0)↔t∈s:=by
 by_cases a:0<=t/\t<32
 ·rw[LE a,h.bit t.toNat zO];rw[show((t.toNat:Nat):Int)=t by omega]
 ·rw[lm a];simp only[Nat.and_zero,ne_eq,not_true_eq_false,false_iff];exact λb=>a (h.M8 t b)
def kr.zero{s:List Int}(h:kr m s):m=0↔s=[]:=by
 constructor
 ·intro a
  rcases s with _|⟨t,s⟩
  ·rfl
  ·have c:=h.M8 t zS;have:=(h.bit t.toNat zO).2 (by rw[show((t.toNat:Nat):Int)=t by omega];simp);rw[a]at this;simp at this
 ·intro a;subst a;apply Nat.eq_of_testBit_eq;intro i;rw[Ss];by_cases b:i<32
  ·have:=h.bit i b
   simpa using this
  ·have:m<2^i:=OV h.lt (by rw[show(4294967296:Nat)=2^32 by rfl];exact Rb zP zO);exact Nat.testBit_lt_two_pow this
def kr.more{s:List Int}(h:kr m s)(ht:0<=t/\t<32):kr (m|||bitN t) (s++[t]):=by
 refine⟨IC h.lt (iG t),λi b=>?_,λu a=>?_⟩
 ·rw[Nat.testBit_or,mi ht,Rw,Bool.or_eq_true,h.bit i b,Po,Py,decide_eq_true_eq];constructor
  ·rintro(h|h)
   ·exact .inl h
   ·right;omega
  ·rintro(h|h)
   ·exact .inl h
   ·right;omega
 ·simp only[Po,Py]at a
  rcases a with a|rfl
  ·exact h.M8 u a
  ·exact ht
def kr.less{s:List Int}(h:kr m s)(t:Int):kr (clr m (bitN t)) (jM s t):=by
 have f:=iG t;refine⟨wU _ h.lt,λi c=>?_,λu d=>h.M8 u (Pp.1 d).1⟩;unfold clr jM;rw[show 4294967295-bitN t=2^32-(bitN t+1) by omega,Nat.testBit_and,Nat.testBit_two_pow_sub_succ zO,OY,h.bit i c,Pp];simp only[c,decide_true,Vg,ne_eq,decide_not,Bool.not_eq_eq_eq_not,Bool.not_true,decide_eq_false_iff_not];refine and_congr_right λ_=>?_;by_cases b:0<=t/\t<32
 ·rw[mi b,Rw,decide_eq_false_iff_not];constructor
  ·intro a e;exact a zO
  ·intro a e;exact a zO
 ·rw[lm b];simp only[Ss,true_iff];intro a;exact b zO
structure dX(l:Lk)(x:Rf):Prop where
 r:kr l.r x.rd
 w:kr l.w x.wr
 line:l.line=x.line
 M8:∀y∈x.line,0<=y.1/\y.1<32
def dX.ok{l:Lk}{x:Rf}(h:dX l x):l.ok:=⟨h.r.lt,h.w.lt,by rw[h.line];exact h.M8⟩
def dX.held{l:Lk}{x:Rf}(h:dX l x)(t:Int):eD l t=bS x t:=by
 unfold eD bS;by_cases c:bitN t=0
 ·rw[OB c];have a:t∉x.wr:=λd=>(h.w.mem t).2 d (by rw[c];simp);have b:t∉x.rd:=λd=>(h.r.mem t).2 d (by rw[c];simp);rw[Oz a,Oz b]
 ·rw[Oz c];by_cases a:t∈x.wr
  ·rw[OB ((h.w.mem t).2 a),OB a]
  ·rw[Oz (λe=>a ((h.w.mem t).1 e)),Oz a];by_cases b:t∈x.rd
   ·rw[OB ((h.r.mem t).2 b),OB b]
   ·rw[Oz (λe=>b ((h.r.mem t).1 e)),Oz b]
def dX.fits{l:Lk}{x:Rf}(h:dX l x)(b:Bool):fL l b=jL x b:=by
 unfold fL jL;rw[decide_eq_decide.2 h.w.zero,decide_eq_decide.2 h.r.zero]
def dX.F6{l:Lk}{x:Rf}(h:dX l x)(hy:0<=y.1/\y.1<32):dX (ei l y) (cO x y):=by
 unfold ei cO;split
 ·exact⟨h.r,h.w.more hy,h.line,h.M8⟩
 ·exact⟨h.r.more hy,h.w,h.line,h.M8⟩
def dX.ask{l:Lk}{x:Rf}(h:dX l x)(t:Int)(b:Bool):dX (gI l t b).1 (ip x t b).1/\(gI l t b).2=(ip x t b).2:=by
 unfold gI ip;by_cases a:0<=t/\t<32
 ·have d:=IA a;rw[Oz (show ¬bitN t=0 by omega),Oz (show ¬(t<0\/31<t) by omega),h.held,h.line,h.fits];split
  ·exact⟨h,rfl⟩
  split
  ·exact⟨h.F6 a,rfl⟩
  ·refine⟨⟨h.r,h.w,rfl,λy c=>?_⟩,rfl⟩;simp only[Po,Py]at c
   rcases c with c|rfl
   ·exact h.M8 y c
   ·exact a
 ·rw[OB (lm a),OB zO];exact⟨h,rfl⟩
def sB(x:Rf)(y:Int×Bool):(cO x y).line=x.line:=by unfold cO;split<;>rfl
def Cs:∀(r w:Nat) (rd wr:List Int),dX ⟨r,w,ln⟩ ⟨rd,wr,ln⟩->dX (eX ln r w).1 (fi ln rd wr).1/\(eX ln r w).2=(fi ln rd wr).2:=by
 induction ln with
 |nil=>intro r w rd wr h;exact⟨h,rfl⟩
 |cons y ln ih=>
  intro r w rd wr h;rw[eX,fi];have c:dX ⟨r,w,[]⟩ ⟨rd,wr,[]⟩:=⟨h.r,h.w,rfl,zS⟩;have a:dX ⟨r,w,ln⟩ ⟨rd,wr,ln⟩:=⟨h.r,h.w,rfl,λz d=>h.M8 z (by simp[d])⟩;have b:=a.F6 (h.M8 y zS);rw[c.fits];split
  ·obtain⟨e,f⟩:=ih _ _ _ _ (⟨b.r,b.w,rfl,a.M8⟩:dX ⟨(ei ⟨r,w,ln⟩ y).r,(ei ⟨r,w,ln⟩ y).w,ln⟩ ⟨(cO ⟨rd,wr,ln⟩ y).rd,(cO ⟨rd,wr,ln⟩ y).wr,ln⟩);exact⟨e,by rw[f]⟩
  ·exact⟨h,rfl⟩
def dX.drop{l:Lk}{x:Rf}(h:dX l x)(t:Int):dX (mO l t).1 (iH x t).1/\(mO l t).2=(iH x t).2:=by
 unfold mO iH;rw[h.line];exact Cs _ _ _ _ _ ⟨h.r.less t,h.w.less t,rfl,h.M8⟩
def om:kr 0 []:=⟨zP,zS,zS⟩
def Ot:dX ⟨0,0,[]⟩ ⟨[],[],[]⟩:=⟨om,om,rfl,zS⟩
structure gh(x:Rf):Prop where
 one:x.wr=[]\/∃t,x.wr=[t]/\x.rd=[]
 apart:∀t∈x.line.map (·.1),t∉x.rd/\t∉x.wr
 nodup:(x.line.map (·.1)).Nodup
 idle:x.rd=[]->x.wr=[]->x.line=[]
def EE:gh ⟨[],[],[]⟩:=⟨.inl rfl,zS,zS,zS⟩
def Ct{x:Rf}{b:Bool}(h:jL x b=true):x.wr=[]/\(b=true->x.rd=[]):=by
 unfold jL at h;simp only[OY,decide_eq_true_eq,Bool.or_eq_true,Sl]at h;exact⟨h.1,λa=>h.2.resolve_left (by simp[a])⟩
def uE{x:Rf}(hf:jL x y.2=true):((cO x y).wr=[]\/∃t,(cO x y).wr=[t]/\(cO x y).rd=[])/\((cO x y).rd=[]->(cO x y).wr≠[]):=by
 obtain⟨a,b⟩:=Ct hf;unfold cO
 cases hb:y.2
 ·simp[a]
 ·simp[a,b hb]
def uF{x:Rf}(h1:t∉x.rd)(h2:t∉x.wr)(h3:t≠y.1):t∉(cO x y).rd/\t∉(cO x y).wr:=by
 unfold cO;split<;>simp[h1,h2,h3]
def gh.ask{x:Rf}(h:gh x)(t:Int)(b:Bool):gh (ip x t b).1:=by
 unfold ip;split
 ·exact h
 split
 ·exact h
 rename_i j;split
 ·rename_i i;obtain⟨k,o⟩:=i;obtain⟨p,q⟩:=uE (y:=(t,b)) o;refine⟨p,?_,?_,λd f=>absurd f (q d)⟩
  ·rw[sB,k];simp
  ·rw[sB,k];simp
 ·rename_i i;have c:=Pg λe=>j (.inl e);have l:t∉x.line.map (·.1):=λe=>j (.inr e);have m:t∉x.wr:=λe=>by unfold bS at c;rw[OB e]at c;cases c
  have r:t∉x.rd:=λe=>by unfold bS at c;rw[Oz m,OB e]at c;cases c
  refine⟨h.one,λu g=>?_,?_,λd f=>?_⟩
  ·simp only[QC,Pi,Qs,Po,Py]at g
   rcases g with g|rfl
   ·exact h.apart u g
   ·exact⟨r,m⟩
  ·simp only[QC,Pi,Qs];rw[Qa];exact⟨h.nodup,zS,λa s b n e=>by simp at n;subst e n;exact l s⟩
  ·exact absurd ⟨h.idle d f,by unfold jL;simp only at d f;simp[d,f]⟩ i
def wV:∀(rd wr:List Int),(wr=[]\/∃t,wr=[t]/\rd=[])->(∀t∈ln.map (·.1),t∉rd/\t∉wr)->(ln.map (·.1)).Nodup->gh (fi ln rd wr).1:=by
 induction ln with
 |nil=>intro rd wr b c a;exact⟨b,by simp[fi],by simp[fi],λ_ _=>rfl⟩
 |cons y ln ih=>
  intro rd wr b c a;rw[fi];split
  ·rename_i d;have f:jL ⟨rd,wr,ln⟩ y.2=true:=d;obtain⟨j,_⟩:=uE f;simp only[Pi,QB]at a;refine ih _ _ j (λt g=>?_) a.2;obtain⟨k,l⟩:=c t (by simp only[Pi,Pj];exact .inr g);exact uF (x:=⟨rd,wr,ln⟩) k l (λe=>a.1 (e▸g))
  ·rename_i d;refine⟨b,c,a,λh i=>absurd ?_ d⟩;simp only at h i;simp[jL,h,i]
def gh.drop{x:Rf}(h:gh x)(t:Int):gh (iH x t).1:=by
 unfold iH;refine wV _ _ _ ?_ (λu a=>?_) h.nodup
 ·rcases h.one with b|⟨u,b,c⟩
  ·left;rw[b];rfl
  ·rw[b,c];unfold jM;by_cases a:u=t
   ·left;simp[a]
   ·right;exact⟨u,by simp[a],rfl⟩
 ·obtain⟨d,f⟩:=h.apart u a;exact⟨λe=>d (Pp.1 e).1,λe=>f (Pp.1 e).1⟩
def kM(l:Lk)(zs:List Int):Lk:=zs.foldl (λl t=>(gI l t true).1) l
def IE(zs:List Int):∀{l:Lk},l.ok->(kM l zs).ok/\(kM l zs).line.length<=l.line.length+zs.length:=by
 induction zs with
 |nil=>intro l h;exact⟨h,OA _⟩
 |cons t zs ih=>
  intro l h;obtain⟨a,b⟩:=ih (LD t true h);have:=ID l t true;refine⟨a,?_⟩;show(kM (gI l t true).1 zs).line.length<=_;simp only[OC];omega
section
open Go.Sort
section
variable {α:Type}
def iJ(f:Nat->α)(a b n t:Nat):α:=if a<=t/\t<a+n then f (t-a+b)else if b<=t/\t<b+n then f (t-b+a)else f t
def fw(f:Nat->α)(a m b t:Nat):α:=if a<=t/\t<a+(b-m)then f (t-a+m)else if a+(b-m)<=t/\t<b then f (t-(b-m))else f t
def EN(f:Nat->α)(a b t:Nat):iJ f a b 0 t=f t:=by
 unfold iJ;rw[Oz zO,Oz zO]
def IN(f:Nat->α){i:Nat}(hj:j<i)(hm:i<=m)(t:Nat):fw (iJ f (m-i) m j) (m-i+j) m (m+j) t=fw f (m-i) m (m+j) t:=by
 unfold fw iJ
 (repeat' split)<;>first|rfl|(exfalso;omega)|(congr 1;omega)
def EO(f:Nat->α){i:Nat}(hj:i<j)(hm:i<=m)(t:Nat):fw (iJ f (m-i) (m+j-i) i) (m-i) m (m+j-i) t=fw f (m-i) m (m+j) t:=by
 unfold fw iJ
 (repeat' split)<;>first|rfl|(exfalso;omega)|(congr 1;omega)
def Ni(f:Nat->α){i:Nat}(hm:i<=m)(t:Nat):iJ f (m-i) m i t=fw f (m-i) m (m+i) t:=by
 unfold fw iJ
 (repeat' split)<;>first|rfl|(exfalso;omega)|(congr 1;omega)
def uK{f g:Nat->α}(h:∀t,f t=g t)(a m b t:Nat):fw f a m b t=fw g a m b t:=by
 rw[show f=g from funext h]
def Cy(f:Nat->α)(m b t:Nat):fw f m m b t=f t:=by
 unfold fw
 (repeat' split)<;>first|rfl|(congr 1;omega)
def Cz(f:Nat->α)(a m t:Nat):fw f a m m t=f t:=by
 unfold fw
 (repeat' split)<;>first|rfl|(congr 1;omega)
def upF(f:Nat->α)(a i t:Nat):α:=if a<=t/\t<i then f (t+1)else if t=i then f a else f t
def mR(f:Nat->α)(i m t:Nat):α:=if i<t/\t<=m then f (t-1)else if t=i then f m else f t
def LH(f:Nat->α)(a t:Nat):upF f a a t=f t:=by
 unfold upF
 (repeat' split)<;>first|rfl|(exfalso;omega)|(congr 1;omega)
def EP(f:Nat->α)(m t:Nat):mR f m m t=f t:=by
 unfold mR
 (repeat' split)<;>first|rfl|(exfalso;omega)|(congr 1;omega)
variable [Inhabited α]
def EQ{d:Array α}{f:Nat->α}{a b:Nat}(hab:a+n<b)(hb:b+n<d.size)(h:∀t,d[t]! =iJ f a b n t)(t:Nat):(swp d (a+n) (b+n))[t]! =iJ f a b (n+1) t:=by
 rw[swp_get d zO hb,h,h,h];unfold iJ
 (repeat' split)<;>first|rfl|(exfalso;omega)|(congr 1;omega)
variable {lt:α→α→Bool}
def ez(hS:SWO lt){d:Array α}{a b:Nat}(h:SortedIn lt a b d){i:Nat}(hi:a<=i)(hij:i<=j)(hj:j<b):lt d[j]! d[i]! =false:=by
 rcases Ri hij with rfl|c
 ·exact hS.irrefl _
 ·exact h i j hi c hj
def kP{d d':Array α}{a b x y:Nat}(hp:PermIn a b d d')(h:SortedIn lt x y d)(ho:y<=a\/b<=x):SortedIn lt x y d':=λi j e c f=>by
 rw[hp.2.1 i zO,hp.2.1 j zO];exact h i j e c f
def IO{d1 d2 d3:Array α}{a D5 b:Nat}(ha:a<=D5)(hb:D5<=b)(hsz:b<=d1.size)(hp1:PermIn a D5 d1 d2)(hs1:SortedIn lt a D5 d2)(hp2:PermIn D5 b d2 d3)(hs2:SortedIn lt D5 b d3)
  (hx:∀i j,a<=i->i<D5->D5<=j->j<b->lt d1[j]! d1[i]! =false):PermIn a b d1 d3/\SortedIn lt a b d3:=by
 have r:=hp1.1;have n:=permIn_trans _ _ _ _ _ (permIn_mono _ _ _ _ _ _ (OA _) hb zO hp1) (permIn_mono _ _ _ _ _ _ ha (OA _) zO hp2);refine⟨n,λi j f c g=>?_⟩;by_cases o:D5<=i
 ·exact hs2 i j o c g
 ·by_cases p:j<D5
  ·rw[hp2.2.1 i zO,hp2.2.1 j zO];exact hs1 i j f c p
  ·have q:∀j,D5<=j->j<b->∀i,a<=i->i<D5->lt d2[j]! d2[i]! =false:=λj h k i l m=>by
    rw[hp1.2.1 j zO];exact permIn_all d1 d2 a D5 (λx=>lt d1[j]! x=false) zO hp1 (λi d e=>hx i j d e h k) i l m
   rw[hp2.2.1 i zO];exact permIn_all d2 d3 D5 b (λx=>lt x d2[i]! =false) zO hp2 (λj d e=>q j d e i f zO) j zO g
structure we(lt:α->α->Bool)(d:Array α)(a m b D5 s:Nat):Prop where
 am:a<=m
 mb:m<=b
 amid:a<=D5
 midb:D5<=b
 as_:a<=s
 sm:s<=m
 smid:s<=D5
 endm:m+D5<=b+s
 below:a<s->m+D5<b+s->lt d[m+D5-s]! d[s-1]! =false
 above:s<m->s<D5->lt d[m+D5-s-1]! d[s]! =true
def CA(hS:SWO lt){d d1:Array α}{a b D5 s:Nat}(h:we lt d a m b D5 s)(hl:SortedIn lt a m d)(hr:SortedIn lt m b d)(h1:∀t,d1[t]! =fw (λt=>d[t]!) s m (m+D5-s) t):
  SortedIn lt a s d1/\SortedIn lt s D5 d1/\SortedIn lt D5 (m+D5-s) d1/\SortedIn lt (m+D5-s) b d1/\∀i j,a<=i->i<D5->D5<=j->j<b->lt d1[j]! d1[i]! =false:=by
 obtain⟨Q,R,S,T,U,X,g7,g8,N,F⟩:=h;have u:∀t,t<s->d1[t]! =d[t]!:=λt v=>by rw[h1];unfold fw;rw[Oz zO,Oz zO]
 have w:∀t,s<=t->t<D5->d1[t]! =d[t-s+m]!:=λt v O=>by rw[h1];unfold fw;rw[OB zO]
 have o:∀t,D5<=t->t<m+D5-s->d1[t]! =d[t-(D5-s)]!:=λt v O=>by rw[h1];unfold fw;rw[Oz zO,OB zO];congr 1;omega
 have p:∀t,m+D5-s<=t->d1[t]! =d[t]!:=λt v=>by rw[h1];unfold fw;rw[Oz zO,Oz zO]
 refine⟨λi j c f e=>?_,λi j c f e=>?_,λi j c f e=>?_,λi j c f e=>?_,λi j c G q e=>?_⟩
 ·rw[u i zO,u j e];exact hl i j c f zO
 ·rw[w i c zO,w j zO e];exact hr _ _ zO zO zO
 ·rw[o i c zO,o j zO e];exact hl _ _ zO zO zO
 ·rw[p i c,p j zO];exact hr i j zO f e
 ·
  have H:∀x,a<=x->x<s->∀y,m+D5-s<=y->y<b->lt d[y]! d[x]! =false:=λx g L y k l=>by
   have z:=N zO zO;have A:=ez hS hl (i:=x) (j:=s-1) g zO zO;have B:=ez hS hr (i:=m+D5-s) (j:=y) zO k l;exact hS.ntrans _ _ _ B (hS.ntrans _ _ _ z A)
  have D:∀x,m<=x->x<m+D5-s->∀y,s<=y->y<m->lt d[y]! d[x]! =false:=λx g L y k l=>by
   have z:=F zO zO;have A:=ez hS hr (i:=x) (j:=m+D5-s-1) g zO zO;have B:=ez hS hl (i:=s) (j:=y) zO k l;have P:lt d[s]! d[m+D5-s-1]! =false:=by
    cases h:lt d[s]! d[m+D5-s-1]! with
    |false=>rfl
    |true=>have:=hS.trans _ _ _ h z;rw[hS.irrefl]at this;cases this
   exact hS.ntrans _ _ _ B (hS.ntrans _ _ _ P A)
  by_cases r:i<s
  ·rw[u i r];by_cases n:j<m+D5-s
   ·rw[o j q n];exact ez hS hl c zO zO
   ·rw[p j zO];exact H i c r j zO e
  ·rw[w i zO G];by_cases n:j<m+D5-s
   ·rw[o j q n];exact D _ zO zO _ zO zO
   ·rw[p j zO];exact ez hS hr zO zO e
def LI{d:Array α}{f:Nat->α}{a i:Nat}(ha:a<=i)(hi:i+1<d.size)(h:∀t,d[t]! =upF f a i t)(t:Nat):(swp d i (i+1))[t]! =upF f a (i+1) t:=by
 rw[swp_get d zO hi,h,h,h];unfold upF
 (repeat' split)<;>first|rfl|(exfalso;omega)|(congr 1;omega)
def ER{d:Array α}{f:Nat->α}{i:Nat}(hi:i+1<=m)(hm:i+1<d.size)(h:∀t,d[t]! =mR f (i+1) m t)(t:Nat):(swp d (i+1) i)[t]! =mR f i m t:=by
 rw[swp_get d hm zO,h,h,h];unfold mR
 (repeat' split)<;>first|rfl|(exfalso;omega)|(congr 1;omega)
def ES(hS:SWO lt){d d1:Array α}{a b i:Nat}(hi:a<=i)(hib:i<b)(hr:SortedIn lt (a+1) b d)(h1:∀t,d1[t]! =upF (λt=>d[t]!) a i t)
  (hlow:∀t,a+1<=t->t<=i->lt d[t]! d[a]! =true)(hhigh:∀t,i<t->t<b->lt d[t]! d[a]! =false):SortedIn lt a b d1:=by
 intro x y l k c;have f:∀p q,lt p q=true->lt q p=false:=λp q h=>by
  cases e:lt q p with
  |false=>rfl
  |true=>have:=hS.trans _ _ _ h e;rw[hS.irrefl]at this;cases this
 rw[h1,h1];unfold upF;simp only;by_cases m:y<i
 ·rw[OB zO,OB zO];exact hr _ _ zO zO zO
 ·rw[Oz zO];by_cases g:y=i
  ·rw[OB g,OB zO];exact f _ _ (hlow _ zO zO)
  ·rw[Oz g];by_cases n:x<i
   ·rw[OB zO];exact ez hS hr zO zO c
   ·rw[Oz zO];by_cases j:x=i
    ·rw[OB j];exact hhigh _ zO c
    ·rw[Oz j];exact hr _ _ zO zO c
def Ai(hS:SWO lt){d d1:Array α}{a i:Nat}(hi:a<=i)(him:i<=m)(hl:SortedIn lt a m d)(h1:∀t,d1[t]! =mR (λt=>d[t]!) i m t)
  (hlow:∀t,a<=t->t<i->lt d[m]! d[t]! =false)(hhigh:∀t,i<=t->t<m->lt d[m]! d[t]! =true):SortedIn lt a (m+1) d1:=by
 intro x y f k l;have b:∀p q,lt p q=true->lt q p=false:=λp q h=>by
  cases e:lt q p with
  |false=>rfl
  |true=>have:=hS.trans _ _ _ h e;rw[hS.irrefl]at this;cases this
 rw[h1,h1];unfold mR;simp only;by_cases n:i<x
 ·rw[OB zO,OB zO];exact hl _ _ zO zO zO
 ·rw[Oz (c:=i<x/\x<=m) zO];by_cases g:x=i
  ·rw[OB g,OB zO];exact b _ _ (hhigh _ zO zO)
  ·rw[Oz g];by_cases o:i<y
   ·rw[OB zO];exact ez hS hl zO zO zO
   ·rw[Oz zO];by_cases j:y=i
    ·rw[OB j];exact hlow _ f zO
    ·rw[Oz j];exact hl _ _ f zO zO
end
end
section
variable {P:Program} {s:Nat} {w:World} {t e e':TypeId} {z:Value} {bytes:Nat}
def vV(hT:cE P t e z s bytes)(hs0:0<s)(ty:TypeId)(hm:aQ w B e s v n xs)(hB:B<=w.heap.size)(hg:g=w.heap.size)(hcs:cs.size=s)(h1:∀u∈cs.toList,u.oneCell'=true)
  (hlen:(n+1)*bytes<=140737488355328)(hle:n+1<=maxLen):
  ∃v' w',(Builtin.append_ #[t,t] ty #[v,V g 0 1 1]).run P (w.alloc (.cells cs e'))=.ok v' w'/\aQ w' B e s v' (n+1) (xs++cs.toList)/\w.grownBy w' v.ownBlock/\w.heap.size<w'.heap.size/\(v'.ownBlock=v.ownBlock\/∀k,v'.ownBlock=some k->w.heap.size<=k):=by
 subst hg;obtain⟨i,L,Q,b,G⟩:=info_parts hT.info;have r:cs.toList.length=1*i.size:=by simp[hcs,b]
 have f:∀j u,cs.toList[j]?=some u->(w.alloc (.cells cs e')).cell? (((Y w.heap.size 0):Addr).add j)=some u:=by
  intro j u h;rw[show((Y w.heap.size 0):Addr).add j=(Y w.heap.size j) by unfold Addr.add;split<;>simp_all];rw[Qg]
  simpa using h
 have l:∀{w':World} {row:Option Nat},(w.alloc (.cells cs e')).grownBy w' row->w.grownBy w' row:=λc=>
  ⟨c.os,c.tape,c.output,OJ zS c.size,λk d x=>(c.block k zT x).trans (Qh w _ k d)⟩
 rcases hm.2 with⟨rfl,rfl⟩|⟨g,a,o,y,rfl,R,hh,af,hc,S,D⟩
 ·have D:=OU (by simpa using hm.1);subst D;obtain⟨v',w',q,F,c,_,N⟩:=run_append_own_at (P:=P) (w.alloc (.cells cs e')) B t ty e i z s bytes hT.under L Q b G hT.cells hs0 (.slice none 0 0) 0 [] (Pn _ _ _ _) (Y w.heap.size 0) 1 1 cs.toList (by rw[r,b]) f h1 hle hlen zT;exact⟨v',w',q,aQ.C4 F,l c,OV zS c.size,N.imp id λN k d=>by rw[N]at d;injection d with d;rw[<-d];simp⟩
 ·have p:Blk (w.alloc (.cells cs e')) g e y:=hh.alloc _;have H:cs.toList.length=s:=by simp[hcs]
  by_cases m:n+1<=o
  ·have O:a+n*s+s<=y.size:=by
    have:(n+1)*s<=o*s:=Pr _ m;rw[Qj]at this;omega
   have q:=run_append_room_cells (P:=P) (w.alloc (.cells cs e')) t ty e i hT.under L g a n o (Y w.heap.size 0) 1 1 cs.toList r f h1 m
    (λj T=>by rw[b,p.cell,PE zO];rfl) (λj _=>p.frozen _)
   rw[b]at q;refine⟨_,_,q,⟨by rw[OS,hm.1,H,Qj],.inr ⟨g,a,o,bH y (a+n*s) cs.toList,rfl,R,p.setCells _ _,m,hc,by rw[bV];exact S,λj u h=>?_⟩⟩,?_,?_,.inl rfl⟩
   ·by_cases T:j<n*s
    ·rw[Pk (by rw[hm.1];exact T)]at h;rw[lJ _ _ _ _ zO];exact D j u h
    ·rw[Ph (by rw[hm.1];omega),hm.1]at h;have U:=(OZ.1 h).1;rw[show a+j=a+n*s+(j-n*s) by omega,ph _ _ _ _ (by rw[H];exact O) U];exact h
   ·obtain⟨X,q2,q3,q4⟩:=pc (g:=g) cs.toList (w.alloc (.cells cs e')) (a+n*s);refine l ⟨q2,q3,q4,zO,λk d x=>vS (λe=>x (by simp[Value.ownBlock,e])) _ _ _⟩
   ·obtain⟨X,_⟩:=pc (g:=g) cs.toList (w.alloc (.cells cs e')) (a+n*s);rw[X];simp
  ·obtain⟨v',w',q,F,c⟩:=run_append_arg_grows (P:=P) (w.alloc (.cells cs e')) t ty e i z s bytes hT.under L Q b G hT.cells hs0 (Y g a) n o xs hm.1
    (λj u h=>by
     rw[show((Y g a):Addr).add j=(Y g (a+j)) by unfold Addr.add;split<;>simp_all];rw[p.cell];exact D j u h) (Y w.heap.size 0) 1 1 cs.toList (by rw[r,b]) f zO hle hlen
   have A:=l c;exact⟨v',w',q,(aQ.C4 F).lower zT,⟨A.os,A.tape,A.output,A.size,λk d _=>A.block k d zS⟩,OV zS c.size,.inr λk d=>by have:=(F.lt k d).1;simp at this;omega⟩
def fx{o:Oper}(hT:cE P t e z s bytes)(hs0:0<s)
  (sl x:Operand)(ho:o.op=.call {callee:=.builtin .append,args:=#[sl,x],argTypes:=#[t,t]})
  (hs:a.eval sl=v)(hm:aQ w B e s v n xs)(hB:B<=w.heap.size)(hg:g=w.heap.size)(hx:a.eval x=V g 0 1 1)(hcs:cs.size=s)(h1:∀u∈cs.toList,u.oneCell'=true)
  (hlen:(n+1)*bytes<=140737488355328)(hle:n+1<=maxLen)
  (h:∀v' w',aQ w' B e s v' (n+1) (xs++cs.toList)->w.grownBy w' v.ownBlock->w.heap.size<w'.heap.size->(v'.ownBlock=v.ownBlock\/∀k,v'.ownBlock=some k->w.heap.size<=k)->K (a.put o.dst v') w'):
  o.wp P a (w.alloc (.cells cs e')) K Q:=by
 obtain⟨v',w',b,c,d,f,i⟩:=vV (P:=P) (e':=e') hT hs0 o.type hm hB hg hcs h1 hlen hle;unfold Oper.wp execOp;simp only[ho,resolve,invoke,builtin,Sem.run_bind,Sem.run_pure,Result.andThen_ok,QS,Pi,Qs,hs,hx,b];exact h v' w' c d f i
def rK{rest:List Oper}{o:Oper}(hT:cE P t e z s bytes)(hs0:0<s)
  (hgd:o.guard=none)(sl x:Operand)(ho:o.op=.call {callee:=.builtin .append,args:=#[sl,x],argTypes:=#[t,t]})
  (hs:a.eval sl=v)(hm:aQ w B e s v n xs)(hB:B<=w.heap.size)(hg:g=w.heap.size)(hx:a.eval x=V g 0 1 1)(hcs:cs.size=s)(h1:∀u∈cs.toList,u.oneCell'=true)
  (hlen:(n+1)*bytes<=140737488355328)(hle:n+1<=maxLen)
  (h:∀v' w',aQ w' B e s v' (n+1) (xs++cs.toList)->w.grownBy w' v.ownBlock->w.heap.size<w'.heap.size->(v'.ownBlock=v.ownBlock\/∀k,v'.ownBlock=some k->w.heap.size<=k)->wpList P ops Q rest (a.put o.dst v') w'):
  wpList P ops Q (o::rest) a (w.alloc (.cells cs e')):=
 wpList_plain hgd λ_ hK=>fx hT hs0 sl x ho hs hm hB hg hx hcs h1 hlen hle λv' w' b c d f=>hK _ _ (h v' w' b c d f)
end
section
variable {P:Program} {ops:Array Oper} {l:List Oper} {Q:Exit→Act→World→Prop} {S S':World→Prop}
def nQ(j:Nat){o o':Oper}(hr:Region.ready .any l.toArray listed=[i,j])(ho:l[i]?=some o)(ho':l[j]?=some o')
  (hg:Region.wanted o (yielded l.toArray a.tmps)=true)(hg':Region.wanted o' (yielded l.toArray a.tmps)=true)
  (hc:∀K:Act->World->Prop,(∀a' w',S w'->wpAnyH P .any l.toArray Q S fuel (listed.setIfInBounds i true) a' w'->K a' w')->Oper.wp P o a w K Q)
  (hc':∀K:Act->World->Prop,(∀a' w',S w'->wpAnyH P .any l.toArray Q S fuel (listed.setIfInBounds j true) a' w'->K a' w')->Oper.wp P o' a w K Q):wpAnyH P .any l.toArray Q S (fuel+1) listed a w:=by
 refine wpAnyH_all hr zS λk e=>?_;have d:k=i\/k=j:=by simpa using e
 unfold wpOp
 rcases d with rfl|rfl
 ·have b:l.toArray[k]?=some o:=by simpa using ho
  simp only[b];rw[OB hg];exact .inl (hc _ λa' w' b c=>⟨b,c⟩)
 ·have b:l.toArray[k]?=some o':=by simpa using ho'
  simp only[b];rw[OB hg'];exact .inl (hc' _ λa' w' b c=>⟨b,c⟩)
end
structure Ev where
 cs:Array Value
 kind:Int
 task:Int
 nth:Int
 hi:Int
 lo:Int
def evs(l:List Ev):List Value:=l.flatMap λe=>e.cs.toList
section
open Go.WideShapes Go.ChangeShapes Go.Deep
def ba:cU prog 79 34:=⟨zR,zR,zR⟩
def oF:cU prog 77 13:=⟨zR,zR,zR⟩
def Lj:∃z,cE prog 35 79 z 34 280:=by
 have h:(prog.info? 79).map (λi=>(i.zero.isSome,i.size,i.bytes))=some (true,34,280):=zR;have a:=ba.zero
 cases hi:prog.info? 79 with
 |none=>simp[hi]at h
 |some i=>
  cases hzz:i.zero with
  |none=>simp[hi,hzz]at h
  |some z=>
   simp[hi,hzz]at h a;exact⟨z,underlying35,by simp[hi,hzz,h],a⟩
def JB(l:List Ev)(e:Ev):evs l++e.cs.toList=evs (l++[e]):=by simp[evs]
end
section
open Go.Shelf
def AC{α:Type}(p:α->Bool)(l:List α)(x:α):(l++[x]).filter p=if p x then l.filter p++[x]else l.filter p:=by
 rw[Ql];by_cases h:p x=true
 ·simp[h]
 ·simp[h]
def eu{t:TypeId}{i:Nat}(h:cs[i]?=some v):(w.alloc (.cells cs t)).cell? (Y w.heap.size i)=some v:=by rw[Qg];exact h
end
def ed(pick n:Int):Int:=if n<1 then -1 else pick%n
def vI{p n:Int}(hn:1<=n):0<=ed p n/\ed p n<n:=by
 unfold ed;rw[Oz zO];exact⟨RY _ zO,Sk _ zO⟩
def AP{p n:Int}(h0:0<=p)(h1:p<n):ed p n=p:=by
 unfold ed;rw[Oz zO,Int.emod_eq_of_lt h0 h1]
def pS(n:Int)(w:World)(hp:aq pick)(hn:aq n):
  C 99 #[I pick,I n] w λe w'=>e=.returned (I (ed pick n))/\w=w':=by
 obtain⟨s,t⟩:=hp;obtain⟨u,v⟩:=hn;by_cases j:n<1
 ·have f:Hid (ed pick n= -1):=by show _=_;unfold ed;rw[OB j]
  go_in
  go_wp2;go_ret;exact⟨aC f.o.symm,rfl⟩
 ·have f:Hid (ed pick n=pick%n):=by show _=_;unfold ed;rw[Oz j]
  have g:0<=pick%n:=RY _ zO;have i:pick%n<n:=Sk _ zO;have x:(n==0)=false:=zT;by_cases k:0<=pick
  ·have c:pick.tmod n=pick%n:=Ra k;have l:¬pick.tmod n<0:=by rw[c];omega
   have q:¬pick%n<0:=zO;have m:=Z1 c;clear c
   go_in
   go_wp2;go_ret;exact⟨aC f.o.symm,rfl⟩
  ·have c:=Int.tmod_eq_emod (a:=pick) (b:=n);by_cases d:n ∣ pick
   ·rw[OB (.inr d),Int.emod_eq_zero_of_dvd d]at c;have r:Hid ((0:Int)=ed pick n):=by show _=_;rw[f.o,Int.emod_eq_zero_of_dvd d]
    have y:pick.tmod n=0:=by rw[c];rfl
    clear c g i d
    go_in
    go_wp2;go_ret;exact⟨aC r.o,rfl⟩
   ·have p:((n.natAbs:Nat):Int)=n:=zO;rw[Oz (by intro h;rcases h with h|h;exact k h;exact d h),p]at c;have l:pick.tmod n<0:=zO;have z: -n<=pick.tmod n:=zO;have m:Hid (pick.tmod n+n=ed pick n):=by show _=_;rw[f.o];omega
    clear c g i d
    go_in
    go_wp2;go_ret;exact⟨aC m.o,rfl⟩
def gy(n:Int)(k:Nat):List Int:=(List.range k).map λ(i:Nat)=>ed (i:Int) n
def lH(n:Int)(k:Nat):(gy n k).length=k:=by simp[gy]
def AS(n:Int)(k:Nat):gy n k++[ed (k:Int) n]=gy n (k+1):=by simp[gy,Vf]
def iQ(raw:List Int)(i:Nat):Int:=if raw=[]then 0 else raw.getD (i%raw.length) 0
def gj(n:Nat)(left:List Int):List Int:=if left=[]then gy (n:Int) n else left
def placeN(n:Nat)(raw:List Int)(i:Nat)(left:List Int):Nat:=(ed (iQ raw i) ((gj n left).length:Int)).toNat
def cD(n:Nat)(raw:List Int):Nat->List Int×List Int
 |0=>([],[])
 |i+1=>((cD n raw i).1++[(gj n (cD n raw i).2).getD (placeN n raw i (cD n raw i).2) 0],
   (gj n (cD n raw i).2).take (placeN n raw i (cD n raw i).2)++(gj n (cD n raw i).2).drop (placeN n raw i (cD n raw i).2+1))
def pd(n:Nat)(raw:List Int):∀i,(cD n raw i).1.length=i
 |0=>rfl
 |i+1=>by simp[cD,pd n raw i]
def pU(hn:1<=n)(left:List Int):0<(gj n left).length:=by
 unfold gj;split
 ·rw[lH];omega
 ·rename_i h;exact Sa.2 h
def na(hn:1<=n)(raw:List Int)(i:Nat)(left:List Int):placeN n raw i left<(gj n left).length:=by
 have a:=pU hn left;have b:=vI (p:=iQ raw i) (n:=((gj n left).length:Int)) zO;unfold placeN;omega
def GM(hn:1<=n)(raw:List Int)(i:Nat)(left:List Int):((placeN n raw i left:Nat):Int)=ed (iQ raw i) ((gj n left).length:Int):=by
 have a:=pU hn left;have b:=vI (p:=iQ raw i) (n:=((gj n left).length:Int)) zO;unfold placeN;omega
def uf(n:Nat)(left:List Int):Prop:=left.Nodup/\∀x∈left,0<=x/\x<(n:Int)
def AT(n:Nat):uf n (gy (n:Int) n):=by
 have h:gy (n:Int) n=(List.range n).map λ(i:Nat)=>(i:Int):=by
  refine PD λi c=>?_;have:=Sg.1 c;exact AP zO zO
 rw[h];refine⟨?_,λx f=>?_⟩
 ·refine List.Pairwise.map _ ?_ (List.nodup_range (n:=n));intro a b d e;exact d zO
 ·obtain⟨i,c,rfl⟩:=Pa.1 f;have:=Sg.1 c;omega
def oV{left:List Int}(h:uf n left):uf n (gj n left):=by
 unfold gj;split
 ·exact AT n
 ·exact h
def KR{left:List Int}(h:uf n left)(hk:k<left.length):uf n (left.take k++left.drop (k+1)):=by
 have a:(left.take k++left.drop (k+1)).Sublist left:=by
  conv=>rhs;rw[<-Qr k left]
  exact List.Sublist.append (List.Sublist.refl _) (by rw[Pu hk];exact List.sublist_cons_self _ _)
 exact⟨h.1.sublist a,λx b=>h.2 x (a.subset b)⟩
def nC(n:Nat)(hn:1<=n)(raw:List Int):∀i,uf n (cD n raw i).2
 |0=>⟨Sh,λx hx=>by cases hx⟩
 |i+1=>KR (oV (nC n hn raw i)) (na hn raw i _)
def vM(n:Nat)(hn:1<=n)(raw:List Int):∀i,∀x∈(cD n raw i).1,0<=x/\x<(n:Int)
 |0=>λx hx=>by cases hx
 |i+1=>λx hx=>by
  rcases Po.1 hx with h|h
  ·exact vM n hn raw i x h
  ·rw[Py.1 h];have hp:=na hn raw i (cD n raw i).2;refine(oV (nC n hn raw i)).2 _ ?_;rw[OP,OL hp];exact OR hp
def vN{left:List Int}(h:left.length<=n):(gj n left).length<=n:=by
 unfold gj;split
 ·rw[lH];omega
 ·exact h
def tu(n:Nat)(hn:1<=n)(raw:List Int):∀i,(cD n raw i).2.length<=n
 |0=>by simp[cD]
 |i+1=>by
  have h1:=vN (tu n hn raw i);have a:=na hn raw i (cD n raw i).2;simp only[cD,OS,PG,PW];omega
def rV:cE prog 25 3 (I 0) 1 8:=⟨underlying25,zR,rfl⟩
def GN(n long:Int)(w:World)(hn:aq n)(hl:long<=100000):
  C 137 #[I n,I long] w λe w'=>∃v,e=.returned v/\aL 1 w w' 3 v long.toNat (i64s (gy n long.toNat)):=by
 have t:¬1048576<long:=zO
 go_in
 go_wp2;go_loopw [5,9] (λv i wr=>∃j:Nat,j<=long.toNat/\i=I j/\aL 1 w wr 3 v j (i64s (gy n j))) (λ_ i _=>long.toNat-(intOf i).toNat)
 case atStart=>exact⟨0,OK _,rfl,Pn _ _ _ _,Oy _ _⟩
 case round=>
  obtain⟨j,u,rfl,a⟩:=hrel;by_cases s:(j:Int)<long
  ·have g:aq (j:Int):=by unfold aq;omega
   have h:=AS n j;have m:=Z1 h;have p:=Z1 a;obtain⟨A,c,rfl,_,_⟩:=ak a.own;have f:=a.own;have k:=a.below.size;clear a h;generalize l:ed (j:Int) n=x at*;have q:=Z1 l;clear l;go_wp2_with fail;refine zY (pS (j:Int) n _ g hn) ?_;rw[q.o]
   go_wp2_with (at_builtin;go_must (refine d9 (w:=wr) (n:=j) (xs:=i64s (gy n j)) rV zP rfl (.tmp 12) (.tmp 16) rfl rfl f k rfl rfl rfl zV zO zU ?_);intro y z b d _)
   have r:=Z1 (p.o.app d b);clear b d;go_roundw
   case rel=>exact⟨j+1,zO,by go_num,by have:=r.o;rw[<-m.o];simpa[i64s]using this⟩
   case measure=>simp[intOf];omega
  ·go_wp2;go_ret;have:j=long.toNat:=zO;exact⟨_,rfl,by rw[<-this];exact a⟩
end Go.Fw
