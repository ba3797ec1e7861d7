/- Parts of the proof. -/
import Derived.Orders
import Derived.Below
import Derived.Laws.CopyRow
import Derived.Laws.StructEq
import Derived.Laws.Slices
import Derived.Laws.Entries
import Derived.Laws.Cells
import Derived.Laws.Tables
set_option linter.unusedVariables false
set_option linter.unusedSimpArgs false
set_option linter.defProp false
namespace Go
set_option linter.defProp false
def ae:=@Option.bind_some
def al:=@Bool.and_eq_true
def am:=@Nat.eq_of_beq_eq_true
def aw:=@List.getElem?_eq_getElem
def ba:=@if_pos
def bb:=@List.length_append
def bc:=@Nat.le_refl
def bd:=@Int.toNat_natCast
def be:=@if_neg
def bi:=@List.append_assoc
def bj:=@List.mem_append
def bm:=@decide_eq_true
def bo:=@decide_eq_false
def bv:=@List.mem_singleton
def ca:=@List.mem_cons_self
def cb:=@List.getElem?_eq_some_iff
def cf:=@Option.map_some
def ci:=@List.mem_cons_of_mem
def da:=@List.getD_eq_getElem?_getD
def db:=@decide_eq_true_eq
def dj:=@List.mem_cons
def dk:=@List.mem_append_left
def dl:=@Bool.not_true
def dp:=@List.length_singleton
def dq:=@List.append_nil
def dt:=@List.mem_append_right
def du:=@of_decide_eq_true
def dv:=@List.all_cons
def dC:=@List.not_mem_nil
def dE:=@Int.eq_ofNat_of_zero_le
def dT:=@Option.some.injEq
def d6:=@Bool.not_eq_true'
def d7:=@Nat.mul_le_mul_right
def d8:=@List.getElem?_eq_none
def d9:=@Nat.add_mul
def eb:=@List.flatMap_cons
def eI:=@List.eq_nil_of_length_eq_zero
def eJ:=@Prod.mk.injEq
def eK:=@Nat.add_assoc
def eQ:=@List.all_eq_true
def fa:=@List.getElem?_take
def fb:=@Option.map_eq_some_iff
def fd:=@List.length_cons
def fg:=@Nat.add_zero
def fi:=@List.getElem?_map
def fj:=@Option.some.inj
def fr:=@Nat.le_of_ble_eq_true
def ft:=@List.length_take
def fw:=@Array.length_toList
def fx:=@List.take_of_length_le
def f1:=@List.map_cons
def f2:=@List.mem_of_getElem?
def f4:=@List.take_length
def f8:=@Bool.true_and
def f9:=@List.map_append
def gc:=@Bool.or_eq_true
def ge:=@Bool.not_false
def gg:=@Bool.and_false
def ib:=@List.drop_eq_getElem_cons
def ii:=@List.nil_append
def im:=@Nat.lt_or_ge
def io:=@List.mem_iff_getElem
def iv:=@Nat.lt_of_lt_of_le
def i5:=@if_true
def i6:=@List.mem_map
def i7:=@List.getElem_mem
def i9:=@Bool.or_eq_false_iff
def jn:=@Nat.zero_add
def jp:=@Bool.false_eq_true
def j1:=@forall_eq_or_imp
def ka:=@decide_eq_decide
def kb:=@List.length_replicate
def kh:=@Array.getD_eq_getD_getElem?
def km:=@or_false
def kv:=@congrArg
def kw:=@List.getElem?_append_right
def kx:=@List.any_eq_true
def la:=@Array.toList_map
def lc:=@Bool.and_true
def lh:=@List.length_map
def lj:=@Bool.not_eq_false'
def ll:=@beq_self_eq_true
def lr:=@Option.bind_eq_some_iff
def ls:=@List.mem_of_mem_take
def lw:=@List.length_drop
def lx:=@beq_iff_eq
def lA:=@List.map_nil
def lL:=@List.ext_getElem?
def lO:=@Array.getElem?_eq_some_iff
def ma:=@forall_eq
def mi:=@beq_eq_false_iff_ne
def ml:=@Nat.ble_eq_true_of_le
def mn:=@List.getElem?_drop
def mr:=@Nat.lt_irrefl
def mt:=@decide_eq_false_iff_not
def m6:=@Nat.lt_trichotomy
def m7:=@List.getElem?_replicate
def m8:=@List.length_nil
def m9:=@Bool.eq_iff_iff
def na:=@Nat.ne_of_beq_eq_false
def nf:=@Nat.le_trans
def nl:=@List.mem_flatMap
def nn:=@List.cons_append
def ns:=@if_false
def nz:=@List.getElem?_append_left
def n3:=@Nat.pow_lt_pow_right
def oi:=@List.getElem?_set
def ol:=@BitVec.ofInt_natCast
def o0:=@Option.isSome_none
def pb:=@List.pairwise_cons
def pd:=@BitVec.toNat_ofNat
def ph:=@List.flatten_cons
def pi:=@decide_true
def pj:=@Nat.pow_le_pow_right
def pm:=@List.mem_of_mem_drop
def po:=@Bool.false_and
def pp:=@List.mem_take_iff_getElem
def pr:=@Array.getElem?_eq_getElem
def pt:=@List.replicate_succ
def pu:=@Nat.le_succ
def pv:=@Ne.symm
def pw:=@Nat.sub_self
def px:=@List.map_map
def py:=@List.drop_of_length_le
def pA:=@Bool.eq_false_iff
def pB:=@List.set_append_right
def pC:=@Nat.mod_eq_of_lt
def pD:=@List.filter_cons
def qr:=@Bool.not_eq_true
def ra:=@Nat.mul_one
def rb:=@Nat.min_eq_left
def rc:=@List.replicate_zero
def rf:=@List.getElem?_range
def rh:=@Int.toNat_of_nonneg
def rl:=@List.mem_replicate
def rm:=@List.filter_filter
def ro:=@Int.fdiv_eq_ediv_of_nonneg
def rp:=@Array.getElem?_append_left
def rt:=@Nat.or_lt_two_pow
def rx:=@List.any_eq_false
def sa:=@List.map_take
def sd:=@Option.getD_some
def se:=@List.isEmpty_iff
def sf:=@List.drop_length
def sm:=@not_or
def ss:=@decide_false
def sT:=@Nat.testBit_lt_two_pow
def tb:=@List.filter_eq_nil_iff
def te:=@Nat.min_le_left
def ti:=@List.mem_filter
def tl:=@Bool.decide_and
def tx:=@List.modify_modify_eq
def t6:=@Nat.zero_le
def t7:=@List.pairwise_append
def t8:=@List.mem_range
def ub:=@List.getElem?_append
def ui:=@Int.mul_nonneg
def ul:=@Int.mul_le_mul
def ut:=@List.map_drop
def vd:=@Option.isSome_some
def vx:=@Nat.mod_lt
def vy:=@List.filter_append
def wa:=@List.append_of_mem
def wc:=@not_true_eq_false
def wd:=@List.filter_congr
def wi:=@List.all_nil
def wl:=@Bool.or_true
def wn:=@Option.elim_none
def wt:=@Nat.lt_succ_self
def ww:=@List.drop_append
def wx:=@Int.le_refl
def wy:=@Option.map_none
def xa:=@List.foldl_cons
def xc:=@Int.natCast_mul
def xf:=@dif_neg
def xi:=@List.Perm.refl
def xr:=@Bool.or_false
def xt:=@getElem!_pos
def yi:=@Nat.zero_mul
def yk:=@Nat.succ_mul
def yn:=@Nat.sub_zero
def yr:=@Nat.ne_of_lt
def y0:=@Nat.mul_comm
def zr:=@Int.le_trans
def zt:=@Int.add_zero
def At:=@Iff.rfl
def Do:=@Bool.or_self
def Eq:=@Nat.one_mul
end Go
namespace Go.bK
open Go
inductive D where|sc(v:Value)|sl(els:List (List D))|er deriving Inhabited
inductive ZK where|full|cR(ak sz:Nat)|bG deriving Inhabited
inductive AV where|d(x:D)|own(els:List (List D))(o:ZK)|agg(cs:List AV)|fk(vs:List AV)|ref(lv sl ak off len sz:Nat)|ptr(lv sl ak i off:Nat)|dx(lv sl ak off n sz:Nat)|eZ(e:List D)(off:Nat)|fG(f:Nat)(cap:List AV)|mp(lv sl ak:Nat)deriving Inhabited
inductive bq where|row(ak:Nat)(els:List (List D))|box(ak:Nat)(cells:List AV)|MY(ak:Nat)(els:List (List D))|mp(ak:Nat)(ks:List (List UInt8))deriving Inhabited
inductive Tr(α:Type)where|lf|nd(v:Option α)(l r:Tr α)deriving Inhabited
def Tr.get?{α:Type}:Tr α->Nat->Option α|.lf,_=>none|.nd v l r,n=>match Nat.beq n 0with|true=>v|false=>match Nat.beq (n%2) 1with|true=>l.get? (n/2)|false=>r.get? (n/2-1)
def Tr.top{α:Type}:Tr α->Option α|.lf=>none|.nd v _ _=>v
def Tr.left{α:Type}:Tr α->Tr α|.lf=>.lf|.nd _ l _=>l
def Tr.right{α:Type}:Tr α->Tr α|.lf=>.lf|.nd _ _ r=>r
def Tr.vE{α:Type}:Nat->Tr α->Nat->Option α->Tr α|0,t,_,_=>t|f+1,t,n,x=>match Nat.beq n 0with|true=>.nd x t.left t.right|false=>match Nat.beq (n%2) 1with|true=>.nd t.top (Tr.vE f t.left (n/2) x) t.right|false=>.nd t.top t.left (Tr.vE f t.right (n/2-1) x)
def Tr.set{α:Type}(t:Tr α)(n:Nat)(x:Option α):Tr α:=Tr.vE (n+1) t n x
structure St where
 slots:Tr AV
 mem:List (Tr bq)aI:Tr Unit
 nv:Nat deriving Inhabited
inductive cu where|t(n:Nat)|c(v:AV)deriving Inhabited
def kP:AV:=.fk []
def dV(s:Tr AV)(n:Nat):AV:=(s.get? n).getD kP
def cu.ev(s:Tr AV):cu->AV|.t n=>dV s n|.c v=>v
inductive cF where|JI(x:cu)|pick(c a b:cu)|alloc(zero:List AV)|box(x:cu)|build(zero:List AV)(parts:List (Nat×Nat×cu))|buildSlice(sz n:Nat)(zero:List D)(parts:List (Nat×cu))|load(sz:Nat)(agg:Bool)(x:cu)|store(sz:Nat)(x v:cu)|nilCheck(x:cu)|bin(op:BinOp)(x y:cu)|ZZ(neg:Bool)(x y:cu)|QV(neg:Bool)(sz:Nat)(cells:List (Nat×Nat))(x y:cu)|Aq(neg:Bool)(x:cu)|un(op:UnOp)(x:cu)|conv(k:IntKind)(x:cu)|field(off sz:Nat)(agg:Bool)(x:cu)|fieldAddr(off:Nat)(x:cu)|indexAddr(sz:Nat)(x i:cu)|lG(n sz:Nat)(x i:cu)|rK(n sz:Nat)(agg:Bool)(x i:cu)|rL(x i:cu)|slice(sz:Nat)(x:cu)(lo hi mx:Option cu)|rM(x:cu)(lo hi:Option cu)|extract(x:cu)(i:Nat)|len(x:cu)|HK(x:cu)|JJ(x:cu)|b2s(x:cu)|s2b(x:cu)|mkSet|JK(m k:cu)|JL(m k:cu)|Fg(n:Nat)|HL(x y:cu)|HM(x y:cu)|append(sz bytes:Nat)(x y:cu)|pZ(sz bytes:Nat)(z:List D)(x n:cu)|copy(sz:Nat)(x y:cu)|makeSlice(sz bytes:Nat)(zero:List D)(len cap:cu)|makeFunc(f:Nat)(cap:List cu)|sliceB(n sz:Nat)(x:cu)|tC(lo n sz:Nat)(x:cu)|clear(sz:Nat)(zero:List D)(x:cu)|grow(sz:Nat)(x n:cu)|clone(sz bytes:Nat)(x:cu)|sort(x:cu)|compact(x:cu)|bad|call(f:Nat)(args:List cu)|xk(f:Nat)(args:List cu)|Ar(x:cu)(args:List cu)deriving Inhabited
structure bI where
 dst:Option Nat
 op:cF
 gd:Option (Nat×Bool)oS:Nat
 row:Nat deriving Inhabited
inductive AC where|skip|region(ops:List bI)(draw:Bool)|seq(a b:AC)|cond(c:cu)(a b:AC)|block(id:Nat)(c:AC)|loop(c:AC)|exit(id:Nat)|ret deriving Inhabited
inductive BN where|t(n:Nat)|cell(n sz:Nat)(agg:Bool)deriving Inhabited
structure qu where
 np:Nat
 nt:Nat
 res:List BN
 body:AC
 sh:Bool deriving Inhabited
def aH(m:List (Tr bq))(lv sl:Nat):Option bq:=(m[lv]?).bind λt=>t.get? sl
def bJ(m:List (Tr bq))(lv sl:Nat)(e:Option bq):List (Tr bq):=m.modify lv λt=>t.set sl e
def rowAt(m:List (Tr bq))(lv sl ak:Nat):Option (List (List D)):=match aH m lv sl with
 |some (.row v els)=>match Nat.beq v ak with|true=>some els|false=>none
 |_=>none
def j3(m:List (Tr bq))(lv sl ak:Nat):Option (List AV):=match aH m lv sl with
 |some (.box v cs)=>match Nat.beq v ak with|true=>some cs|false=>none
 |_=>none
def setAt(m:List (Tr bq))(lv sl ak:Nat):Option (List (List UInt8)):=match aH m lv sl with
 |some (.mp v ks)=>match Nat.beq v ak with|true=>some ks|false=>none
 |_=>none
def hasB(ks:List (List UInt8))(k:List UInt8):Bool:=ks.any λl=>decide (k=l)
def tD(ks:List (List UInt8))(k:List UInt8):List (List UInt8):=match hasB ks k with|true=>ks|false=>ks++[k]
def qJ(m:List (Tr bq))(lv sl ak:Nat):Option (List (List D)):=match aH m lv sl with
 |some (.row v els)=>match Nat.beq v ak with|true=>some els|false=>none
 |some (.MY v els)=>match Nat.beq v ak with|true=>some els|false=>none
 |_=>none
def dL(m:List (Tr bq)):AV->Option (List (List D))|.d (.sl els)=>some els|.own els _=>some els|.ref lv sl ak off len _=>(qJ m lv sl ak).bind λels=>if off+len<=els.length then some ((els.drop off).take len)else none|_=>none
def cellsOf:AV->Option (List AV)|.agg cs=>some cs|.fk _=>none|v=>some [v]
def BO(m:List (Tr bq)):AV->Option (D×List (Nat×Nat))|.d x=>some (x,[])|.own els .full=>some (.sl els,[])|.own els (.cR _ _)=>some (.sl els,[])|.ref lv sl ak off len sz=>(dL m (.ref lv sl ak off len sz)).map λels=>(.sl els,[(lv,sl)])|_=>none
def Fh(m:List (Tr bq)):List AV->Option (List D×List (Nat×Nat))|[]=>some ([],[])|x::r=>match BO m x,Fh m r with|some (y,k),some (ys,ks)=>some (y::ys,k++ks)|_,_=>none
def FH(m:List (Tr bq))(x:AV):Option (List D×List (Nat×Nat)):=(cellsOf x).bind (Fh m)
def splice{α:Type}(cs:List α)(off:Nat)(new:List α):List α:=cs.take off++new++cs.drop (off+new.length)
def FI(op:BinOp)(k:IntKind)(a b:Int):Option Int:=let x:=BitVec.ofInt k.bits a;let y:=BitVec.ofInt k.bits b;match op with|.and=>some (k.wrap (x&&&y).toNat)|.or=>some (k.wrap (x|||y).toNat)|.xor=>some (k.wrap (x^^^y).toNat)|.andNot=>some (k.wrap (x&&&~~~y).toNat)|_=>none
def HN(op:BinOp)(k:IntKind)(a:Int)(k':IntKind)(b:Int):Option Value:=match op with|.shl=>if b<0then none else some (.int k (k.wrap (a*2^min b.toNat k.bits)))|.shr=>if b<0then none else some (.int k (a.fdiv (2^min b.toNat k.bits)))|op=>if k≠k' then none else match op with|.add=>some (.int k (k.wrap (a+b)))|.sub=>some (.int k (k.wrap (a-b)))|.mul=>some (.int k (k.wrap (a*b)))|.quo=>if b=0then none else some (.int k (k.wrap (a.tdiv b)))|.rem=>if b=0then none else some (.int k (a.tmod b))|.and|.or|.xor|.andNot=>(FI op k a b).map (.int k)|.eql=>some (.bool (a==b))|.neq=>some (.bool (a !=b))|.lss=>some (.bool (a<b))|.leq=>some (.bool (a<=b))|.gtr=>some (.bool (a>b))|.geq=>some (.bool (a>=b))|_=>none
def M5(op:BinOp)(x y:ByteArray):Option Value:=match op with|.add=>if((x.size+y.size:Nat):Int)>IntKind.i64.max then none else some (.string (x++y))|.eql=>some (.bool (x.toList==y.toList))|.neq=>some (.bool !(x.toList==y.toList))|.lss=>some (.bool (Op.bytesLess x.toList y.toList))|.leq=>some (.bool (Op.bytesLess x.toList y.toList||x.toList==y.toList))|.gtr=>some (.bool !(Op.bytesLess x.toList y.toList||x.toList==y.toList))|.geq=>some (.bool !(Op.bytesLess x.toList y.toList))|_=>none
def Tx(op:BinOp):AV->AV->Option Value|.d (.sc (.int k a)),.d (.sc (.int k' b))=>HN op k a k' b|.d (.sc (.string a)),.d (.sc (.string b))=>M5 op a b|_,_=>none
def JM(kd:Nat):AV->AV->Option Bool
 |.d (.sc (.bool a)),.d (.sc (.bool b))=>match kd with|0=>some (a==b)|_=>none
 |.d (.sc (.int k a)),.d (.sc (.int k' b))=>match kd with|1=>if k=k' then some (a==b)else none|_=>none
 |.d (.sc (.string a)),.d (.sc (.string b))=>match kd with|0=>none|1=>none|_=>some (a==b)
 |_,_=>none
def nB(xs ys:List AV):List (Nat×Nat)->Option Bool|[]=>some true|o::r=>match xs[o.1]?,ys[o.1]?with
 |some x,some y=>match JM o.2 x y with|some true=>nB xs ys r|some false=>some false|none=>none
 |_,_=>none
def unA(op:UnOp):AV->Option Value
 |.d (.sc (.bool b))=>match op with|.not=>some (.bool !b)|_=>none
 |.d (.sc (.int k n))=>match op with|.neg=>some (.int k (k.wrap (0-n)))|.xor=>(FI .xor k (if k.signed then-1 else k.max) n).map (.int k)|_=>none
 |_=>none
def tE:AV->Option Int|.d (.sc (.int _ n))=>some n|_=>none
def gT(x:AV):Option Nat:=(tE x).bind λn=>if 0<=n then some n.toNat else none
def jq:AV->Option Bool|.d (.sc (.bool b))=>some b|_=>none
def nC(v:Value):AV:=.d (.sc v)
def qK(n:Nat):AV:=.d (.sc (.int .i64 n))
def jS:AV->Bool|.agg _|.fk _|.fG _ _=>false|_=>true
structure fD where
 val:AV
 dn:List (Nat×Nat×Option bq)cR:List (Nat×Bool)rd:List (Nat×Nat×Nat)deriving Inhabited
inductive hU where|bT(e:fD)|all(val:AV)(mem:List (Tr bq))(aI:Tr Unit)(nv:Nat)(kp kr:List (Nat×Nat))deriving Inhabited
def fD.pure(v:AV):Option hU:=some (.bT {val:=v,dn:=[],cR:=[],rd:=[]})
def bU(lv sl:Nat):Nat×Nat×Nat:=(0,lv,sl)
def ku(v:Nat):Nat×Nat×Nat:=(1,v,0)
def fD.wr(e:fD):List (Nat×Nat×Nat):=e.dn.map (λu=>bU u.1 u.2.1)++e.cR.map λu=>ku u.1
def cV:AV->List (Nat×Nat×Nat)|.ref lv sl _ _ _ _=>[bU lv sl]|.ptr lv sl _ _ _=>[bU lv sl]|.dx lv sl _ _ _ _=>[bU lv sl]|.mp lv sl _=>[bU lv sl]|_=>[]
def fH:AV->List (Nat×Nat×Nat)|.agg cs=>cs.flatMap cV|v=>cV v
def aT(m:List (Tr bq)):List (Nat×Nat×Option bq)->List (Tr bq)|[]=>m|(lv,sl,e)::r=>aT (bJ m lv sl e) r
def eV(t:Tr Unit):List (Nat×Bool)->Tr Unit|[]=>t|(v,b)::r=>eV (t.set v (if b then some ()else none)) r
def n9(s:Tr AV)(dst:Option Nat)(v:AV):Tr AV:=match dst with|some n=>s.set n (some v)|none=>s
def j8(m:List (Tr bq))(kp:List (Nat×Nat)):List (Tr bq):=aT m (kp.map λk=>(k.1,k.2,none))
def fit(old m:List (Tr bq)):List (Tr bq):=(m++List.replicate old.length Tr.lf).take old.length
def back(old m:List (Tr bq)):List (Nat×Nat)->List (Tr bq)|[]=>m|k::r=>aT (fit old m) ((k::r).map λk=>(k.1,k.2,aH old k.1 k.2))
def St.app(s:St)(dst:Option Nat):hU->St|.bT e=>{slots:=n9 s.slots dst e.val,mem:=aT s.mem e.dn,aI:=eV s.aI e.cR,nv:=s.nv}|.all v m t n kp kr=>{slots:=n9 s.slots dst v,mem:=back s.mem m (kp++kr),aI:=t,nv:=n}
abbrev Call:=Nat->List AV->List (Tr bq)->Tr Unit->Nat->Option (AV×List (Tr bq)×Tr Unit×Nat)
def dA(m:List (Tr bq)):AV->Option AV|.d x=>some (.d x)|.own els .bG=>some (.own els .bG)|.own els _=>some (.d (.sl els))|.ref lv sl ak off len sz=>(dL m (.ref lv sl ak off len sz)).map λels=>.own els .bG|.fG f []=>some (.fG f [])|_=>none
def fo(m:List (Tr bq)):AV->Option (AV×List (Nat×Nat))|.own els .bG=>some (.own els .bG,[])|.fG f []=>some (.fG f [],[])|x=>(BO m x).map λ(y,k)=>(.d y,k)
def gh(m:List (Tr bq)):List AV->Option (List AV×List (Nat×Nat))|[]=>some ([],[])|x::r=>match fo m x,gh m r with|some (y,k),some (ys,ks)=>some (y::ys,k++ks)|_,_=>none
def y9(m:List (Tr bq)):AV->Option (AV×List (Nat×Nat))|.agg cs=>(gh m cs).map λ(ys,ks)=>(.agg ys,ks)|x=>(dA m x).map λy=>(y,[])
def sS(m:List (Tr bq)):List AV->Option (List AV×List (Nat×Nat))|[]=>some ([],[])|x::r=>match y9 m x,sS m r with|some (y,k),some (ys,ks)=>some (y::ys,k++ks)|_,_=>none
def oC(top pk:Nat):Bool:=!Nat.beq pk 0&&!Nat.beq top 0
def bE(cm:List (Tr bq))(top pk k:Nat)(lv sl ak:Nat):AV->Option (AV×List (List (List D)))
 |.d x=>some (.d x,[])|.own els .full=>match !Nat.beq (pk/65536) 0&&Nat.beq k (pk%65536),els with|true,[]=>some (.ref lv sl ak 0 0 (pk/65536),[[]])|_,els=>match oC top pk||Nat.beq (pk%65536) 65535with|true=>some (.own els .full,[])|false=>some (.d (.sl els),[])
 |.own els (.cR v tz)=>match oC top pk with|true=>some (.own els (.cR v tz),[])|false=>some (.d (.sl els),[])
 |.ref cy cU gA off len sz=>match Nat.ble top cy with|false=>some (.ref cy cU gA off len sz,[])|true=>match dL cm (.ref cy cU gA off len sz)with|none=>none|some els=>match Nat.beq pk 0with|true=>some (.d (.sl els),[])|false=>match Nat.beq k (pk%65536)with
  |true=>match rowAt cm cy cU gA with|some _=>some (.ref lv sl ak 0 len sz,[els])|none=>none
  |false=>match rowAt cm cy cU gA with|some _=>none|none=>some (.d (.sl els),[])
 |.fG f []=>some (.fG f [],[])|.dx cy cU gA off n sz=>match Nat.ble top cy with|false=>some (.dx cy cU gA off n sz,[])|true=>none
 |.ptr cy cU gA i off=>match Nat.ble top cy with|false=>some (.ptr cy cU gA i off,[])|true=>none
 |_=>none
def dM(cm:List (Tr bq))(top pk lv sl ak:Nat):Nat->List AV->Option (List AV×List (List (List D)))|_,[]=>some ([],[])|k,x::r=>match bE cm top pk k lv sl ak x,dM cm top pk lv sl ak (k+1) r with|some (y,u),some (ys,us)=>some (y::ys,u++us)|_,_=>none
def lH(cm:List (Tr bq))(top pk lv sl ak k:Nat):AV->Option (AV×List (List (List D)))|.agg cs=>(dM cm top pk lv sl ak k cs).map λ(vs,u)=>(.agg vs,u)|x=>bE cm top pk k lv sl ak x
def fT(cm:List (Tr bq))(top pk lv sl ak:Nat):Nat->List AV->Option (List AV×List (List (List D)))|_,[]=>some ([],[])|k,x::r=>match lH cm top pk lv sl ak k x,fT cm top pk lv sl ak (k+64) r with|some (y,u),some (ys,us)=>some (y::ys,u++us)|_,_=>none
def gU(cm:List (Tr bq))(top pk lv sl ak:Nat):AV->Option (AV×List (List (List D)))|.fk vs=>(fT cm top pk lv sl ak 1 vs).map λ(vs,u)=>(.fk vs,u)|x=>lH cm top pk lv sl ak 1 x
def j9(lv sl ak:Nat):List (List (List D))->Option (List (Nat×Nat×Option bq))|[]=>some []|[els]=>some [(lv,sl,some (.row ak els))]|_=>none
def bq.nD:bq->Option bq|.row v els=>some (.MY v els)|.box _ _=>none|.MY v els=>some (.MY v els)|.mp _ _=>none
def eW(m:List (Tr bq))(ks:List (Nat×Nat)):List (Nat×Nat×Option bq):=ks.map λk=>(k.1,k.2,(aH m k.1 k.2).bind bq.nD)
def jy(ks:List (Nat×Nat)):List (Nat×Nat×Nat):=ks.map λk=>bU k.1 k.2
def fU:AV->Bool|.fk _=>false|_=>true
def Tz:AV->Bool|.d _=>true|_=>false
def HO:AV->Bool|.agg cs=>cs.all Tz|x=>Tz x
def aei:AV->Bool|.fk vs=>vs.all HO|x=>HO x
def gV(call:Call)(shared:Bool)(row:Nat)(s:St)(lv sl aP:Nat)(f:Nat)(args:List AV):Option hU:=match shared with
 |false=>match sS s.mem args with|none=>none|some (aK,ks)=>match call f aK [.lf] .lf 0with|none=>none|some (r,cm,_,_)=>match gU cm 0 row lv sl aP r with|none=>none|some (v,us)=>match j9 lv sl aP us with|none=>none|some u=>some (.bT {val:=v,dn:=eW s.mem ks++u,cR:=[],rd:=args.flatMap fH})
 |true=>match args.all fU with|false=>none|true=>match call f args (s.mem++[.lf]) s.aI s.nv with|none=>none|some (r,cm,ts,n)=>match gU cm s.mem.length row lv sl aP r with|none=>none|some (v,us)=>match j9 lv sl aP us with|none=>none|some u=>some (.all v (aT (cm.take s.mem.length) u) ts n [] [])
def za(m:List (Tr bq)):AV->Option (AV×List (Nat×Nat))|.agg cs=>(gh m cs).map λ(ys,ks)=>(.agg ys,ks)|x=>fo m x
def sU(m:List (Tr bq)):List AV->Option (List AV×List (Nat×Nat))|[]=>some ([],[])|x::r=>match za m x,sU m r with|some (y,k),some (ys,ks)=>some (y::ys,k++ks)|_,_=>none
def oT(call:Call)(s:St)(aP f:Nat)(args:List AV):Option hU:=match sU s.mem args with|none=>none|some (aK,ks)=>match call f aK [.lf] .lf 0with|none=>none|some (r,cm,_,_)=>match gU cm 0 0 0 0 aP r with|some (v,[])=>some (.bT {val:=v,dn:=eW s.mem ks,cR:=[],rd:=args.flatMap fH})|_=>none
def qv(m:List (Tr bq)):List AV->Option (List AV)|[]=>some []|x::r=>match dA m x,qv m r with|some y,some ys=>some (y::ys)|_,_=>none
def sW(m:List (Tr bq)):AV->Option AV|.agg cs=>(qv m cs).map .agg|x=>dA m x
def rN(m:List (Tr bq)):List AV->Option (List AV)|[]=>some []|x::r=>match sW m x,rN m r with|some y,some ys=>some (y::ys)|_,_=>none
def oU(call:Call)(s:St)(aP f:Nat)(args:List AV):Option hU:=match rN s.mem args with|none=>none|some aK=>match call f aK [.lf] .lf 0with|none=>none|some (r,cm,_,_)=>match gU cm 0 0 0 0 aP r with|some (v,[])=>some (.bT {val:=v,dn:=[],cR:=[],rd:=args.flatMap fH})|_=>none
def rO(call:Call)(s:St)(f:Nat)(args:List AV):Option hU:=match args.all fU with|false=>none|true=>match call f args (s.mem++[.lf]) s.aI s.nv with|none=>none|some (r,cm,ts,n)=>some (.all r cm ts n [] [])
def okC:AV->Bool|.own _ .bG=>false|.eZ _ _=>false|.fG _ cap=>cap.isEmpty|_=>true
def ok1:AV->Bool|.agg cs=>cs.all okC|x=>okC x
def Cv:AV->Bool|.fk vs=>vs.all ok1|x=>ok1 x
def okE:bq->Bool|.box _ cs=>cs.all okC|_=>true
def okT:Tr bq->Bool|.lf=>true|.nd v l r=>(match v with|some e=>okE e|none=>true)&&(okT l&&okT r)
def sV(a b:Value):Bool:=match a,b with|.bool x,.bool y=>x==y|.int k x,.int k' y=>decide (k=k')&&decide (x=y)|.string x,.string y=>decide (x.data.toList=y.data.toList)|.nilIface,.nilIface=>true|_,_=>false
def sL{α:Type}(f:α->α->Bool):List α->List α->Bool|[],[]=>true|a::l,b::m=>f a b&&sL f l m|_,_=>false
def sD:Nat->D->D->Bool|0,_,_=>false|k+1,x,y=>match x,y with|.sc v,.sc w=>sV v w|.sl a,.sl b=>sL (sL (sD k)) a b|.er,.er=>true|_,_=>false
def sA(a b:AV):Bool:=match a,b with|.d x,.d y=>sD 9 x y|.own x .full,.own y .full=>sL (sL (sD 9)) x y|.ref a b c d e f,.ref a' b' c' d' e' f'=>Nat.beq a a'&&(Nat.beq b b'&&(Nat.beq c c'&&(Nat.beq d d'&&(Nat.beq e e'&&Nat.beq f f'))))|.dx a b c d e f,.dx a' b' c' d' e' f'=>Nat.beq a a'&&(Nat.beq b b'&&(Nat.beq c c'&&(Nat.beq d d'&&(Nat.beq e e'&&Nat.beq f f'))))|.ptr a b c d e,.ptr a' b' c' d' e'=>Nat.beq a a'&&(Nat.beq b b'&&(Nat.beq c c'&&(Nat.beq d d'&&Nat.beq e e')))|_,_=>false
def sE(a b:Option bq):Bool:=match a,b with|some (.box v cs),some (.box w ds)=>Nat.beq v w&&sL sA cs ds|none,none=>true|_,_=>false
def Z0:List AV->List (Nat×Nat)|[]=>[]|.ptr lv sl _ _ _::r=>(lv,sl)::Z0 r|_::r=>Z0 r
def TA(top:Nat):Nat->Nat->List (Nat×Nat)|0,_=>[]|f+1,n=>match Nat.beq n 0with|true=>[]|false=>(top,n%1024)::TA top f (n/1024)
def qw(call:Call)(row:Nat)(kp kr:List (Nat×Nat))(s:St)(lv sl aP f:Nat)(args:List AV):Option hU:=match args.all fU with|false=>none|true=>match call f args (j8 s.mem kp++[.lf]) s.aI s.nv with|none=>none|some (r,cm,ts,n)=>match gU cm s.mem.length row lv sl aP r with|none=>none|some (v,us)=>match j9 lv sl aP us with|none=>none|some u=>match Cv v&&((aT (cm.take s.mem.length) u).all okT&&kr.all λk=>sE (aH (aT (cm.take s.mem.length) u) k.1 k.2) (aH (j8 s.mem kp) k.1 k.2))with|true=>some (.all v (aT (cm.take s.mem.length) u) ts n kp kr)|false=>none
def jh(m:List (Tr bq)):AV->Option D|.d x=>some x|.own els _=>some (.sl els)|.ref lv sl ak off len sz=>(dL m (.ref lv sl ak off len sz)).map .sl|_=>none
def chunk{α:Type}(sz:Nat):Nat->List α->List (List α)|0,_=>[]|n+1,l=>l.take sz::chunk sz n (l.drop sz)
def kQ(f:AV->Option D):List AV->Option (List D)|[]=>some []|x::r=>match f x,kQ f r with|some y,some ys=>some (y::ys)|_,_=>none
def lI(m:List (Tr bq)):Nat->AV->Option D|0,x=>jh m x|k+1,x=>match x with
 |.dx lv sl ak off n sz=>match j3 m lv sl ak with|some cs=>if off+n*sz<=cs.length then(kQ (lI m k) ((cs.drop off).take (n*sz))).map λds=>.sl (chunk sz n ds)else none|none=>none
 |x=>jh m x
def qx(m:List (Tr bq)):Nat->AV->List (Nat×Nat×Nat)|0,x=>cV x|k+1,x=>match x with|.dx lv sl ak _ _ _=>bU lv sl::(match j3 m lv sl ak with|some cs=>cs.flatMap (qx m k)|none=>[])|x=>cV x
def kz(m:List (Tr bq)):AV->Option AV
 |.agg cs=>(kQ (lI m 2) cs).map λds=>.agg (ds.map .d)|.fG f []=>some (.fG f [])|.ptr lv sl ak i off=>match j3 m lv sl ak,Nat.beq i 0with|some cs,true=>(kQ (lI m 2) cs).map λds=>.eZ ds off|_,_=>none
 |.eZ e off=>some (.eZ e off)|x=>(lI m 2 x).map .d
def xl(m:List (Tr bq)):List AV->Option (List AV)|[]=>some []|x::r=>match kz m x,xl m r with|some y,some ys=>some (y::ys)|_,_=>none
def nE(m:List (Tr bq)):AV->List (Nat×Nat×Nat)|.agg cs=>cs.flatMap (qx m 2)|.ptr lv sl ak _ _=>bU lv sl::(match j3 m lv sl ak with|some cs=>cs.flatMap (qx m 2)|none=>[])|x=>qx m 2 x
def Cw:AV->Bool|.d (.sc _)=>true|.d (.sl [])=>true|_=>false
def FJ:AV->Bool|.agg cs=>cs.all Cw|x=>Cw x
def TB:AV->Bool|.fk vs=>vs.all FJ|x=>FJ x
def lJ(call:Call)(s:St)(f:Nat)(args:List AV):Option hU:=match xl s.mem args with|none=>none|some aK=>match call f aK [.lf] .lf 0with|none=>none|some (r,cm,_,_)=>match gU cm 0 0 0 0 0 r with
 |some (v,[])=>match TB v with|true=>some (.bT {val:=v,dn:=[],cR:=[],rd:=args.flatMap (nE s.mem)})|false=>none
 |_=>none
def vV(row top dst:Nat):Nat×Nat:=match Nat.beq (row%65536) 5with|true=>(0,1000000+row/65536)|false=>(top,dst)
def As(s:Tr AV)(l:List cu):List AV:=l.map (·.ev s)
def qL(s:Tr AV):List AV->List (Nat×Nat×cu)->Option (List AV)|cs,[]=>some cs|cs,(off,sz,x)::r=>match cellsOf (x.ev s)with|some new=>if new.length=sz/\off+sz<=cs.length then qL s (splice cs off new) r else none|none=>none
def qM(m:List (Tr bq))(s:Tr AV)(sz:Nat):List (List D)->List (Nat×cu)->Option (List (List D)×List (Nat×Nat))|els,[]=>some (els,[])|els,(i,x)::r=>match FH m (x.ev s)with|some (e,ks)=>if e.length=sz/\i<els.length then match qM m s sz (els.set i e) r with|some (els',ks')=>some (els',ks++ks')|none=>none else none|none=>none
def sX(m:List (Tr bq))(sz:Nat):AV->Option (List AV)
 |.ptr lv sl ak i off=>match aH m lv sl with
  |some (.box v cs)=>match Nat.beq v ak,Nat.beq i 0with|true,true=>if off+sz<=cs.length then some ((cs.drop off).take sz)else none|_,_=>none
  |some (.row v els)=>match Nat.beq v ak with
   |true=>match els[i]?with|some e=>if off+sz<=e.length then some (((e.drop off).take sz).map .d)else none|none=>none
   |false=>none
  |some (.MY v els)=>match Nat.beq v ak with
   |true=>match els[i]?with|some e=>if off+sz<=e.length then some (((e.drop off).take sz).map .d)else none|none=>none
   |false=>none
  |some (.mp _ _)=>none|none=>none
 |.eZ e off=>if off+sz<=e.length then some (((e.drop off).take sz).map .d)else none|_=>none
def iI(agg:Bool)(cs:List AV):Option AV:=match agg with|true=>some (.agg cs)|false=>match cs with|[v]=>some v|_=>none
def rP(m:List (Tr bq))(sz:Nat)(p v:AV):Option fD:=
 match p,cellsOf v with|.ptr lv sl ak i off,some new=>if new.length=sz then match aH m lv sl with
  |some (.box v cs)=>match Nat.beq v ak,Nat.beq i 0with|true,true=>if off+sz<=cs.length then some {val:=kP,dn:=[(lv,sl,some (.box v (splice cs off new)))],cR:=[],rd:=[bU lv sl]}else none|_,_=>none
  |some (.row v els)=>match Nat.beq v ak with
   |true=>match els[i]?,Fh m new with|some e,some (ds,ks)=>if off+sz<=e.length/\¬(lv,sl)∈ks then some {val:=kP,dn:=eW m ks++[(lv,sl,some (.row v (els.set i (splice e off ds))))],cR:=[],rd:=bU lv sl::jy ks}else none|_,_=>none
   |false=>none
  |some (.MY _ _)=>none|some (.mp _ _)=>none|none=>none else none|_,_=>none
def gW(m:List (Tr bq)):AV->Option (List (List D))|.d (.sc (.string b))=>some (b.data.toList.map λc=>[.sc (.int .u8 c.toNat)])|x=>dL m x
def eU:Nat:=9223372036854775807
def jz:Nat:=140737488355328
def ew(s:St)(row:Bool)(lv sl aP sz bytes:Nat)(x y:AV):Option fD:=match gW s.mem y with|none=>none|some news=>if news.all (λe=>e.length==sz)then match x with
 |.own els .full=>if els.all (λe=>e.length==sz)/\els.length+news.length<=eU/\(els.length+news.length)*bytes<=jz then match row with|false=>some {val:=.own (els++news) (.cR aP sz),dn:=[],cR:=[(aP,true)],rd:=cV y}|true=>if els.isEmpty=false/\news.isEmpty=true then none else some {val:=.ref lv sl aP 0 (els.length+news.length) sz,dn:=[(lv,sl,some (.row aP (els++news)))],cR:=[],rd:=cV y}else none|.own els (.cR v tz)=>if tz=sz/\els.length+news.length<=eU/\(els.length+news.length)*bytes<=jz/\(s.aI.get? v).isSome then some {val:=.own (els++news) (.cR aP sz),dn:=[],cR:=[(v,false),(aP,true)],rd:=ku v::cV y}else none|.ref cy cU ak off len sz'=>match rowAt s.mem cy cU ak with|some els=>if sz'=sz/\off+len<=els.length/\len+news.length<=eU/\(len+news.length)*bytes<=jz then some {val:=.ref cy cU aP 0 (len+news.length) sz,dn:=[(cy,cU,some (.row aP ((els.drop off).take len++news)))],cR:=[],rd:=bU cy cU::cV y}else none|none=>none
 |_=>none else none
def oa(m:List (Tr bq))(sz:Nat)(x:AV):Option (List AV):=match x with
 |.dx lv sl ak off n sz'=>match j3 m lv sl ak with|some cs=>if sz'=sz/\off+n*sz<=cs.length then some ((cs.drop off).take (n*sz))else none|none=>none
 |x=>match dL m x with|some els=>if els.all (λe=>e.length==sz)then some (els.flatten.map .d)else none|none=>none
def kH(s:St)(lv sl aP sz bytes:Nat)(x y:AV):Option fD:=match oa s.mem sz y with|none=>none|some new=>match Nat.beq (new.length/sz) 0with|true=>none|false=>match x with
 |.own [] .full=>if new.length/sz<=eU/\new.length/sz*bytes<=jz then some {val:=.dx lv sl aP 0 (new.length/sz) sz,dn:=[(lv,sl,some (.box aP new))],cR:=[],rd:=cV y}else none|.dx cy cU ak off n sz'=>match j3 s.mem cy cU ak with|some cs=>if sz'=sz/\off+n*sz<=cs.length/\n+new.length/sz<=eU/\(n+new.length/sz)*bytes<=jz then some {val:=.dx cy cU aP 0 (n+new.length/sz) sz,dn:=[(cy,cU,some (.box aP ((cs.drop off).take (n*sz)++new)))],cR:=[],rd:=bU cy cU::cV y}else none|none=>none
 |_=>none
def bytesOf:List (List D)->Option (List UInt8)|[]=>some []|[.sc (.int .u8 n)]::r=>(bytesOf r).map (UInt8.ofNat n.toNat::·)|_=>none
def od(l:List UInt8):ByteArray:=⟨l.toArray⟩
def JN(s:St)(aP sz:Nat)(x:AV)(l:Nat)(hi:Option Nat):Option fD:=match x with
 |.ref lv sl ak off len sz'=>match rowAt s.mem lv sl ak with|some els=>if sz'=sz/\l<=hi.getD len/\hi.getD len<=len/\off+len<=els.length then some {val:=.ref lv sl aP 0 (hi.getD len-l) sz,dn:=[(lv,sl,some (.row aP ((els.drop (off+l)).take (hi.getD len-l))))],cR:=[],rd:=[bU lv sl]}else none|none=>none
 |_=>none
def ot:AV->Bool|.ref ..=>true|_=>false
def JO(s:St)(lv dst aP:Nat)(x:AV):Option fD:=match x with
 |.ref cy cU ak off len sz=>match rowAt s.mem cy cU ak with
  |some els=>match Nat.ble (off+len) els.length with|true=>some {val:=.ref lv dst aP 0 len sz,dn:=[(cy,cU,none),(lv,dst,some (.row aP ((els.drop off).take len)))],cR:=[],rd:=[bU cy cU]}|false=>none
  |none=>none
 |_=>none
def tF:List (List D)->Option (List Int)|[]=>some []|[.sc (.int .i64 z)]::r=>(tF r).map (z::·)|_=>none
def jr(l:List Int):List (List D):=l.map λz=>[.sc (.int .i64 z)]
def Cy(x:Int):List Int->List Int|[]=>[x]|y::r=>match decide (x<=y)with|true=>x::y::r|false=>y::Cy x r
def j4:List Int->List Int|[]=>[]|x::r=>Cy x (j4 r)
def Au(s:St)(x:AV):Option fD:=match x with
 |.own [] .full=>some {val:=kP,dn:=[],cR:=[],rd:=[]}|.ref lv sl ak off len sz=>match rowAt s.mem lv sl ak with|some els=>(tF els).bind λzs=>if off=0/\len=els.length/\sz=1/\els.length<4611686018427387904then some {val:=kP,dn:=[(lv,sl,some (.row ak (jr (j4 zs))))],cR:=[],rd:=[bU lv sl]}else none|none=>none
 |_=>none
def j5:List Int->List Int|[]=>[]|x::r=>match r with|[]=>[x]|y::_=>match decide (x=y)with|true=>j5 r|false=>x::j5 r
def nF(s:St)(aP:Nat)(x:AV):Option fD:=match x with
 |.own [] .full=>some {val:=.own [] .full,dn:=[],cR:=[],rd:=[]}|.ref lv sl ak off len sz=>match rowAt s.mem lv sl ak with|some els=>(tF els).bind λzs=>if off=0/\len=els.length/\sz=1/\els.length<4611686018427387904then some {val:=.ref lv sl aP 0 (j5 zs).length 1,dn:=[(lv,sl,some (.row aP (jr (j5 zs))))],cR:=[],rd:=[bU lv sl]}else none|none=>none
 |_=>none
def TC(row:Nat):Bool:=Nat.beq (row%65536) 4||(Nat.beq (row%65536) 6&&!Nat.beq (row/65536) 0)
def BP(row lv dst aP:Nat)(x:AV):fD:=match TC row,x with|true,.own [] .full=>{val:=.ref lv dst aP 0 0 (row/65536),dn:=[(lv,dst,some (.row aP []))],cR:=[],rd:=[]}|_,v=>{val:=v,dn:=[],cR:=[],rd:=[]}
def gn(x:Option cu)(s:Tr AV)(dflt:Nat):Option Nat:=match x with|none=>some dflt|some o=>gT (o.ev s)
def fV(sz:Nat)(x:AV)(lo:Nat)(hi mx:Option Nat):Option AV:=match x with
 |.d (.sl els)=>let h:=hi.getD els.length;match mx with|none=>if lo<=h/\h<=els.length/\els.all (λe=>e.length==sz)then some (.d (.sl ((els.drop lo).take (h-lo))))else none|some k=>if lo<=h/\h=k/\h<=els.length/\els.all (λe=>e.length==sz)then some (.own ((els.drop lo).take (h-lo)) .full)else none
 |.own els o=>let h:=hi.getD els.length;match mx with|none=>if lo<=h/\h<=els.length/\els.all (λe=>e.length==sz)then match o with|.bG=>some (.own ((els.drop lo).take (h-lo)) .bG)|.full=>if h=els.length then some (.own (els.drop lo) .full)else some (.d (.sl ((els.drop lo).take (h-lo))))|.cR _ _=>some (.d (.sl ((els.drop lo).take (h-lo))))else none|some k=>if lo<=h/\h=k/\h<=els.length/\els.all (λe=>e.length==sz)then match o with|.bG=>if h=lo then some (.own [] .full)else none|_=>some (.own ((els.drop lo).take (h-lo)) .full)else none
 |.ref lv sl ak off len sz'=>let h:=hi.getD len;match mx with|none=>if lo<=h/\h<=len/\sz'=sz then some (.ref lv sl ak (off+lo) (h-lo) sz)else none|some k=>if lo=h/\h=k/\h<=len then some (.own [] .full)else if lo<=h/\h=k/\h<=len/\sz'=sz then some (.ref lv sl ak (off+lo) (h-lo) sz)else none
 |_=>none
def HP(k:Nat):Nat->Nat->Bool|0,_=>false|f+1,n=>match Nat.beq n 0with|true=>false|false=>Nat.beq (n%1024) k||HP k f (n/1024)
def gZ(top dst:Nat):Nat:=match Nat.ble 1048576 dst with|true=>0|false=>top-1
def vW:List AV->Option (List D)|[]=>some []|.d x::r=>(vW r).map (x::·)|_=>none
def cF.run(call:Call)(sh:Nat->Bool)(s:St)(row:Nat)(dst aP:Nat):cF->Option hU
 |.JI x=>match Nat.beq (row%65536) 6&&ot (x.ev s.slots)with|true=>(JO s (gZ s.mem.length dst) dst aP (x.ev s.slots)).map .bT|false=>some (.bT (BP row (gZ s.mem.length dst) dst aP (x.ev s.slots)))
 |.pick c a b=>(jq (c.ev s.slots)).bind λt=>fD.pure (if t then a.ev s.slots else b.ev s.slots)|.alloc z=>some (.bT {val:=.ptr (gZ s.mem.length dst) dst aP 0 0,dn:=[(gZ s.mem.length dst,dst,some (.box aP z))],cR:=[],rd:=[]})|.box x=>match Nat.beq row 14with|true=>(cellsOf (x.ev s.slots)).map λcs=>.bT {val:=.ptr (s.mem.length-2) (1048576+dst) aP 0 0,dn:=[(s.mem.length-2,1048576+dst,some (.box aP cs))],cR:=[],rd:=[]}|false=>match Nat.beq row 13with|true=>(cellsOf (x.ev s.slots)).bind λcs=>(vW cs).bind λds=>fD.pure (.eZ ds 0)|false=>(cellsOf (x.ev s.slots)).map λcs=>.bT {val:=.ptr (gZ s.mem.length dst) dst aP 0 0,dn:=[(gZ s.mem.length dst,dst,some (.box aP cs))],cR:=[],rd:=[]}
 |.build z ps=>(qL s.slots z ps).bind λcs=>fD.pure (.agg cs)|.buildSlice sz n z ps=>match Nat.beq row 2with
  |true=>match Nat.beq n 0with|true=>none|false=>(qL s.slots ((List.replicate n z).flatten.map .d) (ps.map λp=>(p.1*sz,sz,p.2))).map λcs=>.bT {val:=.dx (gZ s.mem.length dst) dst aP 0 n sz,dn:=[(gZ s.mem.length dst,dst,some (.box aP cs))],cR:=[],rd:=[]}
  |false=>match qM s.mem s.slots sz (List.replicate n z) ps with|none=>none|some (els,ks)=>match Nat.beq row 0with|true=>some (.bT {val:=.own els .full,dn:=eW s.mem ks,cR:=[],rd:=jy ks})|false=>if(gZ s.mem.length dst,dst)∈ks then none else some (.bT {val:=.ref (gZ s.mem.length dst) dst aP 0 n sz,dn:=eW s.mem ks++[(gZ s.mem.length dst,dst,some (.row aP els))],cR:=[],rd:=jy ks})
 |.load sz agg x=>(sX s.mem sz (x.ev s.slots)).bind λcs=>(iI agg cs).map λv=>.bT {val:=v,dn:=[],cR:=[],rd:=cV (x.ev s.slots)}|.store sz x v=>(rP s.mem sz (x.ev s.slots) (v.ev s.slots)).map .bT|.nilCheck x=>match x.ev s.slots with|.ptr lv sl ak i off=>fD.pure (.ptr lv sl ak i off)|.eZ e off=>fD.pure (.eZ e off)|.fG f cs=>fD.pure (.fG f cs)|_=>none
 |.bin op x y=>(Tx op (x.ev s.slots) (y.ev s.slots)).bind λv=>fD.pure (nC v)|.ZZ neg x y=>match jq (x.ev s.slots),jq (y.ev s.slots)with|some a,some b=>fD.pure (nC (.bool (if neg then !(a==b)else a==b)))|_,_=>none
 |.QV neg sz cells x y=>match x.ev s.slots,y.ev s.slots with|.agg xs,.agg ys=>if xs.length≠sz\/ys.length≠sz then none else(nB xs ys cells).bind λb=>fD.pure (nC (.bool (if neg then !b else b)))|_,_=>none
 |.Aq neg x=>match x.ev s.slots with|.d .er=>fD.pure (nC (.bool neg))|.d (.sc .nilIface)=>fD.pure (nC (.bool !neg))|_=>none
 |.un op x=>(unA op (x.ev s.slots)).bind λv=>fD.pure (nC v)|.conv k x=>(tE (x.ev s.slots)).bind λn=>fD.pure (nC (.int k (k.wrap n)))|.field off sz agg x=>match x.ev s.slots with|.agg cs=>if off+sz<=cs.length then(iI agg ((cs.drop off).take sz)).bind fD.pure else none|_=>none
 |.fieldAddr off x=>match x.ev s.slots with|.ptr lv sl ak i o=>fD.pure (.ptr lv sl ak i (o+off))|.eZ e o=>fD.pure (.eZ e (o+off))|_=>none
 |.indexAddr sz x i=>(gT (i.ev s.slots)).bind λn=>match x.ev s.slots with
  |.d (.sl els)=>match els[n]?with|some e=>if e.length=sz then fD.pure (.eZ e 0)else none|none=>none
  |.own els _=>match els[n]?with|some e=>if e.length=sz then fD.pure (.eZ e 0)else none|none=>none
  |.ref lv sl ak off ln sz'=>if n<ln/\sz'=sz then fD.pure (.ptr lv sl ak (off+n) 0)else none|.dx lv sl ak off ln sz'=>if n<ln/\sz'=sz then fD.pure (.ptr lv sl ak 0 (off+n*sz))else none|_=>none
 |.lG n sz x i=>(gT (i.ev s.slots)).bind λk=>if k<n then match x.ev s.slots with|.ptr lv sl ak j o=>fD.pure (.ptr lv sl ak j (o+k*sz))|.eZ e o=>fD.pure (.eZ e (o+k*sz))|_=>none else none|.rK n sz agg x i=>(gT (i.ev s.slots)).bind λk=>match x.ev s.slots with|.agg cs=>if k<n/\k*sz+sz<=cs.length then(iI agg ((cs.drop (k*sz)).take sz)).bind fD.pure else none|_=>none
 |.rL x i=>(gT (i.ev s.slots)).bind λk=>match x.ev s.slots with
  |.d (.sc (.string b))=>match b.data.toList[k]?with|some c=>fD.pure (nC (.int .u8 c.toNat))|none=>none
  |_=>none
 |.slice sz x lo hi mx=>match gn lo s.slots 0,gn hi s.slots 0,gn mx s.slots 0with
  |some l,some h,some k=>match Nat.beq row 3&&(mx.isNone&&ot (x.ev s.slots))with|true=>(JN s aP sz (x.ev s.slots) l (hi.map λ_=>h)).map .bT|false=>(fV sz (x.ev s.slots) l (hi.map λ_=>h) (mx.map λ_=>k)).bind fD.pure
  |_,_,_=>none
 |.rM x lo hi=>match x.ev s.slots with
  |.d (.sc (.string b))=>match gn lo s.slots 0,gn hi s.slots b.size with|some l,some h=>if l<=h/\h<=b.size then fD.pure (nC (.string (b.extract l h)))else none|_,_=>none
  |_=>none
 |.extract x i=>match x.ev s.slots with|.fk vs=>(vs[i]?).bind fD.pure|_=>none
 |.len x=>match x.ev s.slots with|.d (.sl els)=>fD.pure (qK els.length)|.own els _=>fD.pure (qK els.length)|.ref _ _ _ _ n _=>fD.pure (qK n)|.dx _ _ _ _ n _=>fD.pure (qK n)|_=>none
 |.JJ x=>match x.ev s.slots with|.own els .full=>fD.pure (qK els.length)|_=>none
 |.HK x=>match x.ev s.slots with|.d (.sc (.string b))=>fD.pure (qK b.size)|_=>none
 |.Fg n=>fD.pure (qK n)|.s2b x=>match x.ev s.slots with|.d (.sc (.string b))=>fD.pure (.d (.sl (b.data.toList.map λc=>[.sc (.int .u8 c.toNat)])))|_=>none
 |.b2s x=>(dL s.mem (x.ev s.slots)).bind λels=>(bytesOf els).map λl=>.bT {val:=nC (.string (od l)),dn:=[],cR:=[],rd:=cV (x.ev s.slots)}|.HL x y=>match x.ev s.slots,y.ev s.slots with|.d (.sc (.int k a)),.d (.sc (.int k' b))=>if k=k' then fD.pure (nC (.int k (min a b)))else none|_,_=>none
 |.HM x y=>match x.ev s.slots,y.ev s.slots with|.d (.sc (.int k a)),.d (.sc (.int k' b))=>if k=k' then fD.pure (nC (.int k (max a b)))else none|_,_=>none
 |.append sz bytes x y=>match Nat.beq row 11with|true=>(kH s (gZ s.mem.length dst) dst aP sz bytes (x.ev s.slots) (y.ev s.slots)).map .bT|false=>(ew s (!Nat.beq row 0) (vV row (gZ s.mem.length dst) dst).1 (vV row (gZ s.mem.length dst) dst).2 aP sz bytes (x.ev s.slots) (y.ev s.slots)).map .bT
 |.pZ sz bytes z x n=>(gT (n.ev s.slots)).bind λk=>if z.length=sz/\k<=eU/\k*bytes<=jz then(ew s (!Nat.beq row 0) (gZ s.mem.length dst) dst aP sz bytes (x.ev s.slots) (.d (.sl (List.replicate k z)))).map .bT else none|.sliceB n sz x=>match x.ev s.slots with
  |.ptr lv sl ak i off=>match Nat.beq i 0with|true=>fD.pure (.dx lv sl ak off n sz)|false=>none
  |_=>none
 |.tC lo n sz x=>match x.ev s.slots with
  |.ptr lv sl ak i off=>match Nat.beq i 0&&Nat.blt lo n with|true=>fD.pure (.dx lv sl ak (off+lo*sz) (n-lo) sz)|false=>none
  |_=>none
 |.clear sz z x=>match x.ev s.slots with
  |.ref lv sl ak off ln sz'=>match rowAt s.mem lv sl ak with|some els=>if sz'=sz/\off+ln<=els.length/\z.length=sz then some (.bT {val:=kP,dn:=[(lv,sl,some (.row ak (splice els off (List.replicate ln z))))],cR:=[],rd:=[bU lv sl]})else none|none=>none
  |_=>none
 |.grow sz x n=>match x.ev s.slots,gT (n.ev s.slots)with|.own [] .full,some _=>some (.bT {val:=.own [] (.cR aP sz),dn:=[],cR:=[(aP,true)],rd:=[]})|_,_=>none
 |.clone sz bytes x=>match Nat.beq row 11with|true=>(kH s (gZ s.mem.length dst) dst aP sz bytes (.own [] .full) (x.ev s.slots)).map .bT|false=>match dL s.mem (x.ev s.slots)with|some _=>(ew s (!Nat.beq row 0) (gZ s.mem.length dst) dst aP sz bytes (.own [] .full) (x.ev s.slots)).map .bT|none=>none
 |.mkSet=>some (.bT {val:=.mp (gZ s.mem.length dst) dst aP,dn:=[(gZ s.mem.length dst,dst,some (.mp aP []))],cR:=[],rd:=[]})|.JK m k=>match m.ev s.slots,k.ev s.slots with|.mp lv sl ak,.d (.sc (.string b))=>(setAt s.mem lv sl ak).map λks=>.bT {val:=nC (.bool (hasB ks b.data.toList)),dn:=[],cR:=[],rd:=[bU lv sl]}|_,_=>none
 |.JL m k=>match m.ev s.slots,k.ev s.slots with|.mp lv sl ak,.d (.sc (.string b))=>(setAt s.mem lv sl ak).map λks=>.bT {val:=kP,dn:=[(lv,sl,some (.mp ak (tD ks b.data.toList)))],cR:=[],rd:=[bU lv sl]}|_,_=>none
 |.sort x=>(Au s (x.ev s.slots)).map .bT|.compact x=>(nF s aP (x.ev s.slots)).map .bT|.bad=>none|.copy sz x y=>match x.ev s.slots,gW s.mem (y.ev s.slots)with
  |.dx lv sl ak off n sz',some news=>match j3 s.mem lv sl ak with|some cs=>if sz'=sz/\off+n*sz<=cs.length/\news.all (λe=>e.length==sz)then some (.bT {val:=qK (min news.length n),dn:=[(lv,sl,some (.box ak (splice cs off ((news.take (min news.length n)).flatten.map .d))))],cR:=[],rd:=bU lv sl::cV (y.ev s.slots)})else none|none=>none
  |.ref lv sl ak off ln sz',some news=>match rowAt s.mem lv sl ak with|some els=>if sz'=sz/\off+ln<=els.length/\news.all (λe=>e.length==sz)then some (.bT {val:=qK (min news.length ln),dn:=[(lv,sl,some (.row ak (splice els off (news.take (min news.length ln)))))],cR:=[],rd:=bU lv sl::cV (y.ev s.slots)})else none|none=>none
  |_,_=>none
 |.makeSlice sz bytes z l c=>match gT (l.ev s.slots),gT (c.ev s.slots)with|some l,some c=>if l<=c/\bytes*c<=jz/\c<=eU/\z.length=sz then some (.bT {val:=.ref (gZ s.mem.length dst) dst aP 0 l sz,dn:=[(gZ s.mem.length dst,dst,some (.row aP (List.replicate l z)))],cR:=[],rd:=[]})else none|_,_=>none
 |.makeFunc f cap=>if(As s.slots cap).all jS then fD.pure (.fG f (As s.slots cap))else none|.call f args=>match Nat.ble 1099511627776 row with|true=>qw call (row%4294967296) (TA (s.mem.length-1) 4 (row/1099511627776)) (if HP 1023 4 (row/1099511627776)then Z0 (As s.slots args)else[]) s (gZ s.mem.length dst) dst aP f (As s.slots args)|false=>match Nat.beq row 7with|true=>lJ call s f (As s.slots args)|false=>match Nat.beq row 8with|true=>rO call s f (As s.slots args)|false=>match Nat.beq row 9with|true=>oT call s aP f (As s.slots args)|false=>match Nat.beq row 10with|true=>oU call s aP f (As s.slots args)|false=>gV call (sh f) row s (gZ s.mem.length dst) dst aP f (As s.slots args)
 |.xk f args=>match Nat.ble 1099511627776 row with|true=>qw call (row%4294967296) (TA (s.mem.length-1) 4 (row/1099511627776)) (if HP 1023 4 (row/1099511627776)then Z0 (As s.slots args)else[]) s (gZ s.mem.length dst) dst aP f (As s.slots args)|false=>match sh f with|true=>gV call true row s (gZ s.mem.length dst) dst aP f (As s.slots args)|false=>lJ call s f (As s.slots args)
 |.Ar x args=>match x.ev s.slots with|.fG f cap=>gV call (sh f) row s (gZ s.mem.length dst) dst aP f (As s.slots args++cap)|_=>none
def js(s:Tr AV)(o:bI):Option Bool:=match o.gd with|none=>some true|some (g,b)=>match dV s g with|.d (.sc (.bool t))=>some (t==b)|.fk _=>some false|_=>none
def aek(row:Nat):Nat:=row%4294967296+row/1099511627776*1099511627776
def ael(row d aP:Nat):Nat:=match Nat.ble 4294967296 (row%1099511627776)with|true=>1048576+aP|false=>d
def bI.step(call:Call)(sh:Nat->Bool)(s:St)(aP:Nat)(o:bI):Option hU:=match js s.slots o with|none=>none|some true=>o.op.run call sh s (aek o.row) (ael o.row (o.dst.getD 0) aP) aP|some false=>fD.pure kP
def jA(call:Call)(sh:Nat->Bool)(mC:Nat):Nat->List bI->St->Option St|_,[],s=>some s|i,o::r,s=>match o.step call sh s (mC+i)with|none=>none|some e=>jA call sh mC (i+1) r (s.app o.dst e)
def meets(a b:List (Nat×Nat×Nat)):Bool:=a.any λk=>b.contains k
def xm:hU->Bool|.bT e=>!(e.rd.isEmpty&&e.dn.isEmpty&&e.cR.isEmpty)|.all ..=>true
def within(kp kr:List (Nat×Nat))(e:fD):Bool:=(e.rd.all λk=>(kp++kr).any λp=>k==bU p.1 p.2)&&e.wr.all λk=>kp.any λp=>k==bU p.1 p.2
def tG:hU->hU->Bool|.bT a,.bT b=>meets a.rd b.wr||meets a.wr b.rd||meets a.wr b.wr|.all _ _ _ _ kp kr,.bT b=>!within kp kr b|.bT a,.all _ _ _ _ kp kr=>!within kp kr a|.all ..,.all ..=>true
def clear(oS:Nat)(e:hU):List (Nat×hU)->Bool|[]=>true|(i,x)::r=>(oS.testBit i||!tG x e)&&clear oS e r
def ke(call:Call)(sh:Nat->Bool)(mC:Nat):Nat->List bI->List (Nat×hU)->St->Option St|_,[],_,s=>some s|i,o::r,eR,s=>match o.step call sh s (mC+i)with|none=>none|some e=>match clear o.oS e eR with|true=>ke call sh mC (i+1) r ((i,e)::eR) (s.app o.dst e)|false=>none
def gi(call:Call)(sh:Nat->Bool)(ops:List bI)(draw:Bool)(s:St):Option St:=let s':={s with nv:=s.nv+ops.length};match draw with|false=>jA call sh s.nv 0 ops s'|true=>ke call sh s.nv 0 ops [] s'
inductive AX where|normal|exit(id:Nat)|ret deriving Inhabited
def exec(call:Call)(sh:Nat->Bool):Nat->AC->St->Option (AX×St)|0,_,_=>none|n+1,c,s=>match c with
 |.skip=>some (.normal,s)|.region ops draw=>(gi call sh ops draw s).map λs'=>(.normal,s')|.seq a b=>match exec call sh n a s with|some (.normal,s')=>exec call sh n b s'|r=>r
 |.cond c a b=>match jq (c.ev s.slots)with|some true=>exec call sh n a s|some false=>exec call sh n b s|none=>none
 |.block id c=>match exec call sh n c s with
  |some (.exit id',s')=>match Nat.beq id' id with|true=>some (.normal,s')|false=>some (.exit id',s')
  |r=>r
 |.loop c=>match exec call sh n c s with|some (.normal,s')=>exec call sh n (.loop c) s'|r=>r
 |.exit id=>some (.exit id,s)|.ret=>some (.ret,s)
def JP(s:St):BN->Option AV
 |.t n=>match fU (dV s.slots n)with|true=>some (dV s.slots n)|false=>none
 |.cell n sz agg=>(sX s.mem sz (dV s.slots n)).bind (iI agg)
def kf(s:St):List BN->Option (List AV)|[]=>some []|x::r=>match JP s x,kf s r with|some y,some ys=>some (y::ys)|_,_=>none
def jt:List AV->AV|[v]=>v|vs=>.fk vs
def eA:Nat->List AV->Tr AV->Tr AV|_,[],t=>t|i,x::r,t=>eA (i+1) r (t.set i (some x))
def Z1(Fs:Nat->Option qu):Nat->Call|0,_,_,_,_,_=>none|n+1,f,args,mem,aI,nv=>match Fs f with|none=>none|some fn=>match Nat.beq args.length fn.np with|false=>none|true=>match exec (Z1 Fs n) (λg=>((Fs g).map (·.sh)).getD false) n fn.body {slots:=eA 0 args .lf,mem,aI,nv}with|some (.normal,s)|some (.ret,s)=>(kf s fn.res).map λvs=>(jt vs,s.mem,s.aI,s.nv)|_=>none
def M6(_:Nat):Prop:=False
def gok(_:World):Prop:=True
def FK{w w':World}(_:∀b,M6 b->w'.heap[b]?=w.heap[b]?)(_:gok w):gok w':=trivial
end Go.bK
namespace Go.bK
open Go Go.RowKit
def beq_true{a b:Nat}:Nat.beq a b=true↔a=b:=by simp_all
def beq_false{a b:Nat}:Nat.beq a b=false↔a≠b:=by rw[<-qr,beq_true]
def Tr.TD{α:Type}:∀(f:Nat)(t:Tr α)(n m:Nat)(x:Option α),n<f->(Tr.vE f t n x).get? m=if n=m then x else t.get? m:=by intro f;induction f with|zero=>omega|succ f ih=>
 intro t n m x h;have azk:∀k,t.get? k=if k=0then t.top else if k%2=1then t.left.get? (k/2)else t.right.get? (k/2-1):=by intro k;cases t with|lf=>simp[Tr.get?,Tr.top,Tr.left,Tr.right]|nd v l r=>simp[Tr.get?,Tr.top,Tr.left,Tr.right];cases h0:Nat.beq k 0with|true=>simp_all|false=>have:=beq_false.1 h0;cases h1:Nat.beq (k%2) 1with|true=>simp_all|false=>simp[this,beq_false.1 h1]
 have azl:∀(v:Option α)(l r:Tr α)k,(Tr.nd v l r).get? k=if k=0then v else if k%2=1then l.get? (k/2)else r.get? (k/2-1):=by intro v l r k;simp[Tr.get?];cases h0:Nat.beq k 0with|true=>simp_all|false=>have:=beq_false.1 h0;cases h1:Nat.beq (k%2) 1with|true=>simp_all|false=>simp[this,beq_false.1 h1]
 simp[Tr.vE];cases h0:Nat.beq n 0with|true=>have h0:=beq_true.1 h0<;>grind|false=>have h0:=beq_false.1 h0;cases h1:Nat.beq (n%2) 1with|true=>have h1:=beq_true.1 h1<;>grind|false=>have h1:=beq_false.1 h1<;>grind
def Tr.cK{α:Type}(t:Tr α)(n m:Nat)(x:Option α):(t.set n x).get? m=if n=m then x else t.get? m:=Tr.TD _ _ _ _ _ (by omega)
@[simp]theorem Tr.ary{α:Type}(n:Nat):(Tr.lf:Tr α).get? n=none:=rfl
theorem cO(m:List (Tr bq))(lv sl cy cU:Nat)(e:Option bq):aH (bJ m lv sl e) cy cU=if lv=cy/\sl=cU/\lv<m.length then e else aH m cy cU:=by
 unfold aH bJ;rw[List.getElem?_modify];by_cases h:lv=cy;.subst h;cases hm:m[lv]?with|none=>grind|some t=>
  have:lv<m.length:=by grind
  simp[Tr.cK,this]
 grind
structure Loc where
 b:Nat
 o:Nat
 sz:Nat
 cap:Nat
structure Cx where
 w:World
 F:Nat->Nat->Prop
 ρ:Nat->Option Loc
 old:Nat->Prop
inductive DR(w:World)(F:Nat->Nat->Prop):D->Value->Prop|sc(v:Value)(h1:v.oneCell'=true):DR w F (.sc v) v|er(v:Value)(h1:∃t p,v=.iface t p):DR w F .er v|sl(els:List (List D))(a:Option Addr)(n cap sz b o:Nat)(g:Nat->Nat->Value)(hn:els.length=n)(hcap:n<=cap)(hsz:∀e∈els,e.length=sz)(ha:0<n->a=some ⟨b,o,none⟩)(hF:∀i e j x,els[i]?=some e->e[j]?=some x->F b (o+i*sz+j))(hc:∀i e j x,els[i]?=some e->e[j]?=some x->w.cell? ⟨b,o+i*sz+j,none⟩=some (g i j))(hr:∀i e j x,els[i]?=some e->e[j]?=some x->DR w F x (g i j)):DR w F (.sl els) (.slice a n cap)
def DR.one{w:World}{F:Nat->Nat->Prop}{x:D}{v:Value}(h:DR w F x v):v.oneCell'=true:=by cases h with|sc _ h1=>exact h1|er _ h1=>obtain⟨_,_,rfl⟩:=h1;rfl|sl=>rfl
def eX(w:World)(F R:Nat->Nat->Prop)(els:List (List D))(b o sz:Nat):Prop:=(∀e∈els,e.length=sz)/\∀i e j x,els[i]?=some e->e[j]?=some x->R b (o+i*sz+j)/\∃v,w.cell? ⟨b,o+i*sz+j,none⟩=some v/\DR w F x v
def DR.gF{w:World}{F:Nat->Nat->Prop}{els:List (List D)}{b o sz n cap:Nat}{a:Option Addr}(h:eX w F F els b o sz)(hn:els.length=n)(hcap:n<=cap)(ha:0<n->a=some ⟨b,o,none⟩):DR w F (.sl els) (.slice a n cap):=by classical let g:Nat->Nat->Value:=λi j=>(w.cell? ⟨b,o+i*sz+j,none⟩).getD (.bool false);refine .sl els a n cap sz b o g hn hcap h.1 ha (λi e j x h1 h2=>(h.2 i e j x h1 h2).1) (λi e j x h1 h2=>?_) (λi e j x h1 h2=>?_)<;>grind[eX]
def DR.Z2{w:World}{F:Nat->Nat->Prop}{els:List (List D)}{v:Value}(h:DR w F (.sl els) v):∃a cap sz b o,v=.slice a els.length cap/\els.length<=cap/\(0<els.length->a=some ⟨b,o,none⟩)/\eX w F F els b o sz:=by cases h with|sl _ a n cap sz b o g hn hcap hsz ha hF hc hr=>subst hn;exact⟨a,cap,sz,b,o,rfl,hcap,ha,hsz,λi e j x h1 h2=>⟨hF i e j x h1 h2,_,hc i e j x h1 h2,hr i e j x h1 h2⟩⟩
def aC{α β:Type}(R:α->β->Prop):List α->List β->Prop|[],[]=>True|a::l,b::m=>R a b/\aC R l m|_,_=>False
def aC.length{α β:Type}{R:α->β->Prop}:∀{l:List α}{m:List β},aC R l m->l.length=m.length|[],[],_=>rfl|_::_,_::_,h=>by simp[aC.length h.2]|[],_::_,h=>h.elim|_::_,[],h=>h.elim
def aC.get{α β:Type}{R:α->β->Prop}:∀{l:List α}{m:List β},aC R l m->∀(i:Nat)(a:α),l[i]?=some a->∃b,m[i]?=some b/\R a b|[],[],_,i,a,h=>by simp at h|a::l,b::m,h,0,x,hx=>⟨b,rfl,by grind[aC]⟩|a::l,b::m,h,i+1,x,hx=>by simpa using aC.get h.2 i x (by simpa using hx)|[],_::_,h,_,_,_=>h.elim|_::_,[],h,_,_,_=>h.elim
def aC.mono{α β:Type}{R S:α->β->Prop}(Tl:∀a b,R a b->S a b):∀{l:List α}{m:List β},aC R l m->aC S l m|[],[],_=>trivial|_::_,_::_,h=>⟨Tl _ _ h.1,aC.mono Tl h.2⟩|[],_::_,h=>h.elim|_::_,[],h=>h.elim
def aC.tH{α β:Type}{R:α->β->Prop}:∀{l:List α}{m:List β},l.length=m.length->(∀(i:Nat)(a:α)(b:β),l[i]?=some a->m[i]?=some b->R a b)->aC R l m|[],[],_,_=>trivial|a::l,b::m,hl,h=>⟨h 0 a b rfl rfl,aC.tH (by grind) λi x y hx hy=>h (i+1) x y (by grind) (by grind)⟩|[],_::_,hl,_=>by grind|_::_,[],hl,_=>by grind
def aC.take{α β:Type}{R:α->β->Prop}{l:List α}{m:List β}(h:aC R l m)(k:Nat):aC R (l.take k) (m.take k):=by
 refine .tH (by simp[h.length]) λi a b ha hb=>?_;rw[fa]at ha hb;split at ha;.obtain⟨b',hb',hr⟩:=h.get i a ha<;>grind
 grind
def aC.drop{α β:Type}{R:α->β->Prop}{l:List α}{m:List β}(h:aC R l m)(k:Nat):aC R (l.drop k) (m.drop k):=by refine .tH (by simp[h.length]) λi a b ha hb=>?_;rw[mn]at ha hb;obtain⟨b',hb',hr⟩:=h.get _ a ha<;>grind
def aC.append{α β:Type}{R:α->β->Prop}:∀{l l':List α}{m m':List β},aC R l m->aC R l' m'->aC R (l++l') (m++m')|[],_,[],_,_,h=>h|_::_,_,_::_,_,h,h'=>⟨h.1,aC.append h.2 h'⟩|[],_,_::_,_,h,_=>h.elim|_::_,_,[],_,h,_=>h.elim
def E8(X:Cx):AV->Value->Prop|.d x,v=>DR X.w X.F x v|.own els .full,v=>∃a b o sz,v=.slice a els.length els.length/\(0<els.length->a=some ⟨b,o,none⟩)/\eX X.w X.F X.F els b o sz|.own els (.cR ak tz),v=>∃a b o sz cap,v=.slice a els.length cap/\els.length<=cap/\(0<cap->a=some ⟨b,o,none⟩)/\eX X.w X.F X.F els b o sz/\X.ρ ak=some ⟨b,o+els.length*sz,sz,cap-els.length⟩/\sz=tz|.own els .bG,v=>∃a b o sz cap,v=.slice a els.length cap/\els.length<=cap/\(0<els.length->a=some ⟨b,o,none⟩)/\eX X.w X.F (λb _=>X.old b) els b o sz|.ref _ _ ak off n sz,v=>∃L a cap,X.ρ ak=some L/\L.sz=sz/\v=.slice a n cap/\n<=cap/\(0<cap->a=some ⟨L.b,L.o+off*sz,none⟩/\off+cap<=L.cap)|.ptr _ _ ak i off,v=>∃L,X.ρ ak=some L/\v=.pointer (some ⟨L.b,L.o+i*L.sz+off,none⟩)|.dx _ _ ak off n sz,v=>∃L cap,X.ρ ak=some L/\v=.slice (some ⟨L.b,L.o+off,none⟩) n cap/\n<=cap/\0<n/\(n<cap->off+cap*sz<=L.sz)|.eZ e off,v=>∃b o,v=.pointer (some ⟨b,o+off,none⟩)/\∀j x,e[j]?=some x->(X.F b (o+j)\/X.old b)/\∃u,X.w.cell? ⟨b,o+j,none⟩=some u/\DR X.w X.F x u|.mp _ _ ak,v=>∃L,X.ρ ak=some L/\v=.map (some L.b)|_,_=>False
def VC(X:Cx):AV->Value->Prop|.fG f cap,v=>∃vs,v=.func (.func f) #[] vs/\aC (E8 X) cap vs.toList|x,v=>E8 X x v
def V1(X:Cx):AV->Value->Prop|.agg cs,v=>∃vs,v=.agg vs/\aC (VC X) cs vs.toList|x,v=>VC X x v
def VR(X:Cx):AV->Value->Prop|.fk xs,v=>∃vs,v=.tuple vs/\aC (V1 X) xs vs.toList|x,v=>V1 X x v
def E8.one{X:Cx}{x:AV}{v:Value}(h:E8 X x v):v.oneCell'=true:=by cases x with
 |d x=>exact DR.one h|own els o=>cases o<;>(obtain⟨_,_,_,_,h⟩:=h)<;>first|(obtain⟨rfl,_⟩:=h;rfl)|(obtain⟨_,rfl,_⟩:=h;rfl)
 |ref=>obtain⟨_,_,_,_,_,rfl,_⟩:=h;rfl|ptr=>obtain⟨_,_,rfl⟩:=h;rfl|dx=>obtain⟨_,_,_,rfl,_⟩:=h;rfl|eZ=>obtain⟨_,_,rfl,_⟩:=h;rfl|mp=>obtain⟨_,_,rfl⟩:=h;rfl|_=>exact h.elim
def VC.one{X:Cx}{x:AV}{v:Value}(h:VC X x v):v.oneCell'=true:=by cases x with|fG f c=>obtain⟨_,rfl,_⟩:=h;rfl|_=>simp only[VC]at h;exact E8.one h
structure fq(old:Nat->Prop)(w w':World):Prop where
 os:w'.os=w.os
 tape:w'.tape=w.tape
 output:w'.output=w.output
 size:w.heap.size<=w'.heap.size
 block:∀k,old k->w'.heap[k]?=w.heap[k]?
def fq.toBelow{n:Nat}{w w':World}(h:fq (λb=>b<n) w w'):Below n w w':=⟨h.os,h.tape,h.output,h.size,h.block⟩
def fq.refl(old:Nat->Prop)(w:World):fq old w w:=⟨rfl,rfl,rfl,bc _,λ_ _=>rfl⟩
def fq.trans{old:Nat->Prop}{a b c:World}(h:fq old a b)(k:fq old b c):fq old a c:=⟨k.os.trans h.os,k.tape.trans h.tape,k.output.trans h.output,nf h.size k.size,λi hi=>(k.block i hi).trans (h.block i hi)⟩
def fq.mono{old old':Nat->Prop}{w w':World}(h:fq old w w')(ho:∀b,old' b->old b):fq old' w w':=⟨h.os,h.tape,h.output,h.size,λk hk=>h.block k (ho k hk)⟩
def fq.drew{old:Nat->Prop}{a w:World}(h:fq old a w):fq old a w.drew:=⟨h.os,h.tape,h.output,h.size,h.block⟩
def fq.alloc{old:Nat->Prop}{a w:World}(h:fq old a w)(hB:∀b,old b->b<w.heap.size)(o:Obj):fq old a (w.alloc o):=h.trans ⟨rfl,rfl,rfl,by simp,λk hk=>Go.RowKit.Below.heap_alloc _ _ _ (hB k hk)⟩
def fq.cell{old:Nat->Prop}{w w':World}(h:fq old w w'){p:Addr}(hp:old p.block):w'.cell? p=w.cell? p:=World.cell?_of_block (w:=w) (h.block p.block hp)
def fq.setRow{old:Nat->Prop}{g:Nat}{w0 w:World}(hb:fq old w0 w)(hg:¬old g)(cs:Array Value):fq old w0 (w.setRow g cs):=hb.trans ⟨rfl,rfl,rfl,by simp_all,λk hk=>setRow_other w g k cs (λe=>hg (e▸hk))⟩
structure Ext(X Y:Cx):Prop where
 base:Y.old=X.old
 below:fq X.old X.w Y.w
 TE:∀b o,X.F b o->Y.F b o
 keep:∀b o,X.F b o->Y.w.cell? ⟨b,o,none⟩=X.w.cell? ⟨b,o,none⟩loc:∀v L,X.ρ v=some L->Y.ρ v=some L
 new:∀b o,Y.F b o->X.F b o\/¬X.old b
def Ext.refl(X:Cx):Ext X X:=⟨rfl,fq.refl _ _,λ_ _ h=>h,λ_ _ _=>rfl,λ_ _ h=>h,λ_ _ h=>.inl h⟩
def Ext.trans{X Y Z:Cx}(h:Ext X Y)(k:Ext Y Z):Ext X Z:=⟨k.base.trans h.base,h.below.trans (h.base▸k.below),λb o hb=>k.TE b o (h.TE b o hb),λb o hb=>(k.keep b o (h.TE b o hb)).trans (h.keep b o hb),λv L hv=>k.loc v L (h.loc v L hv),λb o hb=>(k.new b o hb).elim (h.new b o) λhb=>.inr (h.base▸hb)⟩
def DR.ext{X Y:Cx}(hx:Ext X Y){x:D}{v:Value}(h:DR X.w X.F x v):DR Y.w Y.F x v:=by induction h with|sc v h1=>exact .sc v h1|er v h1=>exact .er v h1|sl els a n cap sz b o g hn hcap hsz ha hF hc _ ih=>exact .sl els a n cap sz b o g hn hcap hsz ha (λi e j x h1 h2=>hx.TE _ _ (hF i e j x h1 h2)) (λi e j x h1 h2=>(hx.keep _ _ (hF i e j x h1 h2)).trans (hc i e j x h1 h2)) ih
def eX.ext{X Y:Cx}(hx:Ext X Y){els:List (List D)}{b o sz:Nat}(h:eX X.w X.F X.F els b o sz):eX Y.w Y.F Y.F els b o sz:=⟨h.1,λi e j x h1 h2=>by obtain⟨hF,v,hv,hd⟩:=h.2 i e j x h1 h2;exact⟨hx.TE _ _ hF,v,(hx.keep _ _ hF).trans hv,hd.ext hx⟩⟩
def Ext.FL{X Y:Cx}(hx:Ext X Y){b:Nat}(h:X.old b)(o:Nat):Y.w.cell? ⟨b,o,none⟩=X.w.cell? ⟨b,o,none⟩:=hx.below.cell (p:=⟨b,o,none⟩) h
def E8.ext{X Y:Cx}(hx:Ext X Y){x:AV}{v:Value}(h:E8 X x v):E8 Y x v:=by cases x with
 |d x=>exact DR.ext hx h|own els o=>cases o with|full=>obtain⟨a,b,o,sz,hv,ha,hl⟩:=h;exact⟨a,b,o,sz,hv,ha,hl.ext hx⟩|cR ak tz=>obtain⟨a,b,o,sz,cap,hv,hc,ha,hl,hr,hz⟩:=h;exact⟨a,b,o,sz,cap,hv,hc,ha,hl.ext hx,hx.loc _ _ hr,hz⟩|bG=>obtain⟨a,b,o,sz,cap,hv,hc,ha,hl⟩:=h;refine⟨a,b,o,sz,cap,hv,hc,ha,hl.1,λi e j x h1 h2=>?_⟩;obtain⟨hF,v,hv,hd⟩:=hl.2 i e j x h1 h2;exact⟨by simpa[hx.base]using hF,v,(hx.FL hF _).trans hv,hd.ext hx⟩
 |ref lv sl ak off n sz=>obtain⟨L,a,cap,hr,h⟩:=h;exact⟨L,a,cap,hx.loc _ _ hr,h⟩|ptr lv sl ak i off=>obtain⟨L,hr,h⟩:=h;exact⟨L,hx.loc _ _ hr,h⟩|dx lv sl ak off n sz=>obtain⟨L,cap,hr,h⟩:=h;exact⟨L,cap,hx.loc _ _ hr,h⟩|mp lv sl ak=>obtain⟨L,hr,h⟩:=h;exact⟨L,hx.loc _ _ hr,h⟩|eZ e off=>
  obtain⟨b,o,hv,h⟩:=h;refine⟨b,o,hv,λj x hj=>?_⟩;obtain⟨hF,u,hu,hd⟩:=h j x hj;refine⟨hF.imp (hx.TE _ _) (λh=>by simpa[hx.base]using h),u,?_,hd.ext hx⟩;rcases hF with hF|hF;.exact(hx.keep _ _ hF).trans hu
  .exact(hx.FL hF _).trans hu|_=>exact h
def VC.ext{X Y:Cx}(hx:Ext X Y){x:AV}{v:Value}(h:VC X x v):VC Y x v:=by cases x with|fG f c=>obtain⟨vs,hv,h⟩:=h;exact⟨vs,hv,h.mono λ_ _=>E8.ext hx⟩|_=>simp only[VC]at h⊢;exact E8.ext hx h
def V1.ext{X Y:Cx}(hx:Ext X Y){x:AV}{v:Value}(h:V1 X x v):V1 Y x v:=by cases x with|agg cs=>obtain⟨vs,hv,h⟩:=h;exact⟨vs,hv,h.mono λ_ _=>VC.ext hx⟩|_=>simp only[V1]at h⊢;exact VC.ext hx h
def VR.ext{X Y:Cx}(hx:Ext X Y){x:AV}{v:Value}(h:VR X x v):VR Y x v:=by cases x with|fk cs=>obtain⟨vs,hv,h⟩:=h;exact⟨vs,hv,h.mono λ_ _=>V1.ext hx⟩|_=>simp only[VR]at h⊢;exact V1.ext hx h
def bq.ak:bq->Nat|.row v _=>v|.box v _=>v|.MY v _=>v|.mp v _=>v
def bq.fz:bq->Bool|.MY _ _=>true|_=>false
def Block(X:Cx)(b n:Nat):Prop:=¬X.old b/\∃c e,X.w.heap[b]?=some (.cells c e (0,0))/\n<=c.size
def HQ(es:Array MapEntry)(ks:List (List UInt8)):Prop:=es.toList.map (λe=>(e.key,e.val))=ks.map λl=>(Value.string (od l),Value.bool true)
def oV(X:Cx):bq->Loc->Prop|.row _ els,L=>els.length<=L.cap/\(∀e∈els,e.length=L.sz)/\(0<L.cap->Block X L.b (L.o+L.cap*L.sz)/\(∀o,¬X.F L.b o))/\∀i e j x,els[i]?=some e->e[j]?=some x->∃v,X.w.cell? ⟨L.b,L.o+i*L.sz+j,none⟩=some v/\DR X.w X.F x v|.box _ cells,L=>L.cap=1/\Block X L.b (L.o+max cells.length L.sz)/\(∀o,¬X.F L.b o)/\∀j x,cells[j]?=some x->∃v,X.w.cell? ⟨L.b,L.o+j,none⟩=some v/\VC X x v|.MY _ els,L=>els.length<=L.cap/\eX X.w X.F X.F els L.b L.o L.sz|.mp _ ks,L=>L.cap=1/\¬X.old L.b/\(∀o,¬X.F L.b o)/\∃es clock,X.w.heap[L.b]?=some (.map es clock)/\HQ es ks
def TF(X:Cx)(L:Loc):Prop:=0<L.cap->Block X L.b (L.o+L.cap*L.sz)/\∀o,L.o<=o->¬X.F L.b o
def Holds(m:List (Tr bq))(t:Tr Unit)(k:Nat×Nat×Nat)(v:Nat):Prop:=(∃lv sl e,k=bU lv sl/\aH m lv sl=some e/\e.ak=v/\e.fz=false)\/(k=ku v/\t.get? v=some ())
structure Low(X:Cx):Prop where
 lt:∀b,X.old b->b<X.w.heap.size
 gb:∀b,M6 b->X.old b
 gk:gok X.w
def Low.ext{X Y:Cx}(h:Low X)(hx:Ext X Y):Low Y:=⟨by rw[hx.base];exactλb hb=>iv (h.lt b hb) hx.below.size,λb hb=>by rw[hx.base];exact h.gb b hb,FK (λb hb=>hx.below.block b (h.gb b hb)) h.gk⟩
structure aF(X:Cx)(m:List (Tr bq))(t:Tr Unit):Prop where
 fE:∀lv sl e,aH m lv sl=some e->∃L,X.ρ e.ak=some L/\oV X e L
 aI:∀v,t.get? v=some ()->∃L,X.ρ v=some L/\TF X L
 apart:∀k k' v v' L L',Holds m t k v->Holds m t k' v'->k≠k'->X.ρ v=some L->X.ρ v'=some L'->0<L.cap->0<L'.cap->L.b≠L'.b
 nG:∀b o,X.F b o->b<X.w.heap.size
 pX:Low X
def aF.low{X:Cx}{m:List (Tr bq)}{t:Tr Unit}(h:aF X m t):∀b,X.old b->b<X.w.heap.size:=h.pX.lt
def aF.fresh{X:Cx}{m:List (Tr bq)}{t:Tr Unit}(h:aF X m t):¬X.old X.w.heap.size:=λq=>mr _ (h.low _ q)
def Block.lt{X:Cx}{b n:Nat}(h:Block X b n):b<X.w.heap.size:=by grind[Block]
def Block.cell{X:Cx}{b n:Nat}(h:Block X b n)(o:Nat)(ho:o<n):∃v,X.w.cell? ⟨b,o,none⟩=some v:=by obtain⟨_,c,e,h,hn⟩:=h;rw[cell_of_row _ _ _ _ _ _ h];exact⟨_,pr (by omega)⟩
def aF.congr{X:Cx}{m m':List (Tr bq)}{t t':Tr Unit}(h:aF X m t)(hm:∀lv sl,aH m' lv sl=aH m lv sl)(ht:∀v,t'.get? v=t.get? v):aF X m' t':=by
 have hh:∀k v,Holds m' t' k v->Holds m t k v:=by grind[Tr.get?,aH,Holds]
 exact⟨λlv sl e he=>h.fE lv sl e ((hm lv sl)▸he),λv hv=>h.aI v ((ht v)▸hv),λk k' v v' L L' a b=>h.apart k k' v v' L L' (hh _ _ a) (hh _ _ b),h.nG,h.pX⟩
def aF.less{X:Cx}{m m':List (Tr bq)}{t t':Tr Unit}(h:aF X m t)(hm:∀lv sl e,aH m' lv sl=some e->aH m lv sl=some e)(ht:∀v,t'.get? v=some ()->t.get? v=some ()):aF X m' t':=by
 have hh:∀k v,Holds m' t' k v->Holds m t k v:=by grind[Tr.get?,aH,Holds]
 exact⟨λlv sl e he=>h.fE lv sl e (hm _ _ _ he),λv hv=>h.aI v (ht _ hv),λk k' v v' L L' a b=>h.apart k k' v v' L L' (hh _ _ a) (hh _ _ b),h.nG,h.pX⟩
def aF.move{X Y:Cx}{m:List (Tr bq)}{t:Tr Unit}(h:aF X m t)(hx:Ext X Y)(hb:∀k v L,Holds m t k v->X.ρ v=some L->0<L.cap->Y.w.heap[L.b]?=X.w.heap[L.b]?)(hF:∀k v L o,Holds m t k v->X.ρ v=some L->0<L.cap->Y.F L.b o->X.F L.b o)(hin:∀b o,Y.F b o->b<Y.w.heap.size):aF Y m t:=by
 have blk:∀b n,Y.w.heap[b]?=X.w.heap[b]?->Block X b n->Block Y b n:=by rintro b n he⟨h1,c,e,h2,h3⟩;exact⟨by rw[hx.base];exact h1,c,e,by rw[he];exact h2,h3⟩
 have cel:∀b o,Y.w.heap[b]?=X.w.heap[b]?->Y.w.cell? ⟨b,o,none⟩=X.w.cell? ⟨b,o,none⟩:=by intro b o he;simp[World.cell?,he]
 refine⟨λlv sl e he=>?_,λv hv=>?_,λk k' v v' L L' a b hne hv nh=>?_,hin,?_⟩
 .obtain⟨L,hL,hE⟩:=h.fE lv sl e he;have hk:e.fz=false->Holds m t (bU lv sl) e.ak:=λhz=>.inl ⟨lv,sl,e,rfl,he,rfl,hz⟩
  refine⟨L,hx.loc _ _ hL,?_⟩;cases e with|MY v els=>exact⟨hE.1,hE.2.ext hx⟩|mp v ks=>
   have hk:=hk rfl;obtain⟨h1,h2,h3,es,clock,h4,h5⟩:=hE;have hc:0<L.cap:=by omega
   exact⟨h1,by rw[hx.base];exact h2,λo ho=>h3 o (hF _ _ _ _ hk hL hc ho),es,clock,(hb _ _ _ hk hL hc).trans h4,h5⟩|row v els=>
   have hk:=hk rfl;obtain⟨h1,h2,h3,h4⟩:=hE;refine⟨h1,h2,λhc=>⟨blk _ _ (hb _ _ _ hk hL hc) (h3 hc).1,λo ho=>(h3 hc).2 o (hF _ _ _ _ hk hL hc ho)⟩,λi e j x hi hj=>?_⟩;have hc:0<L.cap:=by have:i<els.length:=(cb.1 hi).1;omega
   obtain⟨u,hu,hd⟩:=h4 i e j x hi hj;exact⟨u,(cel _ _ (hb _ _ _ hk hL hc)).trans hu,hd.ext hx⟩|box v cells=>
   have hk:=hk rfl;obtain⟨h1,h2,h3,h4⟩:=hE;have hc:0<L.cap:=by omega
   refine⟨h1,blk _ _ (hb _ _ _ hk hL hc) h2,λo ho=>h3 o (hF _ _ _ _ hk hL hc ho),λj x hj=>?_⟩;obtain⟨u,hu,hd⟩:=h4 j x hj;exact⟨u,(cel _ _ (hb _ _ _ hk hL hc)).trans hu,hd.ext hx⟩
 .obtain⟨L,hL,hT⟩:=h.aI v hv;have hk:Holds m t (ku v) v:=.inr ⟨rfl,hv⟩;exact⟨L,hx.loc _ _ hL,λhc=>⟨blk _ _ (hb _ _ _ hk hL hc) (hT hc).1,λo ho hf=>(hT hc).2 o ho (hF _ _ _ _ hk hL hc hf)⟩⟩
 .have ho:∀k v,Holds m t k v->∃L,X.ρ v=some L:=by
   rintro k v(⟨lv,sl,e,_,he,rfl,_⟩|⟨_,he⟩);.obtain⟨L,hL,_⟩:=h.fE lv sl e he;exact⟨L,hL⟩
   .obtain⟨L,hL,_⟩:=h.aI v he;exact⟨L,hL⟩
  obtain⟨M,hM⟩:=ho _ _ a;obtain⟨M',kR⟩:=ho _ _ b;rw[hx.loc _ _ hM]at hv;rw[hx.loc _ _ kR]at nh;simp_all;subst hv;subst nh;exact h.apart k k' v v' M M' a b hne hM kR
 .exact h.pX.ext hx
def aF.erase{X:Cx}{m:List (Tr bq)}{t:Tr Unit}(h:aF X m t)(lv sl:Nat):aF X (bJ m lv sl none) t:=h.less (λcy cU e he=>by rw[cO]at he<;>grind) λ_ h=>h
def aF.M7{X:Cx}{m:List (Tr bq)}{t:Tr Unit}(h:aF X m t)(v:Nat):aF X m (t.set v none):=h.less (λ_ _ _ h=>h) λv' he=>by rw[Tr.cK]at he<;>grind
def tI{a b c d:Nat}(h:bU a b=bU c d):a=c/\b=d:=by simpa[bU]using h
def dW{a b c:Nat}:bU a b≠ku c:=by simp[bU,ku]
def aF.add{X:Cx}{m:List (Tr bq)}{t:Tr Unit}{lv sl:Nat}{e:bq}{L:Loc}(h:aF X m t)(hL:X.ρ e.ak=some L)(hE:oV X e L)(hap:∀k v M,Holds m t k v->k≠bU lv sl->X.ρ v=some M->0<M.cap->0<L.cap->M.b≠L.b):aF X (bJ m lv sl (some e)) t:=by
 have hh:∀k v,Holds (bJ m lv sl (some e)) t k v->(k=bU lv sl/\v=e.ak)\/(k≠bU lv sl/\Holds m t k v):=by
  rintro k v(⟨cy,cU,e',hk,he,hv⟩|⟨hk,he⟩)
  .rw[cO]at he;split at he;.subst_vars;simp_all
   .by_cases hke:k=bU lv sl
    .rename_i hc;rw[hk]at hke;obtain⟨rfl,rfl⟩:=tI hke;exfalso;apply hc;refine⟨rfl,rfl,?_⟩;unfold aH at he;rcases im cy m.length with hl|hl;.exact hl
     .rw[d8 hl]at he;cases he
    .exact .inr ⟨hke,.inl ⟨cy,cU,e',hk,he,hv⟩⟩
  .exact .inr ⟨by rw[hk];exactλh=>dW h.symm,.inr ⟨hk,he⟩⟩
 refine⟨λcy cU e' he=>?_,h.aI,λk k' v v' M M' a b hne hv nh hc E9=>?_,h.nG,h.pX⟩
 .rw[cO]at he;split at he;.simp_all
  .exact h.fE cy cU e' he
 .rcases hh _ _ a with⟨rfl,rfl⟩|⟨hk,a⟩
  .rcases hh _ _ b with⟨rfl,rfl⟩|⟨hk',b⟩;.exact absurd rfl hne
   .rw[hL]at hv;cases hv;exact(hap _ _ _ b hk' nh E9 hc).symm
  .rcases hh _ _ b with⟨rfl,rfl⟩|⟨hk',b⟩;.rw[hL]at nh;cases nh;exact hap _ _ _ a hk hv hc E9
   .exact h.apart k k' v v' M M' a b hne hv nh hc E9
def aF.Z3{X:Cx}{m:List (Tr bq)}{t:Tr Unit}{v:Nat}{L:Loc}(h:aF X m t)(hL:X.ρ v=some L)(hE:TF X L)(hap:∀k u M,Holds m t k u->k≠ku v->X.ρ u=some M->0<M.cap->0<L.cap->M.b≠L.b):aF X m (t.set v (some ())):=by
 have hh:∀k u,Holds m (t.set v (some ())) k u->(k=ku v/\u=v)\/(k≠ku v/\Holds m t k u):=by
  rintro k u(⟨cy,cU,e',hk,he,hv⟩|⟨hk,he⟩);.exact .inr ⟨by rw[hk];exact dW,.inl ⟨cy,cU,e',hk,he,hv⟩⟩
  .rw[Tr.cK]at he<;>grind[Tr.set,Tr.get?,TF,Holds,ku]
 refine⟨h.fE,λu hu=>?_,λk k' u u' M M' a b hne hv nh hc E9=>?_,h.nG,h.pX⟩
 .rw[Tr.cK]at hu;split at hu;.subst_vars;exact⟨L,hL,hE⟩
  .exact h.aI u hu
 .rcases hh _ _ a with⟨ek,ev⟩|⟨hk,a⟩
  .rcases hh _ _ b with⟨ek',ev'⟩|⟨hk',b⟩;.exact absurd (ek.trans ek'.symm) hne
   .rw[ev,hL]at hv;cases hv;exact(hap _ _ _ b hk' nh E9 hc).symm
  .rcases hh _ _ b with⟨ek',ev'⟩|⟨hk',b⟩;.rw[ev',hL]at nh;cases nh;exact hap _ _ _ a hk hv hc E9
   .exact h.apart k k' u u' M M' a b hne hv nh hc E9
end Go.bK
namespace Go.bK
open Go
def jj:Value->Option AV
 |.slice none 0 0=>some (.own [] .full)|.slice _ _ _=>none|.agg _=>none|.tuple _=>none|.func fn first cap=>match fn with|.func f=>if first.size=0/\cap.size=0then some (.fG f [])else none|_=>none
 |v=>some (.d (.sc v))
def gp:List Value->Option (List AV)|[]=>some []|v::r=>match jj v,gp r with|some x,some xs=>some (x::xs)|_,_=>none
def vX:Value->Option AV|.agg cs=>(gp cs.toList).map .agg|.tuple vs=>if vs.size=0then some (.fk [])else none|v=>jj v
def vY:Value->Option D|.slice none 0 0=>some (.sl [])|.slice _ _ _=>none|.agg _=>none|.tuple _=>none|.func _ _ _=>none|v=>some (.sc v)
def jT:List Value->Option (List D)|[]=>some []|v::r=>match vY v,jT r with|some x,some xs=>some (x::xs)|_,_=>none
def dD:Operand->Option cu|.tmp t=>some (.t t)|.const v=>(vX v).map .c|.func f=>some (.c (.fG f []))|.global _=>none
def jx:List Operand->Option (List cu)|[]=>some []|x::r=>match dD x,jx r with|some y,some ys=>some (y::ys)|_,_=>none
def rQ:Option Operand->Option (Option cu)|none=>some none|some x=>(dD x).map some
def oW(P:Program)(t:TypeId):Option Bool:=match P.underlying t with|some (.struct _)|some (.array _ _)=>some true|some _=>some false|none=>none
def oX(P:Program)(t:TypeId):Option (List Value):=(P.info? t).bind λi=>i.zero.map λv=>v.cells.toList
def dZ(P:Program)(t:TypeId):Option Nat:=(P.info? t).map (·.size)
def p4(P:Program):Nat->TypeId->Nat->Option (List (Nat×Nat))|0,_,_=>none|n+1,t,off=>match dZ P t,P.underlying t with|some 1,some .bool=>some [(off,0)]|some 1,some (.int _)=>some [(off,1)]|some 1,some .string=>some [(off,2)]|some sz,some (.struct fs)=>if P.stoodInHeld t then none else fs.toList.foldr (λf acc=>match acc,dZ P f.type with|some l,some fz=>if f.name= "_"\/sz<f.offset+fz then none else(p4 P n f.type (off+f.offset)).map (·++l)|_,_=>none) (some [])|_,_=>none
def tJ(place:Nat->Option (Nat×Nat)):List (Nat×Operand)->Option (List (Nat×Nat×cu))|[]=>some []|(i,x)::r=>match place i,dD x,tJ place r with|some (off,sz),some y,some ys=>some ((off,sz,y)::ys)|_,_,_=>none
def HR(P:Program)(fs:Array Field):Option (List (Nat×Nat)):=fs.toList.mapM λf=>(P.info? f.type).map λi=>(f.offset,i.size)
def p6:List (Nat×Operand)->Option (List (Nat×cu))|[]=>some []|(i,x)::r=>match dD x,p6 r with|some y,some ys=>some ((i,y)::ys)|_,_=>none
def Pj(P:Program)(op:BinOp)(neg:Bool)(t:TypeId)(x y:cu):Option cF:=match P.underlying t with
 |some .bool=>some (.ZZ neg x y)|some (.int _)|some .string=>some (.bin op x y)|some (.slice _)=>some .bad|some (.interface _)=>match y with|.c (.d (.sc .nilIface))=>some (.Aq neg x)|_=>none
 |some (.struct _)=>if P.eqGuardType P.depth t then none else match p4 P 20 t 0,dZ P t with|some l,some sz=>some (.QV neg sz l x y)|_,_=>none
 |_=>none
def tK(P:Program)(t:TypeId):Option (Nat×Nat):=match P.underlying t with
 |some (.slice e)=>match P.info? e,oX P e with|some i,some z=>if 0<i.size/\z.length=i.size then some (i.size,i.bytes)else none|_,_=>none
 |_=>none
def TG(P:Program):Nat->TypeId->Bool|0,_=>false|n+1,t=>match P.underlying t with|some .bool|some (.int _)|some .string=>true|some (.struct fs)=>fs.toList.all λf=>TG P n f.type|some (.array _ e)=>TG P n e|_=>false
def ajq(P:Program)(f:Nat):Bool:=match P.funcs[f]?with|some fn=>fn.resultTypes.toList.all (TG P 20)|none=>false
def arz(P:Program)(f:Nat):Bool:=match P.funcs[f]?with
 |some fn=>match fn.params.toList with
  |t::_=>match P.underlying t with|some (.pointer _)=>true|_=>false
  |[]=>false
 |none=>false
def TH(P:Program)(dw:Nat->Option TypeId)(c:Go.Call):Option cF:=match c.callee with
 |.value (.func f)=>match dw f,c.args.toList with
  |some t,[x]=>match Nat.beq t 1000000with|true=>(dD x).map .sort|false=>match Nat.beq t 1000001with|true=>(dD x).map .compact|false=>match tK P t,dD x with|some (sz,xh),some x=>some (.clone sz xh x)|_,_=>none
  |some _,_=>none|none,_=>match ajq P f&&!arz P f with|true=>(jx c.args.toList).map (.xk f)|false=>(jx c.args.toList).map (.call f)
 |.value (.tmp t)=>(jx c.args.toList).map (.Ar (.t t))|.value _=>none|.invoke _ _=>none|.builtin b=>match b,c.args.toList,c.argTypes.toList with
  |.len,[x],[t]=>match P.underlying t with
   |some (.slice _)=>(dD x).map .len|some .string=>(dD x).map .HK|some (.array n _)=>some (.Fg n)|some (.pointer e)=>match P.underlying e with|some (.array n _)=>some (.Fg n)|_=>none
   |_=>none
  |.append,[x,y],[t,u]=>match P.underlying t,P.underlying u with|some (.slice e),some (.int _)=>(match tK P t,(oX P e).bind jT,dD x,dD y with|some (sz,xh),some z,some x,some y=>if z.length=sz then some (.pZ sz xh z x y)else none|_,_,_,_=>none)|_,some (.int _)=>none|_,some (.slice _)=>(match tK P t,dD x,dD y with|some (sz,xh),some x,some y=>some (.append sz xh x y)|_,_,_=>none)|_,some .string=>(match tK P t,dD x,dD y with|some (sz,xh),some x,some y=>some (.append sz xh x y)|_,_,_=>none)|_,_=>none
  |.copy,[x,y],[t,_]=>match P.underlying t with
   |some (.slice e)=>match P.info? e,dD x,dD y with|some i,some x,some y=>if 0<i.size then some (.copy i.size x y)else none|_,_,_=>none
   |_=>none
  |.clear,[x],[t]=>match P.underlying t with
   |some (.slice e)=>match dZ P e,(oX P e).bind jT,dD x with|some sz,some z,some x=>if z.length=sz/\0<sz then some (.clear sz z x)else none|_,_,_=>none
   |_=>none
  |.cap,[x],[t]=>match P.underlying t with|some (.slice _)=>(dD x).map .JJ|_=>none
  |.min,[x,y],_=>match dD x,dD y with|some x,some y=>some (.HL x y)|_,_=>none
  |.max,[x,y],_=>match dD x,dD y with|some x,some y=>some (.HM x y)|_,_=>none
  |_,_,_=>none
def Fa(P:Program)(dw:Nat->Option TypeId):Go.Op->Option cF
 |.move x|.assign x=>(dD x).map .JI|.pick c a b=>match dD c,dD a,dD b with|some c,some a,some b=>some (.pick c a b)|_,_,_=>none
 |.alloc t=>(oX P t).bind λz=>(gp z).map .alloc|.box _ x=>(dD x).map .box|.build t ps=>match oX P t,P.underlying t with
  |some z,some (.struct fs)=>match gp z,HR P fs with|some z,some pl=>(tJ (pl.toArray[·]?) ps.toList).map (.build z)|_,_=>none
  |some z,some (.array _ e)=>match gp z,dZ P e with|some z,some sz=>(tJ (λi=>some (i*sz,sz)) ps.toList).map (.build z)|_,_=>none
  |_,_=>none
 |.buildSlice t n ps=>match P.underlying t with
  |some (.slice e)=>match dZ P e,(oX P e).bind jT,p6 ps.toList with|some sz,some z,some l=>if n*sz<=16777216/\z.length=sz/\0<sz then some (.buildSlice sz n z l)else none|_,_,_=>none
  |_=>none
 |.load t x=>match dZ P t,oW P t,dD x with|some sz,some agg,some x=>if agg\/sz=1then some (.load sz agg x)else none|_,_,_=>none
 |.store t x v=>match dZ P t,dD x,dD v with|some sz,some x,some v=>some (.store sz x v)|_,_,_=>none
 |.nilCheck x=>(dD x).map .nilCheck|.binOp op t x y _=>match dD x,dD y with
  |some x,some y=>match op with|.eql=>Pj P op false t x y|.neq=>Pj P op true t x y|op=>some (.bin op x y)
  |_,_=>none
 |.unOp op _ x=>(dD x).map (.un op)|.convert src dst x=>match P.underlying src,P.underlying dst with
  |some _,some (.int k)=>(dD x).map (.conv k)|some (.slice e),some .string=>match P.underlying e with|some (.int .u8)=>(dD x).map .b2s|_=>none
  |some .string,some (.slice e)=>match P.underlying e with|some (.int .u8)=>(dD x).map .s2b|_=>none
  |_,_=>none
 |.field t x f=>match P.underlying t with
  |some (.struct fs)=>match fs[f]?with
   |some f=>match dZ P f.type,oW P f.type,dD x with|some sz,some agg,some x=>if agg\/sz=1then some (.field f.offset sz agg x)else none|_,_,_=>none
   |none=>none
  |_=>none
 |.fieldAddr t x f=>match P.underlying t with
  |some (.struct fs)=>match fs[f]?with
   |some f=>match dZ P f.type,dD x with|some sz,some x=>if sz=0then none else some (.fieldAddr f.offset x)|_,_=>none
   |none=>none
  |_=>none
 |.indexAddr t x i=>match P.underlying t with
  |some (.slice e)=>match dZ P e,dD x,dD i with|some sz,some x,some i=>if sz=0then none else some (.indexAddr sz x i)|_,_,_=>none
  |some (.array n e)=>match dZ P e,dD x,dD i with|some sz,some x,some i=>some (.lG n sz x i)|_,_,_=>none
  |_=>none
 |.index t x i=>match P.underlying t with
  |some (.array n e)=>match dZ P e,oW P e,dD x,dD i with|some sz,some agg,some x,some i=>if agg\/sz=1then some (.rK n sz agg x i)else none|_,_,_,_=>none
  |some .string=>match dD x,dD i with|some x,some i=>some (.rL x i)|_,_=>none
  |_=>none
 |.slice t x lo hi mx=>match P.underlying t with
  |some (.slice e)=>match dZ P e,dD x,rQ lo,rQ hi,rQ mx with|some sz,some x,some lo,some hi,some mx=>if sz=0\/(mx.isSome/\hi.isNone)then none else some (.slice sz x lo hi mx)|_,_,_,_,_=>none
  |some (.array n e)=>match lo,hi,mx,dZ P e,dD x with|none,none,none,some sz,some x=>if n=0then none else some (.sliceB n sz x)|some (.const (.int .i64 k)),none,none,some sz,some x=>if 0<=k then some (.tC k.toNat n sz x)else none|_,_,_,_,_=>none
  |some .string=>match dD x,rQ lo,rQ hi,mx with|some x,some lo,some hi,none=>some (.rM x lo hi)|_,_,_,_=>none
  |_=>none
 |.extract x i=>(dD x).map λx=>.extract x i|.makeFunc fn first cap=>match fn with|.func f=>if first.size=0then(jx cap.toList).map (.makeFunc f)else none|_=>none
 |.makeSlice t l c=>match P.underlying t with
  |some (.slice e)=>match P.info? e,(oX P e).bind jT,dD l,dD c with|some i,some z,some l,some c=>if 0<i.size then some (.makeSlice i.size i.bytes z l c)else none|_,_,_,_=>none
  |_=>none
 |.makeMap t none=>match P.underlying t with
  |some (.map k e)=>match P.underlying k,P.underlying e with|some .string,some .bool=>some .mkSet|_,_=>none
  |_=>none
 |.lookup t m x false=>match P.underlying t with
  |some (.map k e)=>match P.underlying k,(P.info? e).bind (·.zero),dD m,dD x with|some .string,some (.bool false),some m,some x=>some (.JK m x)|_,_,_,_=>none
  |_=>none
 |.mapUpdate t m x v=>match v,P.underlying t with
  |.const (.bool true),some (.map k _)=>match P.underlying k,dD m,dD x with|some .string,some m,some x=>some (.JL m x)|_,_,_=>none
  |_,_=>none
 |.call c=>TH P dw c|.panic _=>some .bad|.makeInterface _ _=>some .bad|_=>none
def gdP(ops:Array Oper):Option (Nat×Bool)->Option (Option (Nat×Bool))|none=>some none|some (j,b)=>((ops[j]?).bind (·.dst)).map λd=>some (d,b)
def acN(P:Program)(dw:Nat->Option TypeId)(nt:Nat)(rows:List (Nat×Nat))(ops:Array Oper)(oS:Nat)(o:Oper):Option bI:=match Fa P dw o.op,gdP ops o.guard with|some a,some g=>if(o.dst.getD 0)<nt then some {dst:=o.dst,op:=a,gd:=g,oS:=oS,row:=(rows.lookup (o.dst.getD 0)).getD 0}else none|_,_=>none
def zb(P:Program)(dw:Nat->Option TypeId)(nt:Nat)(rows:List (Nat×Nat))(ops:Array Oper):List (Oper×Nat)->Option (List bI)|[]=>some []|(o,b)::r=>match acN P dw nt rows ops b o,zb P dw nt rows ops r with|some a,some aK=>some (a::aK)|_,_=>none
def cF.jx:cF->List cu|.JI x|.box x|.Aq _ x|.nilCheck x|.un _ x|.conv _ x|.field _ _ _ x|.fieldAddr _ x|.extract x _|.len x|.HK x|.JJ x|.b2s x|.s2b x|.sliceB _ _ x|.tC _ _ _ x|.clear _ _ x|.clone _ _ x|.sort x|.compact x|.load _ _ x=>[x]|.pick a b c=>[a,b,c]|.build _ ps=>ps.map (·.2.2)|.buildSlice _ _ _ ps=>ps.map (·.2)|.store _ x y|.bin _ x y|.ZZ _ x y|.QV _ _ _ x y|.indexAddr _ x y|.lG _ _ x y|.rK _ _ _ x y|.rL x y|.HL x y|.HM x y|.append _ _ x y|.pZ _ _ _ x y|.copy _ x y|.makeSlice _ _ _ x y|.grow _ x y|.JK x y|.JL x y=>[x,y]|.slice _ x a b c=>x::(a.toList++b.toList++c.toList)|.rM x a b=>x::(a.toList++b.toList)|.makeFunc _ l|.call _ l|.xk _ l=>l|.Ar x l=>x::l|.alloc _|.Fg _|.mkSet|.bad=>[]
def cu.slot:cu->List Nat|.t n=>[n]|.c _=>[]
def bI.looks(o:bI):List Nat:=o.op.jx.flatMap cu.slot++(match o.gd with|some (g,_)=>[g]|none=>[])
def M8(l:List Nat)(n:Nat):Bool:=l.any λm=>Nat.beq m n
def Cz(d:Option Nat)(y:bI):Bool:=match d with|some d=>!M8 y.looks d|none=>true
def Pk(d e:Option Nat):Bool:=match d,e with|some d,some e=>!Nat.beq d e|_,_=>true
def bI.apart(x y:bI):Bool:=Cz x.dst y&&Cz y.dst x&&Pk x.dst y.dst
def B1(y:bI):Nat->List bI->Bool|_,[]=>true|i,x::r=>(y.oS.testBit i||x.apart y)&&B1 y (i+1) r
def nH(eR:List bI):List bI->Bool|[]=>true|y::r=>B1 y 0 eR&&nH (eR++[y]) r
def Edge.HS(e:Edge):Bool:=Region.binds .any e
def ajr(eR:List Nat)(o:Oper):Nat:=o.after.toList.foldl (λb e=>if Edge.HS e then(b|||(1<<<e.on))|||eR.getD e.on 0 else b) 0
def ajs(eR:List Nat):List Oper->List Nat|[]=>eR|o::r=>ajs (eR++[ajr eR o]) r
def HT(oS:List Nat)(i:Nat)(o:Oper)(b:Nat):Bool:=(o.after.toList.all λe=>!Edge.HS e||Nat.blt e.on i)&&(List.range i).all λj=>!b.testBit j||o.after.toList.any λe=>Edge.HS e&&(Nat.beq e.on j||(Nat.blt j e.on&&(oS.getD e.on 0).testBit j))
def FM(oS:List Nat):Nat->List Oper->List Nat->Bool|_,[],_=>true|i,o::r,b::bs=>HT oS i o b&&FM oS (i+1) r bs|_,_::_,[]=>false
def Z4(P:Program)(dw:Nat->Option TypeId)(nt:Nat)(rows:List (Nat×Nat))(ops:Array Oper)(draw:Bool):Option AC:=match draw with|false=>(zb P dw nt rows ops (ops.toList.map λo=>(o,0))).map λl=>.region l false|true=>let b:=ajs [] ops.toList;match b.length==ops.size&&FM b 0 ops.toList b,zb P dw nt rows ops (ops.toList.zip b)with|true,some l=>if nH [] l then some (.region l true)else none|_,_=>none
def gb:Nat:=4294967296
def gid(l:Nat):Nat:=gb+2*l
def BQ(l:Nat):Nat:=gb+2*l+1
def leaves(p:Nat->Bool):AC->Bool|.seq a b=>leaves p a&&leaves p b|.cond _ a b=>leaves p a&&leaves p b|.block _ c=>leaves p c|.loop c=>leaves p c|.exit id=>p id|_=>true
def aem:Code->Option Nat|.label l=>some l|_=>none
def acO:Code->Option Nat
 |.seq a b=>match aem a with|some l=>some l|none=>acO b
 |_=>none
def TI(l:Nat)(c:AC):Option AC:=match leaves (λid=>Nat.blt id gb||Nat.beq id (gid l)) c with|true=>some (.block (BQ l) (.loop (.block (gid l) (.seq c (.exit (BQ l))))))|false=>none
def eB(P:Program)(dw:Nat->Option TypeId)(nt:Nat)(rows:List (Nat×Nat)):Code->Option Nat->Option AC
 |.seq a b,some l=>match aem a with
  |some l'=>match Nat.beq l' l,eB P dw nt rows b none with|true,some c=>TI l c|_,_=>none
  |none=>match findLabel a l,eB P dw nt rows a none,eB P dw nt rows b (some l)with|none,some a,some b=>if leaves (λid=>Nat.blt id gb) a then some (.seq a b)else none|_,_,_=>none
 |.skip,none=>some .skip|.region _ ops draw,none=>Z4 P dw nt rows ops draw|.seq a b,none=>match eB P dw nt rows a none,eB P dw nt rows b none with|some a,some b=>some (.seq a b)|_,_=>none
 |.cond c a b,none=>match dD c,eB P dw nt rows a none,eB P dw nt rows b none with|some c,some a,some b=>some (.cond c a b)|_,_,_=>none
 |.block id c,none=>match Nat.blt id gb with|true=>(eB P dw nt rows c none).map (.block id)|false=>none
 |.loop c,none=>(eB P dw nt rows c none).map .loop|.exit id,none=>match Nat.blt id gb with|true=>some (.exit id)|false=>none
 |.goto l,none=>some (.exit (gid l))|.scope c,none=>match acO c with|some l=>eB P dw nt rows c (some l)|none=>none
 |.ret,none=>some .ret|_,_=>none
def TJ(P:Program)(dw:Nat->Option TypeId)(nt:Nat)(rows:List (Nat×Nat))(c:Code):Option AC:=eB P dw nt rows c none
def aen(P:Program):ResultVar->Option BN|.tmp t=>some (.t t)|.cell a t=>match dZ P t,oW P t with|some sz,some agg=>if agg\/sz=1then some (.cell a sz agg)else none|_,_=>none
def FN(P:Program):List ResultVar->Option (List BN)|[]=>some []|x::r=>match aen P x,FN P r with|some y,some ys=>some (y::ys)|_,_=>none
structure Mode where rows:List (Nat×Nat)sh:Bool deriving Inhabited
def QW(P:Program)(dw:Nat->Option TypeId)(md:Nat->Mode)(f:Nat):Option qu:=match P.funcs[f]?with|none=>none|some fn=>match fn.body with|none=>none|some c=>if fn.name== "runtime.NumGoroutine"then none else match TJ P dw fn.ntmps (md f).rows c,FN P fn.results.toList with|some b,some rs=>let np:=fn.params.size+fn.nfree;if np<=fn.ntmps then some {np,nt:=fn.ntmps,res:=rs,body:=b,sh:=(md f).sh}else none|_,_=>none
end Go.bK
namespace Go.bK
open Go Go.RowKit
def VR.sc{X:Cx}{u v:Value}(h:VR X (.d (.sc u)) v):v=u:=by cases h;rfl
def VR.CA{X:Cx}{v:Value}(h:v.oneCell'=true):VR X (.d (.sc v)) v:=DR.sc v h
def VR.nC{X:Cx}{v:Value}(h:v.oneCell'=true):VR X (nC v) v:=DR.sc v h
def xo{X:Cx}{v:Value}{x:AV}(h:jj v=some x):VC X x v:=by cases v with
 |slice a n c=>
    simp[jj]at h;split at h;.rename_i hv;cases hv;cases h;exact⟨none,0,0,0,rfl,λh=>absurd h (by simp),by simp,λi e j x h=>by simp at h⟩
    all_goals first|(cases h;done)|simp_all
 |agg cs=>simp[jj]at h|tuple cs=>simp[jj]at h|func fn first cap=>
    simp only[jj]at h;split at h
    . split at h;.rename_i h0;cases h;obtain⟨h1,h2⟩:=h0;rw[Array.size_eq_zero_iff]at h1 h2;subst h1;subst h2;exact⟨#[],rfl,trivial⟩
      grind
    grind|_=>simp only[jj]at h;injection h with h;subst h;exact DR.sc _ rfl
def ni{X:Cx}:∀{vs:List Value}{xs:List AV},gp vs=some xs->aC (VC X) xs vs
 |[],xs,h=>by grind[gp,VC,aC]|v::r,xs,h=>by
  simp[gp]at h;split at h;.rename_i x xs' h1 h2;cases h;exact⟨xo h1,ni h2⟩
  grind
def VR.k9{X:Cx}{x:AV}{v:Value}(h:VC X x v):VR X x v:=by cases x with|agg cs=>exact h.elim|fk cs=>exact h.elim|_=>exact h
def VR.vK{X:Cx}{x:AV}{v:Value}(h:V1 X x v):VR X x v:=by cases x with|fk cs=>exact h.elim|_=>exact h
def V1.k9{X:Cx}{x:AV}{v:Value}(h:VC X x v):V1 X x v:=by cases x with|agg cs=>exact h.elim|_=>exact h
def QX{X:Cx}{v:Value}{x:AV}(h:vX v=some x):VR X x v:=by cases v with
 |agg cs=>simp only[vX]at h;cases hc:gp cs.toList with|none=>grind|some xs=>rw[hc]at h;cases h;exact⟨cs,rfl,ni hc⟩
 |tuple vs=>
  simp only[vX]at h;split at h;.rename_i h0;simp at h0;cases h;subst h0;exact⟨#[],rfl,trivial⟩
  grind|_=>exact .k9 (xo h)
def oY{X:Cx}:VR X kP undef:=⟨#[],rfl,trivial⟩
structure NT where
 n:Nat
 ds:List Deferred
instance:Coe NT Nat:=⟨NT.n⟩
structure fI(X:Cx)(nt:NT)(s:St)(a:Act):Prop where
 slots:∀t,VR X (dV s.slots t) (a.tmps.getD t undef)size:a.tmps.size=nt.n
 defers:a.defers=nt.ds
 mem:aF X s.mem s.aI
def bC{X:Cx}{nt:NT}{s:St}{a:Act}(hs:fI X nt s a){x:Operand}{y:cu}(h:dD x=some y):VR X (y.ev s.slots) (a.eval x):=by cases x with
 |tmp t=>simp[dD]at h;subst h;exact hs.slots t|const v=>cases hc:vX v with|none=>simp[dD,hc]at h|some x=>simp[dD,hc]at h;subst h;exact QX hc
 |func f=>simp[dD]at h;subst h;exact⟨#[],rfl,trivial⟩|global g=>simp[dD]at h
def xp{X:Cx}{nt:NT}{s:St}{a:Act}(hs:fI X nt s a):∀{xs:List Operand}{ys:List cu},jx xs=some ys->aC (VR X) (As s.slots ys) (xs.map a.eval)
 |[],ys,h=>by grind[jx,As,VR,aC]|x::r,ys,h=>by
  simp[jx]at h;split at h;.rename_i y ys' h1 h2;cases h;exact⟨bC hs h1,xp hs h2⟩
  grind
def oZ{X:Cx}{x:AV}{v:Value}{b:Bool}(h:jq x=some b)(hv:VR X x v):v=.bool b:=by
 unfold jq at h;split at h;.cases h;exact hv.sc
 grind
def FO{X:Cx}{x:AV}{v:Value}{n:Int}(h:tE x=some n)(hv:VR X x v):∃k,v=.int k n:=by
 unfold tE at h;split at h;.cases h;exact⟨_,hv.sc⟩
 grind
def ld{X:Cx}{x:AV}{v:Value}{n:Nat}(h:gT x=some n)(hv:VR X x v):∃k,v=.int k (n:Int):=by unfold gT at h;cases hi:tE x with|none=>grind|some m=>
 rw[hi]at h;simp only[ae]at h;split at h;.obtain⟨k,hk⟩:=FO hi hv<;>grind
 grind
section
variable{P:Program}
def Z5{op:BinOp}{k k':IntKind}{m n:Int}{v:Value}(t:TypeId)(w:World)(h:HN op k m k' n=some v):(binOp op t (.int k m) (.int k' n)).run P w=.ok v w/\v.oneCell'=true:=by
 have plain:∀(f:Value),v=f->f.oneCell'=true->(binOp op t (.int k m) (.int k' n)).run P w=.ok f w->(binOp op t (.int k m) (.int k' n)).run P w=.ok v w/\v.oneCell'=true:=by grind
 by_cases hk:k=k';.subst hk;cases op<;>simp only[HN,FI,cf,ne_eq,wc,ns]at h<;>first
      |(cases h;done)|(injection h with h;refine plain _ h.symm rfl ?_;simp[binOp,Op.intArith,Op.intBits,Op.intCmp];done)
      | (split at h;.cases h
         .rename_i hn;injection h with h;refine plain _ h.symm rfl ?_;simp[binOp,Op.intDiv,Op.shift,hn])
 .cases op<;>simp only[HN,ne_eq,hk,not_false_eq_true,i5]at h<;>first
      |(cases h;done)
      | (split at h;.cases h
         .rename_i hn;injection h with h;refine plain _ h.symm rfl ?_;simp[binOp,Op.shift,hn])
def Z6{op:BinOp}{x y:ByteArray}{v:Value}(t:TypeId)(w:World)(h:M5 op x y=some v):(binOp op t (.string x) (.string y)).run P w=.ok v w/\v.oneCell'=true:=by
 have hb:(binOp op t (.string x) (.string y))=Op.stringOp op x y:=by cases op<;>rfl
 rw[hb];cases op with|add=>
  simp only[M5]at h;split at h;.cases h
  .rename_i hn;cases h;exact⟨by simp only[Op.stringOp];rw[be hn];rfl,rfl⟩|_=>simp only[M5]at h<;>first|(cases h;done)|(injection h with h;subst h;exact⟨by simp[Op.stringOp],rfl⟩)
def Z7{X:Cx}{op:BinOp}{x y:AV}{u v r:Value}(t:TypeId)(hx:VR X x u)(hy:VR X y v)(h:Tx op x y=some r):(binOp op t u v).run P X.w=.ok r X.w/\r.oneCell'=true/\((∃k m,u=.int k m)\/∃b,u=.string b):=by
 unfold Tx at h;split at h;.rw[hx.sc,hy.sc];obtain⟨h1,h2⟩:=Z5 (P:=P) t X.w h<;>grind
 .rw[hx.sc,hy.sc];obtain⟨h1,h2⟩:=Z6 (P:=P) t X.w h<;>grind
 grind
def kA{op:BinOp}{t:TypeId}{x y:Operand}{u v:Value}{w:World}(h1:u≠.nilIface)(h2:∀c,u≠.agg c):(eqGuard op t x y u v).run P w=.ok () w:=by cases u<;>first|(exact absurd rfl h1)|(exact absurd rfl (h2 _))|(cases op<;>rfl)
def xq(xs ys:List AV):∀(l m:List (Nat×Nat)),nB xs ys (l++m)=match nB xs ys l with|some true=>nB xs ys m|r=>r
 |[],m=>rfl|o::l,m=>by simp[nn,nB];cases xs[o.1]?with|none=>rfl|some x=>cases ys[o.1]?with|none=>rfl|some y=>simp;cases JM o.2 x y with|none=>rfl|some b=>cases b with|true=>exact xq xs ys l m|false=>rfl
def Pm{X:Cx}{kd:Nat}{x y:AV}{u v:Value}{b:Bool}(h:JM kd x y=some b)(hx:VC X x u)(hy:VC X y v):(∃p q,kd=0/\u=.bool p/\v=.bool q/\b=(p==q))\/(∃k p q,kd=1/\u=.int k p/\v=.int k q/\b=(p==q))\/∃p q,2<=kd/\u=.string p/\v=.string q/\b=(p==q):=by
  unfold JM at h;split at h
  . split at h;.injection h with h;exact .inl ⟨_,_,rfl,VR.sc (.k9 hx),VR.sc (.k9 hy),h.symm⟩
    grind
  . split at h
    . split at h;.subst_vars;injection h with h;exact .inr (.inl ⟨_,_,_,rfl,VR.sc (.k9 hx),VR.sc (.k9 hy),h.symm⟩)
      grind
    grind
  . split at h;.cases h
    .cases h
    .injection h with h;refine .inr (.inr ⟨_,_,?_,VR.sc (.k9 hx),VR.sc (.k9 hy),h.symm⟩)<;>grind
  grind
def QY{X:Cx}{xs ys:List AV}{us vs:Array Value}(hx:aC (VC X) xs us.toList)(hy:aC (VC X) ys vs.toList){off kd:Nat}{b:Bool}(h:nB xs ys [(off,kd)]=some b):∃u v,us[off]?=some u/\vs[off]?=some v/\((∃p q,kd=0/\u=.bool p/\v=.bool q/\b=(p==q))\/(∃k p q,kd=1/\u=.int k p/\v=.int k q/\b=(p==q))\/∃p q,2<=kd/\u=.string p/\v=.string q/\b=(p==q)):=by
  simp[nB]at h;split at h
  . rename_i x y h1 h2;obtain⟨u,hu,hxu⟩:=hx.get _ _ h1;obtain⟨v,hv,hyv⟩:=hy.get _ _ h2;refine⟨u,v,by simpa using hu,by simpa using hv,?_⟩;split at h;.rename_i h3;cases h;exact Pm h3 hxu hyv
    .rename_i h3;cases h;exact Pm h3 hxu hyv
    grind
  grind
def M9{X:Cx}{xs ys:List AV}{us vs:Array Value}(hx:aC (VC X) xs us.toList)(hy:aC (VC X) ys vs.toList)(w:World):∀(n:Nat)(t:TypeId)(off:Nat)(l:List (Nat×Nat))(sz d:Nat)(b:Bool)(A B:Array Value)(o:Nat),p4 P n t off=some l->dZ P t=some sz->n<=d->nB xs ys l=some b->(∀j,j<sz->A[o+j]?=us[off+j]?)->(∀j,j<sz->B[o+j]?=vs[off+j]?)->∃p q,(part t A o).run P w=.ok p w/\(part t B o).run P w=.ok q w/\(Op.equalIn d t p q).run P w=.ok b w:=by intro n;induction n with|zero=>intro t off l sz d b A B o h;cases h|succ n ih=>
    intro t off l sz d b A B o h hsz hd hb hA hB;obtain⟨i,hi,hs⟩:∃i,P.info? t=some i/\i.size=sz:=by unfold dZ at hsz;cases hi:P.info? t with|none=>rw[hi]at hsz;cases hsz|some i=>rw[hi]at hsz;exact⟨i,rfl,by simpa using hsz⟩
    obtain⟨d,rfl⟩:∃e,d=e+1:=⟨d-1,by omega⟩;simp only[p4,hsz]at h;have basic:∀kd,nB xs ys [(off,kd)]=some b->sz=1->(isAgg t).run P w=.ok false w->(∀p q,kd=0->(Op.equalIn (d+1) t (.bool p) (.bool q)).run P w=.ok (p==q) w)->(∀k p q,kd=1->(Op.equalIn (d+1) t (.int k p) (.int k q)).run P w=.ok (p==q) w)->(∀p q,2<=kd->(Op.equalIn (d+1) t (.string p) (.string q)).run P w=.ok (p==q) w)->∃p q,(part t A o).run P w=.ok p w/\(part t B o).run P w=.ok q w/\(Op.equalIn (d+1) t p q).run P w=.ok b w:=by
      intro kd he h1 Av hb0 pV tj;obtain⟨u,v,hu,hv,hk⟩:=QY hx hy he;have hA0:=hA 0 (by omega);have hB0:=hB 0 (by omega);simp only[fg]at hA0 hB0;rw[hu]at hA0;rw[hv]at hB0;refine⟨u,v,by simp[part,Av,hA0],by simp[part,Av,hB0],?_⟩;rcases hk with⟨p,q,hk,rfl,rfl,rfl⟩|⟨k,p,q,hk,rfl,rfl,rfl⟩|⟨p,q,hk,rfl,rfl,rfl⟩;.exact hb0 p q hk
      .exact pV k p q hk
      .exact tj p q hk
    split at h;.rename_i h1 hu;injection h with h;subst h;refine basic 0 hb (by simpa using h1) (by simp[isAgg,run_underlying hu]) (λp q _=>by simp[Op.equalIn,run_underlying hu]) (λ_ _ _ h=>by omega) (λ_ _ h=>by omega)
    .rename_i h1 hu;injection h with h;subst h;refine basic 1 hb (by simpa using h1) (by simp[isAgg,run_underlying hu]) (λ_ _ h=>by omega) (λk p q _=>by simp[Op.equalIn,run_underlying hu]) (λ_ _ h=>by omega)
    .rename_i h1 hu;injection h with h;subst h;refine basic 2 hb (by simpa using h1) (by simp[isAgg,run_underlying hu]) (λ_ _ h=>by omega) (λ_ _ _ h=>by omega) (λp q _=>by simp[Op.equalIn,run_underlying hu])
    . rename_i sz' fs h1 hu;injection h1 with h1;subst h1;split at h;.cases h
      . rename_i hst;have hf:P.fieldsOf t=fs:=by simp[Program.fieldsOf,hu]
        refine⟨.agg (A.extract o (o+sz)),.agg (B.extract o (o+sz)),by simp[part,isAgg,run_underlying hu,sizeOf,typeInfo,hi,hs],by simp[part,isAgg,run_underlying hu,sizeOf,typeInfo,hi,hs],?_⟩;rw[run_equalIn_struct w d t _ _ (by rw[hf];exact hu) (by simpa using hst),hf];have hex:∀(C us:Array Value),(∀j,j<sz->C[o+j]?=us[off+j]?)->∀f fz,f+fz<=sz->∀j,j<fz->(C.extract o (o+sz))[f+j]?=us[off+f+j]?:=by
          intro C us hC f fz hfz j hj;rw[Array.getElem?_extract];have:=hC (f+j) (by omega);rw[<-eK,<-eK]at this;split;.rw[<-this,eK]
          .rename_i hn;rw[<-this,Array.getElem?_eq_none (by omega)]
        clear basic hu hf;generalize fs.toList=fl at h;induction fl generalizing l b with|nil=>simp only[List.foldr_nil]at h;injection h with h;subst h;simp only[nB]at hb;injection hb with hb;subst hb;rfl|cons f fl ihf=>
          simp only[List.foldr_cons]at h;split at h
          . rename_i l' fz hl' hfz;split at h;.cases h
            .rename_i hn;obtain⟨hn1,hn2⟩:=sm.1 hn;cases hc:p4 P n f.type (off+f.offset)with|none=>rw[hc]at h;cases h|some lf=>
             rw[hc]at h;simp only[cf]at h;injection h with h;subst h;rw[xq]at hb;have step:∀b',nB xs ys lf=some b'->(Op.eqFields d (A.extract o (o+sz)) (B.extract o (o+sz)) (f::fl)).run P w=(if(!b')=true then .ok false w else(Op.eqFields d (A.extract o (o+sz)) (B.extract o (o+sz)) fl).run P w):=by intro b' hb';obtain⟨p,q,hp,hq,he⟩:=ih f.type (off+f.offset) lf fz d b' (A.extract o (o+sz)) (B.extract o (o+sz)) f.offset hc hfz (by omega) hb' (λj hj=>hex A us hA _ fz (by omega) j hj) (λj hj=>hex B vs hB _ fz (by omega) j hj);simp[Op.eqFields,hn1,hp,hq,he]
             cases hlf:nB xs ys lf with|none=>rw[hlf]at hb;cases hb|some b'=>rw[hlf]at hb;rw[step b' hlf];cases b' with|true=>simpa using ihf l' b hb hl'|false=>simp only at hb;injection hb with hb;subst hb;rfl
          .cases h
    .cases h
def aeo{X:Cx}{t:TypeId}{l:List (Nat×Nat)}{xs ys:List AV}{u v:Value}{b:Bool}(hc:p4 P 20 t 0=some l)(hg:P.eqGuardType P.depth t=false)(hst:∃fs,P.underlying t=some (.struct fs))(hx:VR X (.agg xs) u)(hy:VR X (.agg ys) v)(h:nB xs ys l=some b)(x y:Operand):∃us vs,u=.agg us/\v=.agg vs/\(∀op,(eqGuard op t x y u v).run P X.w=.ok () X.w)/\(us.size=((dZ P t).getD 0)->vs.size=((dZ P t).getD 0)->(Op.equal t u v).run P X.w=.ok b X.w):=by
 obtain⟨us,rfl,hx⟩:=hx;obtain⟨vs,rfl,hy⟩:=hy;refine⟨us,vs,rfl,rfl,λop=>?_,λhus hvs=>?_⟩;.unfold eqGuard;cases op<;>simp[hg]
 .obtain⟨fs,hst⟩:=hst;cases hsz:dZ P t with|none=>simp[p4,hsz]at hc|some sz=>
  rw[hsz]at hus hvs;obtain⟨p,q,hp,hq,he⟩:=M9 (P:=P) hx hy X.w 20 t 0 l sz Op.maxDepth b us vs 0 hc hsz (by decide) h (λj _=>by simp) (λj _=>by simp);obtain⟨i,hi,hs⟩:∃i,P.info? t=some i/\i.size=sz:=by unfold dZ at hsz;cases hi:P.info? t with|none=>rw[hi]at hsz;cases hsz|some i=>rw[hi]at hsz;exact⟨i,rfl,by simpa using hsz⟩
  have ag:∀C:Array Value,C.size=sz->(part t C 0).run P X.w=.ok (.agg C) X.w:=by intro C hC;simp[part,isAgg,run_underlying hst,sizeOf,typeInfo,hi,hs,<-hC]
  simp_all;exact he
end
def CB{w:World}{α:Type}{R:α->Value->Prop}{b o:Nat}:∀(cs:List α),(∀(j:Nat)(x:α),cs[j]?=some x->∃v,w.cell? ⟨b,o+j,none⟩=some v/\R x v)->∃vs:List Value,(∀j u,vs[j]?=some u->w.cell? ⟨b,o+j,none⟩=some u)/\aC R cs vs:=by intro cs;induction cs generalizing o with|nil=>exactλ_=>⟨[],by simp,trivial⟩|cons c cs ih=>
 intro h;obtain⟨v,hv,hr⟩:=h 0 c rfl;obtain⟨vs,h1,h2⟩:=ih (o:=o+1) λj x hj=>by obtain⟨u,hu,hr⟩:=h (j+1) x (by simpa using hj);exact⟨u,by rw[<-hu];congr 2;omega,hr⟩
 refine⟨v::vs,λj u hj=>?_,hr,h2⟩<;>grind
def e8{α:Type}{l:List α}{k n j:Nat}{x:α}(h:((l.drop k).take n)[j]?=some x):l[k+j]?=some x/\j<n:=by grind
def HU{X:Cx}{b o off sz:Nat}{e:List D}(h:∀(j:Nat)(x:D),e[j]?=some x->∃u,X.w.cell? ⟨b,o+j,none⟩=some u/\DR X.w X.F x u):∃vs:List Value,(∀j u,vs[j]?=some u->X.w.cell? ⟨b,(o+off)+j,none⟩=some u)/\aC (VC X) (((e.drop off).take sz).map .d) vs:=by refine CB _ λj x hj=>?_;rw[fi]at hj;cases hq:((e.drop off).take sz)[j]?with|none=>grind|some y=>rw[hq]at hj;cases hj;obtain⟨u,hu,hd⟩:=h _ _ (e8 hq).1;exact⟨u,by rw[<-hu,eK],hd⟩
def JQ{X:Cx}{m:List (Tr bq)}{t:Tr Unit}(hm:aF X m t){p:AV}{v:Value}{sz:Nat}{cs:List AV}(hv:VR X p v)(h:sX m sz p=some cs):∃b o vs,v=.pointer (some ⟨b,o,none⟩)/\(∀j u,vs[j]?=some u->X.w.cell? ⟨b,o+j,none⟩=some u)/\aC (VC X) cs vs/\cs.length=sz:=by
  unfold sX at h;split at h
  . rename_i lv sl ak i off;obtain⟨L,hL,rfl⟩:=hv;split at h
    . rename_i v' cells hg;split at h
      . rename_i nh hi;split at h
        . have nh:=beq_true.1 nh;have hi:=beq_true.1 hi;subst nh;obtain⟨L',hL',hE⟩:=hm.fE _ _ _ hg;have:X.ρ v'=some L':=hL';rw[hL]at this;cases this;obtain⟨h1,h2,h3,h4⟩:=hE;obtain⟨vs,g1,g2⟩:=CB (w:=X.w) (R:=VC X) (b:=L.b) (o:=L.o+off) ((cells.drop off).take sz) λj x hj=>by obtain⟨u,hu,hr⟩:=h4 _ _ (e8 hj).1;exact⟨u,by rw[<-hu,eK],hr⟩
          grind
        grind
      grind
    . rename_i v' els hg;split at h
      . rename_i nh;split at h
        . rename_i e he;split at h;.have nh:=beq_true.1 nh;subst nh;obtain⟨L',hL',hE⟩:=hm.fE _ _ _ hg;have:X.ρ v'=some L':=hL';rw[hL]at this;cases this;obtain⟨h1,h2,h3,h4⟩:=hE;obtain⟨vs,g1,g2⟩:=HU (X:=X) (b:=L.b) (o:=L.o+i*L.sz) (off:=off) (sz:=sz) (e:=e) λj x hj=>h4 i e j x he hj<;>grind
          grind
        grind
      grind
    . rename_i v' els hg;split at h
      . rename_i nh;split at h
        . rename_i e he;split at h;.have nh:=beq_true.1 nh;subst nh;obtain⟨L',hL',hE⟩:=hm.fE _ _ _ hg;have:X.ρ v'=some L':=hL';rw[hL]at this;cases this;obtain⟨vs,g1,g2⟩:=HU (X:=X) (b:=L.b) (o:=L.o+i*L.sz) (off:=off) (sz:=sz) (e:=e) λj x hj=>(hE.2.2 i e j x he hj).2<;>grind
          grind
        grind
      grind
    .cases h
    grind
  . rename_i e off;split at h;.obtain⟨b,o,rfl,h4⟩:=hv;obtain⟨vs,g1,g2⟩:=HU (X:=X) (b:=b) (o:=o) (off:=off) (sz:=sz) (e:=e) λj x hj=>(h4 j x hj).2<;>grind
    grind
  grind
section
variable{P:Program}
def gj{t:TypeId}{sz:Nat}(h:dZ P t=some sz):∃i,P.info? t=some i/\i.size=sz:=by simp_all[dZ]
def CC{t:TypeId}{b:Bool}(h:oW P t=some b)(w:World):(isAgg t).run P w=.ok b w:=by
 unfold oW at h;split at h;.rename_i hu;cases h;simp[isAgg,run_underlying hu]
 .rename_i hu;cases h;simp[isAgg,run_underlying hu]
 .rename_i d h1 h2 hu;simp only[isAgg,Sem.run_bind,run_underlying hu,Result.andThen_ok]<;>simp_all
 grind
def CD{X:Cx}{t:TypeId}{sz:Nat}{agg:Bool}{b o:Nat}{cs:List AV}{vs:List Value}{r:AV}(hsz:dZ P t=some sz)(Av:oW P t=some agg)(h1:agg=true\/sz=1)(hc:∀j u,vs[j]?=some u->X.w.cell? ⟨b,o+j,none⟩=some u)(h2:aC (VC X) cs vs)(hl:cs.length=sz)(hr:iI agg cs=some r):∃v,(loadVar t ⟨b,o,none⟩).run P X.w=.ok v X.w/\V1 X r v:=by
 obtain⟨i,hi,hs⟩:=gj hsz;have Av:=CC Av X.w;have E9:∀j u,vs[j]?=some u->X.w.cell? ((⟨b,o,none⟩:Addr).add j)=some u:=λj u h=>by rw[Addr.add_lit];exact hc j u h
 cases agg with|true=>
  have hl':vs.length=sz:=by rw[<-h2.length,hl]
  have:=run_loadCells_list (P:=P) X.w ⟨b,o,none⟩ vs E9;rw[hl']at this;cases hr;exact⟨.agg vs.toArray,by simp[loadVar,Av,sizeOf,typeInfo,hi,hs,this],vs.toArray,rfl,by simpa using h2⟩|false=>
  simp[iI]at hr;split at hr;.simp_all;match vs,h2 with|[u],h2=>have:=hc 0 u rfl;simp at this;exact⟨u,by simp[loadVar,Av,this],.k9 h2.1⟩|[],h2=>exact h2.elim|_::_::_,h2=>exact h2.2.elim
  grind
def jU(a:Addr)(w:World):(Instr.sureAddr (.pointer (some a))).run P w=.ok a w:=rfl
def Quiet(P:Program)(X:Cx)(o:Oper)(a:Act)(val:AV):Prop:=∃v,(execOp a.eval o).run P X.w=.ok (.value v) X.w/\VR X val v
variable{X:Cx}{nt:NT}{s:St}{a:Act}
def xu(hs:fI X nt s a){o:Oper}{t:TypeId}{x:Operand}{y:cu}{sz:Nat}{agg:Bool}{cs:List AV}{r:AV}(ho:o.op=.load t x)(hsz:dZ P t=some sz)(Av:oW P t=some agg)(h1:agg=true\/sz=1)(hx:dD x=some y)(hl:sX s.mem sz (y.ev s.slots)=some cs)(hr:iI agg cs=some r):Quiet P X o a r:=by obtain⟨b,off,vs,hv,hc,h2,hlen⟩:=JQ hs.mem (bC hs hx) hl;obtain⟨v,hrun,hV⟩:=CD (P:=P) hsz Av h1 hc h2 hlen hr;exact⟨v,by simp[execOp,ho,Instr.loadAt,hv,jU,hrun],.vK hV⟩
def HV(hs:fI X nt s a){o:Oper}{c x y:Operand}{c' x' y':cu}{b:Bool}(ho:o.op=.pick c x y)(hc:dD c=some c')(hx:dD x=some x')(hy:dD y=some y')(hb:jq (c'.ev s.slots)=some b):Quiet P X o a (if b then x'.ev s.slots else y'.ev s.slots):=by
 have:=oZ hb (bC hs hc);refine⟨if b then a.eval x else a.eval y,by simp[execOp,ho,this,asBool],?_⟩;cases b;.exact bC hs hy
 .exact bC hs hx
def aep(hs:fI X nt s a){o:Oper}{op:BinOp}{t u:TypeId}{x y:Operand}{x' y':cu}{r:Value}(ho:o.op=.binOp op t x y u)(hx:dD x=some x')(hy:dD y=some y')(h:Tx op (x'.ev s.slots) (y'.ev s.slots)=some r):Quiet P X o a (nC r):=by
 obtain⟨h1,h2,h3⟩:=Z7 (P:=P) t (bC hs hx) (bC hs hy) h;refine⟨r,?_,.nC h2⟩;have hg:(eqGuard op t x y (a.eval x) (a.eval y)).run P X.w=.ok () X.w:=by rcases h3 with⟨k,m,h3⟩|⟨m,h3⟩<;>rw[h3]<;>exact kA (by simp) (by simp)
 simp[execOp,ho,hg,h1]
def aeq(hs:fI X nt s a){o:Oper}{neg:Bool}{t u:TypeId}{x y:Operand}{x' y':cu}{p q:Bool}(ho:o.op=.binOp (if neg then .neq else .eql) t x y u)(ht:P.underlying t=some .bool)(hx:dD x=some x')(hy:dD y=some y')(hp:jq (x'.ev s.slots)=some p)(hq:jq (y'.ev s.slots)=some q):Quiet P X o a (nC (.bool (if neg then !(p==q)else p==q))):=by
 have h1:=oZ hp (bC hs hx);have h2:=oZ hq (bC hs hy);refine⟨.bool (if neg then !(p==q)else p==q),?_,.nC rfl⟩;have hg:∀op,(eqGuard op t x y (.bool p) (.bool q)).run P X.w=.ok () X.w:=λop=>kA (by simp) (by simp);have he':∀d,(Op.equalIn (d+1) t (.bool p) (.bool q)).run P X.w=.ok (p==q) X.w:=λd=>by simp[Op.equalIn,run_underlying ht]
 have he:(Op.equal t (.bool p) (.bool q)).run P X.w=.ok (p==q) X.w:=he' 9999;cases neg<;>simp[execOp,ho,h1,h2,hg,binOp,he]
def Z8{y:Operand}(h:dD y=some (.c (.d (.sc .nilIface)))):y=.const .nilIface:=by cases y with|tmp t=>simp[dD]at h|func f=>simp[dD]at h|global g=>simp[dD]at h|const v=>simp[dD]at h;cases hc:vX v with|none=>grind|some z=>
      rw[hc]at h;cases h;have key:∀{u:Value},jj u=some (.d (.sc .nilIface))->u=.nilIface:=by
        intro u hu;unfold jj at hu;split at hu;.simp at hu
        .cases hu
        .cases hu
        .cases hu
        . rename_i fn first cap
          cases fn with|func f=>
            by_cases hz:first.size=0/\cap.size=0;.simp at hu
            .simp at hu|_=>cases hu
        .simp at hu;exact hu
      unfold vX at hc;split at hc;.obtain⟨_,_,h⟩:=fb.1 hc;simp at h
      . split at hc;.simp at hc
        .cases hc
      .rw[key hc]
def JR(hs:fI X nt s a){o:Oper}{neg:Bool}{t u:TypeId}{ms:Array (String×TypeId)}{x y:Operand}{x':cu}(ho:o.op=.binOp (if neg then .neq else .eql) t x y u)(ht:P.underlying t=some (.interface ms))(hx:dD x=some x')(hy:dD y=some (.c (.d (.sc .nilIface)))):(x'.ev s.slots=.d .er->Quiet P X o a (nC (.bool neg)))/\(x'.ev s.slots=.d (.sc .nilIface)->Quiet P X o a (nC (.bool !neg))):=by
  have hyc:=Z8 hy;subst hyc;have Z9:a.eval (.const .nilIface)=.nilIface:=rfl;constructor
  . intro hq;have hv:=bC hs hx;rw[hq]at hv;have h0:∃tt p,a.eval x=.iface tt p:=by revert hv;intro hv;cases hv with|er v h1=>exact h1
    obtain⟨tt,p,h1⟩:=h0;refine⟨.bool neg,?_,.nC rfl⟩;have hg:∀op,(eqGuard op t x (.const .nilIface) (.iface tt p) .nilIface).run P X.w=.ok () X.w:=λop=>kA (by simp) (by simp);have he':∀d,(Op.equalIn (d+1) t (.iface tt p) .nilIface).run P X.w=.ok false X.w:=λd=>by simp[Op.equalIn,run_underlying ht]
    have he:(Op.equal t (.iface tt p) .nilIface).run P X.w=.ok false X.w:=he' 9999;cases neg<;>simp[execOp,ho,h1,Z9,hg,binOp,he]
  . intro hq;have hv:=bC hs hx;rw[hq]at hv;have h1:a.eval x=.nilIface:=by revert hv;generalize a.eval x=u;intro hv;cases hv with|sc v h1=>rfl
    refine⟨.bool !neg,?_,.nC rfl⟩;have hg:∀op,(eqGuard op t x (.const .nilIface) .nilIface .nilIface).run P X.w=.ok () X.w:=λop=>by cases op<;>simp[eqGuard]
    have he':∀d,(Op.equalIn (d+1) t .nilIface .nilIface).run P X.w=.ok true X.w:=λd=>by simp[Op.equalIn,run_underlying ht]
    have he:(Op.equal t .nilIface .nilIface).run P X.w=.ok true X.w:=he' 9999;cases neg<;>simp[execOp,ho,h1,Z9,hg,binOp,he]
def TK(hs:fI X nt s a){o:Oper}{neg:Bool}{t u:TypeId}{fs:Array Field}{l:List (Nat×Nat)}{sz:Nat}{x y:Operand}{x' y':cu}{xs ys:List AV}{b:Bool}(ho:o.op=.binOp (if neg then .neq else .eql) t x y u)(ht:P.underlying t=some (.struct fs))(hg:P.eqGuardType P.depth t=false)(hc:p4 P 20 t 0=some l)(hsz:dZ P t=some sz)(hx:dD x=some x')(hy:dD y=some y')(h1:x'.ev s.slots=.agg xs)(h2:y'.ev s.slots=.agg ys)(h3:xs.length=sz)(h4:ys.length=sz)(hb:nB xs ys l=some b):Quiet P X o a (nC (.bool (if neg then !b else b))):=by
 have g1:=bC hs hx;have g2:=bC hs hy;rw[h1]at g1;rw[h2]at g2;have s1:∃us,a.eval x=.agg us/\us.size=sz:=by obtain⟨us,e,hh⟩:=g1;exact⟨us,e,by rw[<-h3,hh.length,fw]⟩
 have s2:∃us,a.eval y=.agg us/\us.size=sz:=by obtain⟨us,e,hh⟩:=g2;exact⟨us,e,by rw[<-h4,hh.length,fw]⟩
 obtain⟨us,vs,e1,e2,he1,he2⟩:=aeo (P:=P) hc hg ⟨fs,ht⟩ g1 g2 hb x y;obtain⟨us',e1',s1⟩:=s1;obtain⟨vs',e2',s2⟩:=s2;rw[e1]at e1';rw[e2]at e2';injection e1' with e1';injection e2' with e2';subst e1';subst e2';have he:=he2 (by rw[hsz];exact s1) (by rw[hsz];exact s2);refine⟨.bool (if neg then !b else b),?_,.nC rfl⟩;rw[e1,e2]at he1 he;cases neg<;>simp[execOp,ho,e1,e2,he1,binOp,he]
def ajt(hs:fI X nt s a){o:Oper}{op:UnOp}{t:TypeId}{x:Operand}{x':cu}{r:Value}(ho:o.op=.unOp op t x)(hx:dD x=some x')(h:unA op (x'.ev s.slots)=some r):Quiet P X o a (nC r):=by
 have hv:=bC hs hx;unfold unA at h;split at h;.rename_i hq;rw[hq]at hv;have hv:=hv.sc;cases op<;>simp only at h<;>first|(cases h;done)|(cases h;exact⟨_,by simp[execOp,ho,hv,Op.unary],.nC rfl⟩)
 .rename_i hq;rw[hq]at hv;have hv:=hv.sc;cases op<;>simp only[FI,cf]at h<;>first|(cases h;done)|(injection h with h;subst h;exact⟨_,by simp[execOp,ho,hv,Op.unary,Op.intArith,Op.intBits],.nC rfl⟩)
 grind
def aaa(hs:fI X nt s a){o:Oper}{src dst:TypeId}{k:IntKind}{x:Operand}{x':cu}{n:Int}(ho:o.op=.convert src dst x)(ht:P.underlying dst=some (.int k))(hsrc:(P.underlying src).isSome=true)(hx:dD x=some x')(h:tE (x'.ev s.slots)=some n):Quiet P X o a (nC (.int k (k.wrap n))):=by obtain⟨k',hv⟩:=FO h (bC hs hx);obtain⟨d,hd⟩:=Option.isSome_iff_exists.1 hsrc;refine⟨.int k (k.wrap n),?_,.nC rfl⟩;simp[execOp,ho,hv,convert,run_underlying ht,run_underlying hd,Conv.intToInt]
def Na(hs:fI X nt s a){o:Oper}{x:Operand}{x':cu}{i:Nat}{vs:List AV}{r:AV}(ho:o.op=.extract x i)(hx:dD x=some x')(h:x'.ev s.slots=.fk vs)(hr:vs[i]?=some r):Quiet P X o a r:=by
 have hv:=bC hs hx;rw[h]at hv;obtain⟨us,e,h2⟩:=hv;obtain⟨u,hu,h3⟩:=h2.get _ _ hr;refine⟨u,?_,.vK h3⟩;have:us[i]?=some u:=by grind
 simp[execOp,ho,e,Instr.extract,this]
def Pn{t:TypeId}{off sz:Nat}{agg:Bool}{cs:List AV}{us:Array Value}{r:AV}(hsz:dZ P t=some sz)(Av:oW P t=some agg)(h1:agg=true\/sz=1)(hc:aC (VC X) cs us.toList)(hle:off+sz<=cs.length)(hr:iI agg ((cs.drop off).take sz)=some r):∃v,(part t us off).run P X.w=.ok v X.w/\V1 X r v:=by obtain⟨i,hi,hs⟩:=gj hsz;have Av:=CC Av X.w;cases agg with|true=>cases hr;refine⟨.agg (us.extract off (off+sz)),by simp[part,Av,sizeOf,typeInfo,hi,hs],us.extract off (off+sz),rfl,?_⟩;have:=(hc.drop off).take sz<;>simp_all|false=>
    have hsz:sz=1:=h1.resolve_left (by simp);subst hsz;simp[iI]at hr;split at hr
    . rename_i v hv;simp_all;subst hr;have:cs[off]?=some v:=by
       have:((cs.drop off).take 1)[0]?=some v:=by grind
       grind
      obtain⟨u,hu,h3⟩:=hc.get _ _ this;refine⟨u,?_,.k9 h3⟩;have:us[off]?=some u:=by grind
      simp[part,Av,this]
    grind
def TM(hs:fI X nt s a){o:Oper}{t:TypeId}{fs:Array Field}{f:Field}{j sz:Nat}{agg:Bool}{x:Operand}{x':cu}{cs:List AV}{r:AV}(ho:o.op=.field t x j)(ht:P.underlying t=some (.struct fs))(hf:fs[j]?=some f)(hsz:dZ P f.type=some sz)(Av:oW P f.type=some agg)(h1:agg=true\/sz=1)(hx:dD x=some x')(h:x'.ev s.slots=.agg cs)(hle:f.offset+sz<=cs.length)(hr:iI agg ((cs.drop f.offset).take sz)=some r):Quiet P X o a r:=by have hv:=bC hs hx;rw[h]at hv;obtain⟨us,e,h2⟩:=hv;obtain⟨v,hrun,hV⟩:=Pn (P:=P) hsz Av h1 h2 hle hr;refine⟨v,?_,.vK hV⟩;simp[execOp,ho,e,Instr.field,run_underlying ht,hf,asAgg,hrun]
def QZ(hs:fI X nt s a){o:Oper}{t e:TypeId}{n k sz:Nat}{agg:Bool}{x i:Operand}{x' i':cu}{cs:List AV}{r:AV}(ho:o.op=.index t x i)(ht:P.underlying t=some (.array n e))(hsz:dZ P e=some sz)(Av:oW P e=some agg)(h1:agg=true\/sz=1)(hx:dD x=some x')(hi:dD i=some i')(h:x'.ev s.slots=.agg cs)(hk:gT (i'.ev s.slots)=some k)(hkn:k<n)(hle:k*sz+sz<=cs.length)(hr:iI agg ((cs.drop (k*sz)).take sz)=some r):Quiet P X o a r:=by have hv:=bC hs hx;rw[h]at hv;obtain⟨us,he,h2⟩:=hv;obtain⟨kd,hik⟩:=ld hk (bC hs hi);obtain⟨v,hrun,hV⟩:=Pn (P:=P) hsz Av h1 h2 hle hr;obtain⟨j,hj,HW⟩:=gj hsz;refine⟨v,?_,.vK hV⟩;simp[execOp,ho,he,hik,Instr.index,asIntOf,run_underlying ht,sizeOf,typeInfo,hj,HW,hkn,hrun]
def Q0(hs:fI X nt s a){o:Oper}{t:TypeId}{k:Nat}{x i:Operand}{x' i':cu}{b:ByteArray}{c:UInt8}(ho:o.op=.index t x i)(ht:P.underlying t=some .string)(hx:dD x=some x')(hi:dD i=some i')(h:x'.ev s.slots=.d (.sc (.string b)))(hk:gT (i'.ev s.slots)=some k)(hc:b.data.toList[k]?=some c):Quiet P X o a (nC (.int .u8 c.toNat)):=by
 have hv:=bC hs hx;rw[h]at hv;have hv:=hv.sc;obtain⟨kd,hik⟩:=ld hk (bC hs hi);refine⟨_,?_,.nC rfl⟩;have hlt:k<b.size:=by have:=(cb.1 hc).1<;>simp_all
 have hb:b[k]?=some c:=by rw[getElem?_pos b k hlt];have:=(cb.1 hc).2;congr 1
 simp[execOp,ho,hv,hik,Instr.index,asIntOf,run_underlying ht,hb]
def xw(hs:fI X nt s a){o:Oper}{t:TypeId}{fs:Array Field}{f:Field}{j sz:Nat}{x:Operand}{x':cu}{r:AV}(ho:o.op=.fieldAddr t x j)(ht:P.underlying t=some (.struct fs))(hf:fs[j]?=some f)(hsz:dZ P f.type=some sz)(h0:sz≠0)(hx:dD x=some x')(hr:(∃lv sl ak i off,x'.ev s.slots=.ptr lv sl ak i off/\r=.ptr lv sl ak i (off+f.offset))\/∃e off,x'.ev s.slots=.eZ e off/\r=.eZ e (off+f.offset)):Quiet P X o a r:=by
 have hv:=bC hs hx;obtain⟨i,hi,hsi⟩:=gj hsz;have run:∀b off,(execOp a.eval o).run P X.w=(Sem.run P (do let v<-Instr.fieldAt t (.pointer (some ⟨b,off,none⟩)) j;pure (Next.value v)) X.w)->(execOp a.eval o).run P X.w=.ok (.value (.pointer (some ⟨b,off+f.offset,none⟩))) X.w:=by intro b off h;rw[h];simp[Instr.fieldAt,run_underlying ht,hf,jU,fieldPlace,sizeOf,typeInfo,hi,hsi,h0,Addr.add_lit]
 rcases hr with⟨lv,sl,ak,i',off,hq,rfl⟩|⟨e,off,hq,rfl⟩;.rw[hq]at hv;obtain⟨L,hL,hv⟩:=hv;refine⟨_,run L.b (L.o+i'*L.sz+off) (by simp only[execOp,ho,hv]),L,hL,by rw[eK]⟩
 .rw[hq]at hv;obtain⟨b,o',hv,h⟩:=hv;exact⟨_,run b (o'+off) (by simp only[execOp,ho,hv]),b,o',by rw[eK],h⟩
end
def eX.sub{w:World}{F R:Nat->Nat->Prop}{els:List (List D)}{b o sz:Nat}(h:eX w F R els b o sz)(lo k:Nat):eX w F R ((els.drop lo).take k) b (o+lo*sz) sz:=by grind[eX]
def eX.region{w:World}{F R S:Nat->Nat->Prop}{els:List (List D)}{b o sz:Nat}(h:eX w F R els b o sz)(Tl:∀b o,R b o->S b o):eX w F S els b o sz:=⟨h.1,λi e j x h1 h2=>⟨Tl _ _ (h.2 i e j x h1 h2).1,(h.2 i e j x h1 h2).2⟩⟩
def eX.nil{w:World}{F R:Nat->Nat->Prop}{b o sz:Nat}:eX w F R [] b o sz:=⟨by simp,λi e j x h=>by simp at h⟩
def xx{X:Cx}{x:AV}{els:List (List D)}{v:Value}(hx:x=.d (.sl els)\/∃o,x=.own els o)(hv:VR X x v):∃a cap sz b o,v=.slice a els.length cap/\els.length<=cap/\(0<els.length->a=some ⟨b,o,none⟩)/\eX X.w X.F (λb o=>X.F b o\/X.old b) els b o sz:=by
 rcases hx with rfl|⟨ow,rfl⟩;.obtain⟨a,cap,sz,b,o,h1,h2,h3,h4⟩:=DR.Z2 hv;exact⟨a,cap,sz,b,o,h1,h2,h3,h4.region λ_ _=>.inl⟩
 .cases ow with|full=>obtain⟨a,b,o,sz,h1,h2,h3⟩:=hv;exact⟨a,_,sz,b,o,h1,bc _,h2,h3.region λ_ _=>.inl⟩|cR ak tz=>obtain⟨a,b,o,sz,cap,h1,h2,h3,h4,_⟩:=hv;exact⟨a,cap,sz,b,o,h1,h2,λh=>h3 (by omega),h4.region λ_ _=>.inl⟩|bG=>obtain⟨a,b,o,sz,cap,h1,h2,h3,h4⟩:=hv;exact⟨a,cap,sz,b,o,h1,h2,h3,h4.region λ_ _=>.inr⟩
def o6{X:Cx}{x:AV}{cs:List AV}{v:Value}(h:cellsOf x=some cs)(hv:VR X x v):aC (VC X) cs v.cells.toList:=by
 have one:∀{x:AV},VC X x v->aC (VC X) [x] v.cells.toList:=by intro x hx;have h1:=hx.one;cases v<;>first|(simp[Value.oneCell']at h1;done)|exact⟨hx,trivial⟩
 cases x with|agg cs'=>cases h;obtain⟨us,rfl,h2⟩:=hv;exact h2|fk=>cases h|_=>simp only[cellsOf]at h;injection h with h;subst h;exact one hv
def eN{α:Type}(cs new:List α)(off:Nat)(h:off+new.length<=cs.length)(j:Nat):(splice cs off new)[j]?=if off<=j/\j<off+new.length then new[j-off]?else cs[j]?:=by unfold splice;rw[bi,ub,ub]<;>grind
def lK{α:Type}(cs new:List α)(off:Nat)(h:off+new.length<=cs.length):(splice cs off new).length=cs.length:=by grind[splice]
def aC.splice{α β:Type}{R:α->β->Prop}{cs new:List α}{us vs:List β}{off:Nat}(h:aC R cs us)(h':aC R new vs):aC R (splice cs off new) (Go.bK.splice us off vs):=by unfold Go.bK.splice;rw[h'.length];exact((h.take off).append h').append (h.drop _)
def FP(off:Nat):∀(l:List Value)(k:Nat)(C:Array Value),off+k+l.length<=C.size->((l.zipIdx k).foldl (λcs p=>cs.setIfInBounds (off+p.2) p.1) C).toList=C.toList.take (off+k)++l++C.toList.drop (off+k+l.length)
 |[],k,C,_=>by simp|v::l,k,C,h=>by
  simp only[List.zipIdx_cons,xa];rw[FP off l (k+1) _ (by simp at h⊢;omega)];simp only[Array.toList_setIfInBounds];have hk:off+k<C.toList.length:=by simp at h⊢;omega
  apply lL;intro j;have e1:=eN (C.toList.set (off+k) v) l (off+(k+1)) (by simp at h⊢;omega) j;have e2:=eN C.toList (v::l) (off+k) (by simp at h⊢;omega) j;unfold splice at e1 e2;rw[e1,e2];simp only[fd];by_cases h1:j=off+k;.subst h1;rw[be (by omega),ba (by omega),pw,List.getElem?_set_self hk];rfl
  .rw[List.getElem?_set_ne (pv h1)];by_cases h2:off+k<=j/\j<off+k+(l.length+1);.rw[ba (by omega),ba h2];obtain⟨d,rfl⟩:∃d,j=off+k+(d+1):=⟨j-(off+k)-1,by omega⟩;rw[show off+k+(d+1)-(off+(k+1))=d by omega,show off+k+(d+1)-(off+k)=d+1by omega];rfl
   .rw[be (by omega),be h2]
def FQ(off:Nat)(vs C:Array Value)(h:off+vs.size<=C.size):(vs.zipIdx.foldl (λcs x=>match x with|(c,j)=>cs.setIfInBounds (off+j) c) C).toList=splice C.toList off vs.toList:=by have:=FP off vs.toList 0 C (by simpa using h);simp only[fg]at this;unfold splice;rw[<-this,<-Array.foldl_toList,Array.toList_zipIdx]
section
variable{P:Program}{X:Cx}{nt:NT}{s:St}{a:Act}
def CE(hs:fI X nt s a)(place:Nat->Option (Nat×Nat)):∀(ps:List (Nat×Operand))(l:List (Nat×Nat×cu))(z cs:List AV)(C:Array Value),tJ place ps=some l->aC (VC X) z C.toList->qL s.slots z l=some cs->∃C',Instr.fill place C (ps.map λp=>(p.1,a.eval p.2))=some C'/\aC (VC X) cs C'.toList
 |[],l,z,cs,C,hp,hz,hf=>by cases hp;cases hf;exact⟨C,rfl,hz⟩|(i,x)::ps,l,z,cs,C,hp,hz,hf=>by
  simp[tJ]at hp;split at hp
  .rename_i off sz y ys h1 h2 h3;cases hp;simp[qL]at hf;split at hf
   .rename_i new hn;split at hf
    .rename_i hc;obtain⟨hc1,ou⟩:=hc;have hv:=o6 hn (bC hs h2);have hsz:(a.eval x).cells.size=sz:=by rw[<-hc1,hv.length,fw]
     have hC:C.size=z.length:=by rw[hz.length,fw]
     obtain⟨C',h4,h5⟩:=CE hs place ps ys (splice z off new) cs ((a.eval x).cells.zipIdx.foldl (λcs x=>match x with|(c,j)=>cs.setIfInBounds (off+j) c) C) h3 (by rw[FQ off _ C (by omega)];exact hz.splice hv) hf;simp only[f1,Instr.fill,h1,hsz,ne_eq,wc,ss,Bool.false_or]<;>grind
    grind
   grind
  grind
def JS(hs:fI X nt s a){o:Oper}{t:TypeId}{ps:Array (Nat×Operand)}{it:TypeInfo}{z:Value}{zs:List AV}{l:List (Nat×Nat×cu)}{cs:List AV}(place:Nat->Option (Nat×Nat))(ho:o.op=.build t ps)(hz:gp z.cells.toList=some zs)(hb:∀parts,P.built t parts=Instr.fill place z.cells parts)(hp:tJ place ps.toList=some l)(hf:qL s.slots zs l=some cs)(azo:P.info? t=some it):Quiet P X o a (.agg cs):=by
 obtain⟨C',h1,h2⟩:=CE hs place ps.toList l zs cs z.cells hp (ni hz) hf;refine⟨.agg C',?_,C',rfl,h2⟩;have hr:(Instr.build t (ps.map λ(i,x)=>(i,a.eval x))).run P X.w=.ok (.agg C') X.w:=by apply run_build;simp_all
 simp[execOp,ho];simp[hr]
def tL(hs:fI X nt s a){o:Oper}{x:Operand}{x':cu}{r:AV}(ho:o.op=.nilCheck x)(hx:dD x=some x')(hr:x'.ev s.slots=r)(hk:(∃lv sl ak i off,r=.ptr lv sl ak i off)\/(∃e off,r=.eZ e off)\/∃f cs,r=.fG f cs):Quiet P X o a r:=by
 have hv:=bC hs hx;rw[hr]at hv;refine⟨a.eval x,?_,hv⟩;rcases hk with⟨_,_,_,_,_,rfl⟩|⟨_,_,rfl⟩|⟨_,_,rfl⟩;.obtain⟨L,_,h⟩:=hv;simp[execOp,ho,h]
 .obtain⟨_,_,h,_⟩:=hv;simp[execOp,ho,h]
 .obtain⟨_,h,_⟩:=hv;simp[execOp,ho,h]
def oD(hs:fI X nt s a){o:Oper}{t e:TypeId}{sz n:Nat}{x i:Operand}{x' i':cu}{r:AV}(ho:o.op=.indexAddr t x i)(ht:P.underlying t=some (.slice e))(hsz:dZ P e=some sz)(hx:dD x=some x')(hi:dD i=some i')(hn:gT (i'.ev s.slots)=some n)(hr:(∃els el,(x'.ev s.slots=.d (.sl els)\/∃ow,x'.ev s.slots=.own els ow)/\els[n]?=some el/\el.length=sz/\r=.eZ el 0)\/(∃lv sl ak off ln,x'.ev s.slots=.ref lv sl ak off ln sz/\n<ln/\r=.ptr lv sl ak (off+n) 0)\/∃lv sl ak off ln,x'.ev s.slots=.dx lv sl ak off ln sz/\n<ln/\r=.ptr lv sl ak 0 (off+n*sz)):Quiet P X o a r:=by
 have hv:=bC hs hx;obtain⟨kd,hik⟩:=ld hn (bC hs hi);obtain⟨j,hj,HW⟩:=gj hsz;have run:∀(b off ln cap:Nat),n<ln->a.eval x=.slice (some ⟨b,off,none⟩) ln cap->(execOp a.eval o).run P X.w=.ok (.value (.pointer (some ⟨b,off+n*sz,none⟩))) X.w:=by intro b off ln cap hlt he;simp[execOp,ho,he,hik,Instr.indexAt,asIntOf,run_underlying ht,sizeOf,typeInfo,hj,HW,hlt,Addr.add_lit]
 rcases hr with⟨els,el,hq,hel,hl,rfl⟩|⟨lv,sl,ak,off,ln,hq,hlt,rfl⟩|⟨lv,sl,ak,off,ln,hq,hlt,rfl⟩
 .obtain⟨ad,cap,sz',b,off,h1,h2,h3,h4⟩:=xx hq hv;have hlt:n<els.length:=(cb.1 hel).1;have h3:=h3 (by omega);subst h3;have aes:sz'=sz:=by grind[eX,VR,cu.ev,gT,dD,dZ]
  subst aes;refine⟨_,run b off _ cap hlt h1,b,off+n*sz',rfl,λj x hx=>h4.2 n el j x hel hx⟩
 .rw[hq]at hv;obtain⟨L,ad,cap,hL,h1,h2,h3,h4⟩:=hv;obtain⟨rfl,h5⟩:=h4 (by omega);refine⟨_,run _ _ _ cap hlt h2,L,hL,?_⟩<;>grind
 .rw[hq]at hv;obtain⟨L,aab,hL,h1,_⟩:=hv;refine⟨_,run _ _ _ aab hlt h1,L,hL,?_⟩;simp[eK]
def Aw(hs:fI X nt s a){o:Oper}{t e:TypeId}{n sz k:Nat}{x i:Operand}{x' i':cu}{r:AV}(ho:o.op=.indexAddr t x i)(ht:P.underlying t=some (.array n e))(hsz:dZ P e=some sz)(hx:dD x=some x')(hi:dD i=some i')(hn:gT (i'.ev s.slots)=some k)(hkn:k<n)(hr:(∃lv sl ak j off,x'.ev s.slots=.ptr lv sl ak j off/\r=.ptr lv sl ak j (off+k*sz))\/∃el off,x'.ev s.slots=.eZ el off/\r=.eZ el (off+k*sz)):Quiet P X o a r:=by
 have hv:=bC hs hx;obtain⟨kd,hik⟩:=ld hn (bC hs hi);obtain⟨j,hj,HW⟩:=gj hsz;have run:∀(b off:Nat),a.eval x=.pointer (some ⟨b,off,none⟩)->(execOp a.eval o).run P X.w=.ok (.value (.pointer (some ⟨b,off+k*sz,none⟩))) X.w:=by intro b off he;simp[execOp,ho,he,hik,Instr.indexAt,asIntOf,run_underlying ht,sizeOf,typeInfo,hj,HW,hkn,Addr.add_lit,jU]
 rcases hr with⟨lv,sl,ak,i',off,hq,rfl⟩|⟨e,off,hq,rfl⟩;.rw[hq]at hv;obtain⟨L,hL,hv⟩:=hv;exact⟨_,run _ _ hv,L,hL,by rw[eK]⟩
 .rw[hq]at hv;obtain⟨b,o',hv,h⟩:=hv;exact⟨_,run _ _ hv,b,o',by rw[eK],h⟩
def Q1(hs:fI X nt s a){o:Oper}{t e:TypeId}{n sz off lv sl ak:Nat}{x:Operand}{x':cu}(ho:o.op=.slice t x none none none)(ht:P.underlying t=some (.array n e))(hsz:dZ P e=some sz)(h0:n≠0)(hx:dD x=some x')(hq:x'.ev s.slots=.ptr lv sl ak 0 off):Quiet P X o a (.dx lv sl ak off n sz):=by have hv:=bC hs hx;rw[hq]at hv;obtain⟨L,hL,hv⟩:=hv;obtain⟨j,hj,HW⟩:=gj hsz;refine⟨.slice (some ⟨L.b,L.o+off,none⟩) n n,?_,L,n,hL,rfl,bc _,by omega,λhq=>absurd hq (mr _)⟩;simp[execOp,ho,hv,Instr.sliceAt,run_underlying ht,jU,Instr.sliceBounds,sizeOf,typeInfo,hj,Addr.add_lit]
def Q2(hs:fI X nt s a){o:Oper}{t e:TypeId}{n sz off lv sl ak:Nat}{k:Int}{x:Operand}{x':cu}(ho:o.op=.slice t x (some (.const (.int .i64 k))) none none)(ht:P.underlying t=some (.array n e))(hsz:dZ P e=some sz)(h0:0<=k)(hlt:k.toNat<n)(hx:dD x=some x')(hq:x'.ev s.slots=.ptr lv sl ak 0 off):Quiet P X o a (.dx lv sl ak (off+k.toNat*sz) (n-k.toNat) sz):=by
 have hv:=bC hs hx;rw[hq]at hv;obtain⟨L,hL,hv⟩:=hv;obtain⟨j,hj,HW⟩:=gj hsz;obtain⟨l,rfl⟩:=dE h0;have hne:¬n=l:=by omega
 have hle:¬n<l:=by omega
 have he:a.eval (.const (.int .i64 (l:Int)))=.int .i64 (l:Int):=rfl;refine⟨.slice (some ⟨L.b,L.o+(off+l*sz),none⟩) (n-l) (n-l),?_,L,n-l,hL,rfl,bc _,by omega,λhq=>absurd hq (mr _)⟩;simp[execOp,ho,hv,he,Instr.sliceAt,run_underlying ht,jU,Instr.sliceBounds,Instr.sliceBound,asIntOf,sizeOf,typeInfo,hj,HW,hne,hle,Addr.add_lit,eK]
def HX(hs:fI X nt s a){o:Oper}{t e:TypeId}{n:Nat}{x:Operand}{x':cu}(ho:o.op=.call {callee:=.builtin .len,args:=#[x],argTypes:=#[t]})(ht:P.underlying t=some (.slice e))(hx:dD x=some x')(hr:(∃els,(x'.ev s.slots=.d (.sl els)\/∃ow,x'.ev s.slots=.own els ow)/\n=els.length)\/(∃lv sl ak off sz,x'.ev s.slots=.ref lv sl ak off n sz)\/∃lv sl ak off sz,x'.ev s.slots=.dx lv sl ak off n sz):Quiet P X o a (qK n):=by
 have hv:=bC hs hx;have run:∀ad cap,a.eval x=.slice ad n cap->(execOp a.eval o).run P X.w=.ok (.value (.int .i64 n)) X.w:=by intro ad cap he;simp[execOp,ho,resolve,invoke,builtin,Builtin.len_,run_underlying ht,he,goInt]
 refine⟨.int .i64 n,?_,.CA rfl⟩;rcases hr with⟨els,hq,rfl⟩|⟨lv,sl,ak,off,sz,hq⟩|⟨lv,sl,ak,off,sz,hq⟩;.obtain⟨ad,cap,sz',b,off,h1,_⟩:=xx hq hv<;>grind
 .rw[hq]at hv;obtain⟨L,ad,cap,_,_,h,_⟩:=hv<;>grind
 .rw[hq]at hv;obtain⟨L,_,_,h,_⟩:=hv;exact run _ _ h
def aac(hs:fI X nt s a){o:Oper}{t e:TypeId}{els:List (List D)}{x:Operand}{x':cu}(ho:o.op=.call {callee:=.builtin .cap,args:=#[x],argTypes:=#[t]})(ht:P.underlying t=some (.slice e))(hx:dD x=some x')(hr:x'.ev s.slots=.own els .full):Quiet P X o a (qK els.length):=by have hv:=bC hs hx;rw[hr]at hv;obtain⟨ad,b,o',sz,hv,_⟩:=hv;refine⟨.int .i64 els.length,?_,.CA rfl⟩;simp[execOp,ho,resolve,invoke,builtin,Builtin.cap_,run_underlying ht,hv,goInt]
def aad(hs:fI X nt s a){o:Oper}{t:TypeId}{b:ByteArray}{x:Operand}{x':cu}(ho:o.op=.call {callee:=.builtin .len,args:=#[x],argTypes:=#[t]})(ht:P.underlying t=some .string)(hx:dD x=some x')(hr:x'.ev s.slots=.d (.sc (.string b))):Quiet P X o a (qK b.size):=by have hv:=bC hs hx;rw[hr]at hv;have hv:=hv.sc;refine⟨.int .i64 b.size,?_,.CA rfl⟩;simp[execOp,ho,resolve,invoke,builtin,Builtin.len_,run_underlying ht,hv,goInt]
def Po{o:Oper}{t:TypeId}{n:Nat}{x:Operand}(ho:o.op=.call {callee:=.builtin .len,args:=#[x],argTypes:=#[t]})(ht:(∃e,P.underlying t=some (.array n e))\/∃p e,P.underlying t=some (.pointer p)/\P.underlying p=some (.array n e)):Quiet P X o a (qK n):=by
 refine⟨.int .i64 n,?_,.CA rfl⟩;rcases ht with⟨e,ht⟩|⟨p,e,ht,hp⟩;.simp[execOp,ho,resolve,invoke,builtin,Builtin.len_,run_underlying ht,goInt]
 .simp[execOp,ho,resolve,invoke,builtin,Builtin.len_,run_underlying ht,run_underlying hp,goInt]
def Nb{x:AV}{v:Value}(h:jS x=true)(hv:VR X x v):E8 X x v:=by cases x<;>first|(cases h;done)|exact hv
def Ax(hs:fI X nt s a){o:Oper}{f:Nat}{cap:Array Operand}{cap':List cu}(ho:o.op=.makeFunc (.func f) #[] cap)(hc:jx cap.toList=some cap')(h0:(As s.slots cap').all jS=true):Quiet P X o a (.fG f (As s.slots cap')):=by have h:=xp hs hc;refine⟨.func (.func f) #[] (cap.map a.eval),by simp[execOp,ho,Instr.makeFunc],cap.map a.eval,rfl,?_⟩;rw[la];exact .tH h.length λi x v hx hv=>by obtain⟨v',nh,hr⟩:=h.get i x hx;rw[hv]at nh;injection nh with nh;subst nh;exact Nb (eQ.1 h0 x (f2 hx)) hr
def jV(hs:fI X nt s a){x:Option Operand}{x':Option cu}{n d:Nat}(hx:rQ x=some x')(h:gn x' s.slots d=some n):(x=none/\x'=none/\n=d)\/∃y k,x=some y/\x'.isSome=true/\a.eval y=.int k (n:Int):=by cases x with|none=>grind[rQ,gn]|some y=>simp only[rQ]at hx;cases hy:dD y with|none=>grind|some y'=>rw[hy]at hx;cases hx;obtain⟨k,hk⟩:=ld h (bC hs hy)<;>grind
def FR(hs:fI X nt s a){o:Oper}{t e:TypeId}{sz n cap l h k:Nat}{ad:Option Addr}{x:Operand}{lo hi mx:Option Operand}{lo' hi' Fb:Option cu}(ho:o.op=.slice t x lo hi mx)(ht:P.underlying t=some (.slice e))(hsz:dZ P e=some sz)(hx:a.eval x=.slice ad n cap)(hlo:rQ lo=some lo')(hhi:rQ hi=some hi')(TN:rQ mx=some Fb)(bl:gn lo' s.slots 0=some l)(bh:gn hi' s.slots 0=some h)(bk:gn Fb s.slots 0=some k)(c1:l<=(if hi'.isSome then h else n))(c2:(if hi'.isSome then h else n)<=(if Fb.isSome then k else cap))(c3:(if Fb.isSome then k else cap)<=cap)(c4:Fb.isSome=true->hi'.isSome=true):(execOp a.eval o).run P X.w=.ok (.value (.slice (if(if Fb.isSome then k else cap)=l then ad else ad.map (·.add (l*sz))) ((if hi'.isSome then h else n)-l) ((if Fb.isSome then k else cap)-l))) X.w:=by
 obtain⟨j,hj,HW⟩:=gj hsz;rcases jV hs TN bk with⟨rfl,rfl,rfl⟩|⟨my,mk,rfl,hm,hme⟩
 .rcases jV hs hhi bh with⟨rfl,rfl,rfl⟩|⟨hy,hk,rfl,hh,hhe⟩
  .simp[o0,jp,ns]at c1 c2 c3⊢;rcases jV hs hlo bl with⟨rfl,rfl,rfl⟩|⟨ly,lk,rfl,hl,hle⟩;.simp[execOp,ho,hx,Instr.sliceAt,run_underlying ht,Instr.slice,Instr.sliceBounds,sizeOf,typeInfo,hj]
   .simp[execOp,ho,hx,Instr.sliceAt,run_underlying ht,Instr.slice,Instr.sliceBounds,Instr.sliceBound,asIntOf,sizeOf,typeInfo,hj,HW,hle,c1]
  .simp[hh,i5,o0,jp,ns]at c1 c2 c3⊢;rcases jV hs hlo bl with⟨rfl,rfl,rfl⟩|⟨ly,lk,rfl,hl,hle⟩;.simp[execOp,ho,hx,Instr.sliceAt,run_underlying ht,Instr.slice,Instr.sliceBounds,Instr.sliceBound,asIntOf,sizeOf,typeInfo,hj,hhe,c2]
   .simp[execOp,ho,hx,Instr.sliceAt,run_underlying ht,Instr.slice,Instr.sliceBounds,Instr.sliceBound,asIntOf,sizeOf,typeInfo,hj,HW,hhe,hle,c1,c2]
 .rcases jV hs hhi bh with⟨rfl,rfl,rfl⟩|⟨hy,hk,rfl,hh,hhe⟩;.grind
  .simp[hh,hm,i5]at c1 c2 c3⊢;rcases jV hs hlo bl with⟨rfl,rfl,rfl⟩|⟨ly,lk,rfl,hl,hle⟩;.simp[execOp,ho,hx,Instr.sliceAt,run_underlying ht,Instr.slice,Instr.sliceBounds,Instr.sliceBound,asIntOf,sizeOf,typeInfo,hj,hhe,hme,c2,c3]
   .simp[execOp,ho,hx,Instr.sliceAt,run_underlying ht,Instr.slice,Instr.sliceBounds,Instr.sliceBound,asIntOf,sizeOf,typeInfo,hj,HW,hhe,hme,hle,c1,c2,c3]
def kI{els:List (List D)}{sz:Nat}(h:els.all (λe=>e.length==sz)=true):∀e∈els,e.length=sz:=λe he=>by grind
def qN{R:Nat->Nat->Prop}{els:List (List D)}{ad:Option Addr}{b o sz sz' l h m:Nat}(hl:eX X.w X.F R els b o sz')(had:0<els.length->ad=some ⟨b,o,none⟩)(c1:l<=h)(c2:h<=els.length)(c3:h<=m)(MZ:∀e∈els,e.length=sz):((els.drop l).take (h-l)).length=h-l/\(0<h-l->(if m=l then ad else ad.map (·.add (l*sz)))=some ⟨b,o+l*sz',none⟩)/\eX X.w X.F R ((els.drop l).take (h-l)) b (o+l*sz') sz':=by
 refine⟨by simp;omega,λh0=>?_,hl.sub l _⟩;rw[be (by omega),had (by omega)];have:sz'=sz:=by
  have hlt:0<els.length:=by omega
  have hm:=i7 hlt<;>grind[eX]
 subst this;simp[Addr.add_lit]
def TO(hs:fI X nt s a){o:Oper}{t e:TypeId}{sz l h k:Nat}{x:Operand}{x':cu}{lo hi mx:Option Operand}{lo' hi' Fb:Option cu}{r:AV}(ho:o.op=.slice t x lo hi mx)(ht:P.underlying t=some (.slice e))(hsz:dZ P e=some sz)(hx:dD x=some x')(hlo:rQ lo=some lo')(hhi:rQ hi=some hi')(TN:rQ mx=some Fb)(bl:gn lo' s.slots 0=some l)(bh:gn hi' s.slots 0=some h)(bk:gn Fb s.slots 0=some k)(c4:Fb.isSome=true->hi'.isSome=true)(hr:fV sz (x'.ev s.slots) l (hi'.map λ_=>h) (Fb.map λ_=>k)=some r):Quiet P X o a r:=by
 have hv:=bC hs hx;have eh:∀n,(hi'.map λ_=>h).getD n=if hi'.isSome then h else n:=λn=>by cases hi'<;>rfl
 have run:=λ(ad:Option Addr)(n cap:Nat)(he:a.eval x=.slice ad n cap)=>FR hs (P:=P) ho ht hsz he hlo hhi TN bl bh bk;unfold fV at hr;split at hr;.rename_i els hq;simp only[eh]at hr;obtain⟨ad,cap,sz',b,off,h1,h2,h3,h4⟩:=DR.Z2 (hq▸hv);have run:=run _ _ _ h1;generalize(if hi'.isSome=true then h else els.length)=H at hr run;cases JT:Fb with
  |none=>
   simp only[JT,wy,o0,jp,ns]at hr run c4;split at hr;.rename_i hc;obtain⟨g1,g2,g3⟩:=hc;cases hr;obtain⟨k1,k2,k3⟩:=qN (m:=cap) h4 h3 g1 g2 (by omega) (kI g3);exact⟨_,run g1 (by omega) (bc _) (by simp),DR.gF k3 k1 (by omega) k2⟩
   grind|some m'=>
   simp only[JT,cf,vd,i5]at hr run c4;split at hr;.rename_i hc;obtain⟨g1,g2,g4,g3⟩:=hc;cases hr;obtain⟨k1,k2,k3⟩:=qN (m:=k) h4 h3 g1 g4 (by omega) (kI g3);refine⟨_,run g1 (by omega) (by omega) (λ_=>c4 trivial),_,b,off+l*sz',sz',?_,λh0=>k2 (by omega),k3⟩;rw[k1,g2]
   grind
 .rename_i els ow hq;simp only[eh]at hr;rw[hq]at hv;replace run:=λad cap he=>run ad els.length cap he;generalize(if hi'.isSome=true then h else els.length)=H at hr run;cases JT:Fb with
  |none=>
   simp only[JT,wy,o0,jp,ns]at hr run c4;split at hr
   .rename_i hc;obtain⟨g1,g2,g3⟩:=hc;cases ow with|bG=>cases hr;obtain⟨ad,b,off,sz',cap,h1,h2,h3,h4⟩:=hv;obtain⟨k1,k2,k3⟩:=qN (m:=cap) h4 h3 g1 g2 (by omega) (kI g3);refine⟨_,run _ _ h1 g1 (by omega) (bc _) (by simp),_,b,off+l*sz',sz',cap-l,?_,?_,λh0=>k2 (by omega),k3⟩<;>grind|full=>
     simp at hr;obtain⟨ad,b,off,sz',h1,h3,h4⟩:=hv;obtain⟨k1,k2,k3⟩:=qN (m:=els.length) h4 h3 g1 g2 (by omega) (kI g3);have run:=run _ _ h1 g1 (by omega) (bc _) (by simp);split at hr;.rename_i hh;cases hr;rw[hh]at run k1 k2 k3;have e1:(els.drop l).take (els.length-l)=els.drop l:=fx (by simp);rw[e1]at k1 k3;refine⟨_,run,_,b,off+l*sz',sz',?_,λh0=>k2 (by omega),k3⟩<;>grind
     .cases hr;exact⟨_,run,DR.gF k3 k1 (by omega) k2⟩|cR ak tz=>cases hr;obtain⟨ad,b,off,sz',cap,h1,h2,h3,h4,_⟩:=hv;obtain⟨k1,k2,k3⟩:=qN (m:=cap) h4 (λh=>h3 (by omega)) g1 g2 (by omega) (kI g3);exact⟨_,run _ _ h1 g1 (by omega) (bc _) (by simp),DR.gF k3 k1 (by omega) k2⟩
   grind|some m'=>
   simp only[JT,cf,vd,i5]at hr run c4;split at hr
   .rename_i hc;obtain⟨g1,g2,g4,g3⟩:=hc;have done:∀(ad:Option Addr)(cap sz' b off:Nat),a.eval x=.slice ad els.length cap->els.length<=cap->(0<els.length->ad=some ⟨b,off,none⟩)->eX X.w X.F X.F els b off sz'->Quiet P X o a (.own ((els.drop l).take (H-l)) .full):=by intro ad cap sz' b off h1 h2 h3 h4;obtain⟨k1,k2,k3⟩:=qN (m:=k) h4 h3 g1 g4 (by omega) (kI g3);refine⟨_,run _ _ h1 g1 (by omega) (by omega) (λ_=>c4 trivial),_,b,off+l*sz',sz',?_,λh0=>k2 (by omega),k3⟩<;>grind
    cases ow with
    |bG=>
     simp only at hr;obtain⟨ad,b,off,sz',cap,h1,h2,h3,h4⟩:=hv;split at hr;.cases hr;refine⟨_,run _ _ h1 g1 (by omega) (by omega) (λ_=>c4 trivial),(if k=l then ad else ad.map (·.add (l*sz))),0,0,0,?_,λh0=>absurd h0 (by simp),eX.nil⟩<;>grind
     grind|full=>obtain⟨ad,b,off,sz',h1,h3,h4⟩:=hv<;>grind|cR ak tz=>obtain⟨ad,b,off,sz',cap,h1,h2,h3,h4,_⟩:=hv<;>grind
   grind
 .rename_i lv sl ak off n sz' hq;simp[eh]at hr;rw[hq]at hv;obtain⟨L,ad,cap,hL,h1,h2,h3,h4⟩:=hv;have run:=run _ _ _ h2;generalize(if hi'.isSome=true then h else n)=H at hr run;cases JT:Fb with
  |none=>
   simp only[JT,wy,o0,jp,ns]at hr run c4;split at hr;.rename_i hc;obtain⟨g1,g2,g3⟩:=hc;cases hr;subst g3;refine⟨_,run g1 (by omega) (bc _) (by simp),L,_,_,hL,h1,rfl,by omega,λh0=>?_⟩;obtain⟨rfl,h5⟩:=h4 (by omega);refine⟨?_,by omega⟩;rw[be (by omega)];simp[Addr.add_lit,d9,eK]
   grind|some m'=>
   simp only[JT,cf,vd,i5]at hr run c4;split at hr;.rename_i hc;obtain⟨g1,g2,g3⟩:=hc;injection hr with hr;subst hr;refine⟨_,run (by omega) (by omega) (by omega) (λ_=>c4 trivial),(if k=l then ad else ad.map (·.add (l*sz))),0,0,0,?_,λh0=>absurd h0 (by simp),eX.nil⟩;rw[show H-l=0 by omega,show k-l=0 by omega];rfl
   .split at hr;.rename_i hc;obtain⟨g1,g2,g3,g4⟩:=hc;injection hr with hr;subst hr;subst g4;refine⟨_,run g1 (by omega) (by omega) (λ_=>c4 trivial),L,_,_,hL,h1,rfl,by omega,λh0=>?_⟩;obtain⟨rfl,h5⟩:=h4 (by omega);refine⟨?_,by omega⟩;rw[be (by omega)];simp[Addr.add_lit,d9,eK]
    .cases hr
 .cases hr
def Q3(hs:fI X nt s a){o:Oper}{t:TypeId}{l h:Nat}{x:Operand}{x':cu}{lo hi:Option Operand}{lo' hi':Option cu}{b:ByteArray}(ho:o.op=.slice t x lo hi none)(ht:P.underlying t=some .string)(hx:dD x=some x')(hlo:rQ lo=some lo')(hhi:rQ hi=some hi')(hq:x'.ev s.slots=.d (.sc (.string b)))(bl:gn lo' s.slots 0=some l)(bh:gn hi' s.slots b.size=some h)(c1:l<=h)(c2:h<=b.size):Quiet P X o a (nC (.string (b.extract l h))):=by
 have hv:=bC hs hx;rw[hq]at hv;have hv:=hv.sc;refine⟨_,?_,.nC rfl⟩;rcases jV hs hhi bh with⟨rfl,rfl,rfl⟩|⟨hy,hk,rfl,hh,hhe⟩
 .rcases jV hs hlo bl with⟨rfl,rfl,rfl⟩|⟨ly,lk,rfl,hl,hle⟩;.simp[execOp,ho,hv,Instr.sliceAt,run_underlying ht,Instr.slice,Instr.sliceBounds]
  .simp[execOp,ho,hv,Instr.sliceAt,run_underlying ht,Instr.slice,Instr.sliceBounds,Instr.sliceBound,asIntOf,hle,c1]
 .rcases jV hs hlo bl with⟨rfl,rfl,rfl⟩|⟨ly,lk,rfl,hl,hle⟩;.simp[execOp,ho,hv,Instr.sliceAt,run_underlying ht,Instr.slice,Instr.sliceBounds,Instr.sliceBound,asIntOf,hhe,c2]
  .simp[execOp,ho,hv,Instr.sliceAt,run_underlying ht,Instr.slice,Instr.sliceBounds,Instr.sliceBound,asIntOf,hhe,hle,c1,c2]
end
end Go.bK
