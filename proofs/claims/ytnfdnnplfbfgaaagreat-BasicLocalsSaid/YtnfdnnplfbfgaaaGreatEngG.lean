/- Parts of the proof. -/
import Derived.Orders
import Derived.Below
import Derived.Laws.CopyRow
import Derived.Laws.StructEq
import Derived.Laws.Slices
import Derived.Laws.Entries
import Derived.Laws.Cells
import Derived.Laws.Tables
import Derived.Laws.MakeOwn
set_option linter.unusedVariables false
set_option linter.unusedSimpArgs false
set_option linter.defProp false
namespace Go
set_option linter.defProp false
def ae:=@Option.bind_some
def am:=@Int.toNat_natCast
def aw:=@List.getElem?_eq_getElem
def ba:=@Bool.and_eq_true
def bb:=@Nat.eq_of_beq_eq_true
def bc:=@List.length_append
def bd:=@Nat.le_refl
def be:=@if_pos
def bi:=@if_neg
def bj:=@List.append_assoc
def bm:=@List.mem_append
def bo:=@Int.eq_ofNat_of_zero_le
def bv:=@decide_eq_true
def ca:=@List.mem_singleton
def cb:=@decide_eq_false
def cf:=@Option.map_some
def ci:=@List.mem_cons_self
def da:=@List.getD_eq_getElem?_getD
def db:=@List.getElem?_eq_some_iff
def dj:=@decide_eq_true_eq
def dk:=@Bool.not_true
def dl:=@List.length_singleton
def dp:=@List.mem_cons_of_mem
def dq:=@List.mem_cons
def dt:=@List.mem_append_left
def du:=@List.mem_append_right
def dv:=@List.append_nil
def dC:=@Option.some.inj
def dE:=@of_decide_eq_true
def dT:=@Nat.add_zero
def d6:=@List.length_replicate
def d7:=@List.not_mem_nil
def d8:=@Nat.mul_le_mul_right
def d9:=@Nat.add_mul
def eI:=@List.getElem?_map
def eJ:=@List.getElem?_eq_none
def eK:=@List.length_cons
def eQ:=@List.flatMap_cons
def fa:=@List.eq_nil_of_length_eq_zero
def fb:=@Nat.add_assoc
def fg:=@List.all_cons
def fi:=@Prod.mk.injEq
def fj:=@Option.some.injEq
def fr:=@Bool.not_eq_true'
def ft:=@Bool.true_and
def fw:=@List.getElem_mem
def fx:=@List.map_append
def f0:=@Option.map_eq_some_iff
def f8:=@List.take_of_length_le
def f9:=@List.take_length
def gc:=@List.map_cons
def ge:=@List.nil_append
def gg:=@List.getElem?_take
def ib:=@Bool.or_eq_true
def ii:=@Array.length_toList
def im:=@beq_self_eq_true
def io:=@List.length_take
def iv:=@List.length_map
def i5:=@Bool.not_false
def i6:=@Bool.and_false
def i7:=@Nat.le_of_ble_eq_true
def i9:=@Nat.lt_or_ge
def jn:=@List.mem_of_getElem?
def jp:=@List.mem_iff_getElem
def j1:=@List.mem_map
def ka:=@List.getElem?_replicate
def kb:=@List.mem_of_mem_take
def kh:=@Bool.or_eq_false_iff
def km:=@List.drop_eq_getElem_cons
def kp:=@if_true
def kv:=@Bool.false_eq_true
def kw:=@congrArg
def kx:=@forall_eq_or_imp
def la:=@decide_eq_decide
def lc:=@List.map_nil
def lh:=@Array.getD_eq_getD_getElem?
def lj:=@Nat.lt_of_lt_of_le
def ll:=@beq_iff_eq
def lr:=@or_false
def ls:=@Bool.eq_iff_iff
def lw:=@Option.bind_eq_some_iff
def lx:=@List.all_eq_true
def lA:=@Bool.and_true
def lL:=@List.getElem?_append_right
def lO:=@List.ext_getElem?
def ma:=@Array.getElem?_eq_some_iff
def mi:=@forall_eq
def ml:=@beq_eq_false_iff_ne
def mn:=@List.any_eq_true
def mr:=@Array.toList_map
def mt:=@decide_eq_false_iff_not
def m6:=@Nat.lt_trichotomy
def m7:=@List.length_nil
def m8:=@List.replicate_zero
def m9:=@Nat.zero_add
def na:=@Nat.ne_of_beq_eq_false
def nb:=@Nat.le_trans
def nf:=@Nat.pow_lt_pow_right
def nl:=@List.mem_of_mem_drop
def nn:=@List.getElem?_set
def ns:=@BitVec.ofInt_natCast
def nz:=@List.getElem?_range
def n3:=@if_false
def oi:=@List.mem_flatMap
def ol:=@List.length_drop
def o0:=@Option.isSome_none
def pb:=@List.pairwise_cons
def pd:=@BitVec.toNat_ofNat
def ph:=@Nat.min_eq_left
def pi:=@Int.natCast_mul
def pj:=@List.flatten_cons
def pm:=@decide_true
def po:=@Nat.pow_le_pow_right
def pp:=@Bool.false_and
def pr:=@Nat.mul_zero
def pt:=@List.cons_append
def pu:=@Int.add_zero
def pv:=@List.mem_take_iff_getElem
def pw:=@List.getElem?_append_left
def px:=@Array.getElem?_eq_getElem
def py:=@List.replicate_succ
def pA:=@Nat.lt_irrefl
def pB:=@Bool.not_eq_false'
def pC:=@Nat.le_succ
def pD:=@Ne.symm
def qr:=@Nat.sub_self
def rb:=@Nat.mul_le_mul
def rc:=@List.map_map
def rf:=@List.length_range
def rh:=@Nat.ble_eq_true_of_le
def rl:=@List.set_append_right
def rm:=@Nat.mod_eq_of_lt
def ro:=@Bool.not_eq_true
def rp:=@Nat.mul_one
def rt:=@Int.toNat_of_nonneg
def rx:=@List.mem_replicate
def sa:=@List.getElem?_drop
def se:=@Int.fdiv_eq_ediv_of_nonneg
def sf:=@Array.getElem?_append_left
def sm:=@Nat.or_lt_two_pow
def ss:=@List.any_eq_false
def sT:=@List.map_take
def tb:=@Option.getD_some
def te:=@List.filter_cons
def ti:=@List.drop_length
def tl:=@not_or
def tx:=@decide_false
def t6:=@Nat.testBit_lt_two_pow
def t7:=@List.filter_eq_nil_iff
def t8:=@List.drop_of_length_le
def ub:=@Nat.min_le_left
def ui:=@Bool.decide_and
def ul:=@Nat.one_mul
def ut:=@List.pairwise_append
def vd:=@List.mem_range
def vx:=@Int.mul_nonneg
def vy:=@Int.mul_le_mul
def wa:=@List.map_drop
def wc:=@Option.isSome_some
def wd:=@List.set_cons_zero
def wi:=@List.set_cons_succ
def wl:=@List.filter_filter
def wn:=@List.append_of_mem
def wt:=@not_true_eq_false
def ww:=@Nat.mul_comm
def wx:=@List.filter_congr
def wy:=@List.all_nil
def xa:=@Bool.or_true
def xc:=@Bool.eq_false_iff
def xf:=@Option.elim_none
def xi:=@Nat.lt_succ_self
def xr:=@List.isEmpty_iff
def xt:=@List.drop_append
def yi:=@Nat.zero_le
def yk:=@Int.le_refl
def yn:=@Option.map_none
def yr:=@List.range_zero
def y0:=@List.length_set
def zr:=@List.foldl_cons
def zt:=@dif_neg
def At:=@Nat.mod_lt
def Do:=@List.take_zero
def Eq:=@List.Perm.refl
def EQ:=@Bool.or_false
def Fd0:=@Bool.and_self
def FS:=@getElem!_pos
def GE:=@Nat.succ_mul
def GT:=@Nat.sub_zero
def Ha:=@Nat.ne_of_lt
def Hb:=@Int.le_trans
def Hc:=@Iff.rfl
def Hd:=@Bool.or_self
def Hk:=@Int.one_mul
end Go
namespace Go.bS
open Go
inductive D where|sc(v:Value)|sl(els:List (List D))|er deriving Inhabited
inductive YT where|full|cT(av sz:Nat)|aY deriving Inhabited
inductive AV where|d(x:D)|own(els:List (List D))(o:YT)|agg(cs:List AV)|jU(vs:List AV)|ref(lv sl av off len sz:Nat)|ptr(lv sl av i off:Nat)|fX(lv sl av off n sz:Nat)|gw(e:List D)(off:Nat)|fL(f:Nat)(cap:List AV)|mp(lv sl av:Nat)deriving Inhabited
inductive bM where|row(av:Nat)(els:List (List D))|box(av:Nat)(cells:List AV)|Po(av:Nat)(els:List (List D))|mp(av:Nat)(ks:List (List UInt8))deriving Inhabited
inductive Tr(α:Type)where|lf|nd(v:Option α)(l r:Tr α)deriving Inhabited
def Tr.get?{α:Type}:Tr α->Nat->Option α|.lf,_=>none|.nd v l r,n=>match Nat.beq n 0with|true=>v|false=>match Nat.beq (n%2) 1with|true=>l.get? (n/2)|false=>r.get? (n/2-1)
def Tr.top{α:Type}:Tr α->Option α|.lf=>none|.nd v _ _=>v
def Tr.left{α:Type}:Tr α->Tr α|.lf=>.lf|.nd _ l _=>l
def Tr.right{α:Type}:Tr α->Tr α|.lf=>.lf|.nd _ _ r=>r
def Tr.Sh{α:Type}:Nat->Tr α->Nat->Option α->Tr α|0,t,_,_=>t|f+1,t,n,x=>match Nat.beq n 0with|true=>.nd x t.left t.right|false=>match Nat.beq (n%2) 1with|true=>.nd t.top (Tr.Sh f t.left (n/2) x) t.right|false=>.nd t.top t.left (Tr.Sh f t.right (n/2-1) x)
def Tr.set{α:Type}(t:Tr α)(n:Nat)(x:Option α):Tr α:=Tr.Sh (n+1) t n x
structure St where
 slots:Tr AV
 mem:List (Tr bM)aO:Tr Unit
 nv:Nat deriving Inhabited
inductive cq where|t(n:Nat)|c(v:AV)deriving Inhabited
def kI:AV:=.jU []
def dL(s:Tr AV)(n:Nat):AV:=(s.get? n).getD kI
def cq.ev(s:Tr AV):cq->AV|.t n=>dL s n|.c v=>v
inductive cy where|IV(x:cq)|pick(c a b:cq)|alloc(zero:List AV)|box(x:cq)|build(zero:List AV)(parts:List (Nat×Nat×cq))|buildSlice(sz n:Nat)(zero:List D)(parts:List (Nat×cq))|load(sz:Nat)(agg:Bool)(x:cq)|store(sz:Nat)(x v:cq)|nilCheck(x:cq)|bin(op:BinOp)(x y:cq)|Y7(neg:Bool)(x y:cq)|Y8(neg:Bool)(sz:Nat)(cells:List (Nat×Nat))(x y:cq)|zN(neg:Bool)(x:cq)|un(op:UnOp)(x:cq)|conv(k:IntKind)(x:cq)|field(off sz:Nat)(agg:Bool)(x:cq)|fieldAddr(off:Nat)(x:cq)|indexAddr(sz:Nat)(x i:cq)|ld(n sz:Nat)(x i:cq)|rG(n sz:Nat)(agg:Bool)(x i:cq)|rH(x i:cq)|slice(sz:Nat)(x:cq)(lo hi mx:Option cq)|rI(x:cq)(lo hi:Option cq)|extract(x:cq)(i:Nat)|len(x:cq)|GO(x:cq)|IW(x:cq)|b2s(x:cq)|s2b(x:cq)|mkSet|IX(m k:cq)|IY(m k:cq)|EC(n:Nat)|GP(x y:cq)|GQ(x y:cq)|append(sz bytes:Nat)(x y:cq)|pU(sz bytes:Nat)(z:List D)(x n:cq)|copy(sz:Nat)(x y:cq)|makeSlice(sz bytes:Nat)(zero:List D)(len cap:cq)|makeFunc(f:Nat)(cap:List cq)|sliceB(n sz:Nat)(x:cq)|sZ(lo n sz:Nat)(x:cq)|clear(sz:Nat)(zero:List D)(x:cq)|grow(sz:Nat)(x n:cq)|clone(sz bytes:Nat)(x:cq)|sort(x:cq)|compact(x:cq)|bad|call(f:Nat)(args:List cq)|wP(f:Nat)(args:List cq)|zO(x:cq)(args:List cq)deriving Inhabited
structure bG where
 dst:Option Nat
 op:cy
 gd:Option (Nat×Bool)oW:Nat
 row:Nat deriving Inhabited
inductive AC where|skip|region(ops:List bG)(draw:Bool)|seq(a b:AC)|cond(c:cq)(a b:AC)|block(id:Nat)(c:AC)|loop(c:AC)|exit(id:Nat)|ret deriving Inhabited
inductive Bd where|t(n:Nat)|cell(n sz:Nat)(agg:Bool)deriving Inhabited
structure rF where
 np:Nat
 nt:Nat
 res:List Bd
 body:AC
 sh:Bool deriving Inhabited
def aT(m:List (Tr bM))(lv sl:Nat):Option bM:=(m[lv]?).bind λt=>t.get? sl
def cH(m:List (Tr bM))(lv sl:Nat)(e:Option bM):List (Tr bM):=m.modify lv λt=>t.set sl e
def rowAt(m:List (Tr bM))(lv sl av:Nat):Option (List (List D)):=match aT m lv sl with
 |some (.row v els)=>match Nat.beq v av with|true=>some els|false=>none
 |_=>none
def pV(m:List (Tr bM))(lv sl av:Nat):Option (List AV):=match aT m lv sl with
 |some (.box v cs)=>match Nat.beq v av with|true=>some cs|false=>none
 |_=>none
def setAt(m:List (Tr bM))(lv sl av:Nat):Option (List (List UInt8)):=match aT m lv sl with
 |some (.mp v ks)=>match Nat.beq v av with|true=>some ks|false=>none
 |_=>none
def hasB(ks:List (List UInt8))(k:List UInt8):Bool:=ks.any λl=>decide (k=l)
def tc(ks:List (List UInt8))(k:List UInt8):List (List UInt8):=match hasB ks k with|true=>ks|false=>ks++[k]
def sG(m:List (Tr bM))(lv sl av:Nat):Option (List (List D)):=match aT m lv sl with
 |some (.row v els)=>match Nat.beq v av with|true=>some els|false=>none
 |some (.Po v els)=>match Nat.beq v av with|true=>some els|false=>none
 |_=>none
def dQ(m:List (Tr bM)):AV->Option (List (List D))|.d (.sl els)=>some els|.own els _=>some els|.ref lv sl av off len _=>(sG m lv sl av).bind λels=>if off+len<=els.length then some ((els.drop off).take len)else none|_=>none
def cellsOf:AV->Option (List AV)|.agg cs=>some cs|.jU _=>none|v=>some [v]
def Be(m:List (Tr bM)):AV->Option (D×List (Nat×Nat))|.d x=>some (x,[])|.own els .full=>some (.sl els,[])|.own els (.cT _ _)=>some (.sl els,[])|.ref lv sl av off len sz=>(dQ m (.ref lv sl av off len sz)).map λels=>(.sl els,[(lv,sl)])|_=>none
def ED(m:List (Tr bM)):List AV->Option (List D×List (Nat×Nat))|[]=>some ([],[])|x::r=>match Be m x,ED m r with|some (y,k),some (ys,ks)=>some (y::ys,k++ks)|_,_=>none
def E4(m:List (Tr bM))(x:AV):Option (List D×List (Nat×Nat)):=(cellsOf x).bind (ED m)
def splice{α:Type}(cs:List α)(off:Nat)(new:List α):List α:=cs.take off++new++cs.drop (off+new.length)
def E5(op:BinOp)(k:IntKind)(a b:Int):Option Int:=let x:=BitVec.ofInt k.bits a;let y:=BitVec.ofInt k.bits b;match op with|.and=>some (k.wrap (x&&&y).toNat)|.or=>some (k.wrap (x|||y).toNat)|.xor=>some (k.wrap (x^^^y).toNat)|.andNot=>some (k.wrap (x&&&~~~y).toNat)|_=>none
def GR(op:BinOp)(k:IntKind)(a:Int)(k':IntKind)(b:Int):Option Value:=match op with|.shl=>if b<0then none else some (.int k (k.wrap (a*2^min b.toNat k.bits)))|.shr=>if b<0then none else some (.int k (a.fdiv (2^min b.toNat k.bits)))|op=>if k≠k' then none else match op with|.add=>some (.int k (k.wrap (a+b)))|.sub=>some (.int k (k.wrap (a-b)))|.mul=>some (.int k (k.wrap (a*b)))|.quo=>if b=0then none else some (.int k (k.wrap (a.tdiv b)))|.rem=>if b=0then none else some (.int k (a.tmod b))|.and|.or|.xor|.andNot=>(E5 op k a b).map (.int k)|.eql=>some (.bool (a==b))|.neq=>some (.bool (a !=b))|.lss=>some (.bool (a<b))|.leq=>some (.bool (a<=b))|.gtr=>some (.bool (a>b))|.geq=>some (.bool (a>=b))|_=>none
def LX(op:BinOp)(x y:ByteArray):Option Value:=match op with|.add=>if((x.size+y.size:Nat):Int)>IntKind.i64.max then none else some (.string (x++y))|.eql=>some (.bool (x.toList==y.toList))|.neq=>some (.bool !(x.toList==y.toList))|.lss=>some (.bool (Op.bytesLess x.toList y.toList))|.leq=>some (.bool (Op.bytesLess x.toList y.toList||x.toList==y.toList))|.gtr=>some (.bool !(Op.bytesLess x.toList y.toList||x.toList==y.toList))|.geq=>some (.bool !(Op.bytesLess x.toList y.toList))|_=>none
def Si(op:BinOp):AV->AV->Option Value|.d (.sc (.int k a)),.d (.sc (.int k' b))=>GR op k a k' b|.d (.sc (.string a)),.d (.sc (.string b))=>LX op a b|_,_=>none
def IZ(kd:Nat):AV->AV->Option Bool
 |.d (.sc (.bool a)),.d (.sc (.bool b))=>match kd with|0=>some (a==b)|_=>none
 |.d (.sc (.int k a)),.d (.sc (.int k' b))=>match kd with|1=>if k=k' then some (a==b)else none|_=>none
 |.d (.sc (.string a)),.d (.sc (.string b))=>match kd with|0=>none|1=>none|_=>some (a==b)
 |_,_=>none
def nI(xs ys:List AV):List (Nat×Nat)->Option Bool|[]=>some true|o::r=>match xs[o.1]?,ys[o.1]?with
 |some x,some y=>match IZ o.2 x y with|some true=>nI xs ys r|some false=>some false|none=>none
 |_,_=>none
def unA(op:UnOp):AV->Option Value
 |.d (.sc (.bool b))=>match op with|.not=>some (.bool !b)|_=>none
 |.d (.sc (.int k n))=>match op with|.neg=>some (.int k (k.wrap (0-n)))|.xor=>(E5 .xor k (if k.signed then-1 else k.max) n).map (.int k)|_=>none
 |_=>none
def td:AV->Option Int|.d (.sc (.int _ n))=>some n|_=>none
def gN(x:AV):Option Nat:=(td x).bind λn=>if 0<=n then some n.toNat else none
def jW:AV->Option Bool|.d (.sc (.bool b))=>some b|_=>none
def nJ(v:Value):AV:=.d (.sc v)
def qF(n:Nat):AV:=.d (.sc (.int .i64 n))
def jX:AV->Bool|.agg _|.jU _|.fL _ _=>false|_=>true
structure gu where
 val:AV
 dD:List (Nat×Nat×Option bM)cT:List (Nat×Bool)rd:List (Nat×Nat×Nat)deriving Inhabited
inductive ir where|cu(e:gu)|all(val:AV)(mem:List (Tr bM))(aO:Tr Unit)(nv:Nat)deriving Inhabited
def gu.pure(v:AV):Option ir:=some (.cu {val:=v,dD:=[],cT:=[],rd:=[]})
def cF(lv sl:Nat):Nat×Nat×Nat:=(0,lv,sl)
def kZ(v:Nat):Nat×Nat×Nat:=(1,v,0)
def gu.wr(e:gu):List (Nat×Nat×Nat):=e.dD.map (λu=>cF u.1 u.2.1)++e.cT.map λu=>kZ u.1
def dN:AV->List (Nat×Nat×Nat)|.ref lv sl _ _ _ _=>[cF lv sl]|.ptr lv sl _ _ _=>[cF lv sl]|.fX lv sl _ _ _ _=>[cF lv sl]|.mp lv sl _=>[cF lv sl]|_=>[]
def e9:AV->List (Nat×Nat×Nat)|.agg cs=>cs.flatMap dN|v=>dN v
def bI(m:List (Tr bM)):List (Nat×Nat×Option bM)->List (Tr bM)|[]=>m|(lv,sl,e)::r=>bI (cH m lv sl e) r
def eO(t:Tr Unit):List (Nat×Bool)->Tr Unit|[]=>t|(v,b)::r=>eO (t.set v (if b then some ()else none)) r
def oa(s:Tr AV)(dst:Option Nat)(v:AV):Tr AV:=match dst with|some n=>s.set n (some v)|none=>s
def St.app(s:St)(dst:Option Nat):ir->St|.cu e=>{slots:=oa s.slots dst e.val,mem:=bI s.mem e.dD,aO:=eO s.aO e.cT,nv:=s.nv}|.all v m t n=>{slots:=oa s.slots dst v,mem:=m,aO:=t,nv:=n}
abbrev Call:=Nat->List AV->List (Tr bM)->Tr Unit->Nat->Option (AV×List (Tr bM)×Tr Unit×Nat)
def dm(m:List (Tr bM)):AV->Option AV|.d x=>some (.d x)|.own els .aY=>some (.own els .aY)|.own els _=>some (.d (.sl els))|.ref lv sl av off len sz=>(dQ m (.ref lv sl av off len sz)).map λels=>.own els .aY|.fL f []=>some (.fL f [])|_=>none
def fc(m:List (Tr bM)):AV->Option (AV×List (Nat×Nat))|.own els .aY=>some (.own els .aY,[])|.fL f []=>some (.fL f [],[])|x=>(Be m x).map λ(y,k)=>(.d y,k)
def fY(m:List (Tr bM)):List AV->Option (List AV×List (Nat×Nat))|[]=>some ([],[])|x::r=>match fc m x,fY m r with|some (y,k),some (ys,ks)=>some (y::ys,k++ks)|_,_=>none
def yI(m:List (Tr bM)):AV->Option (AV×List (Nat×Nat))|.agg cs=>(fY m cs).map λ(ys,ks)=>(.agg ys,ks)|x=>(dm m x).map λy=>(y,[])
def sH(m:List (Tr bM)):List AV->Option (List AV×List (Nat×Nat))|[]=>some ([],[])|x::r=>match yI m x,sH m r with|some (y,k),some (ys,ks)=>some (y::ys,k++ks)|_,_=>none
def pW(top pk:Nat):Bool:=!Nat.beq pk 0&&!Nat.beq top 0
def bC(cm:List (Tr bM))(top pk k:Nat)(lv sl av:Nat):AV->Option (AV×List (List (List D)))
 |.d x=>some (.d x,[])|.own els .full=>match !Nat.beq (pk/65536) 0&&Nat.beq k (pk%65536),els with|true,[]=>some (.ref lv sl av 0 0 (pk/65536),[[]])|_,els=>match pW top pk||Nat.beq (pk%65536) 65535with|true=>some (.own els .full,[])|false=>some (.d (.sl els),[])
 |.own els (.cT v tz)=>match pW top pk with|true=>some (.own els (.cT v tz),[])|false=>some (.d (.sl els),[])
 |.ref cV dy gU off len sz=>match Nat.ble top cV with|false=>some (.ref cV dy gU off len sz,[])|true=>match dQ cm (.ref cV dy gU off len sz)with|none=>none|some els=>match Nat.beq pk 0with|true=>some (.d (.sl els),[])|false=>match Nat.beq k (pk%65536)with
  |true=>match rowAt cm cV dy gU with|some _=>some (.ref lv sl av 0 len sz,[els])|none=>none
  |false=>match rowAt cm cV dy gU with|some _=>none|none=>some (.d (.sl els),[])
 |.fL f []=>some (.fL f [],[])|.ptr cV dy gU i off=>match Nat.ble top cV with|false=>some (.ptr cV dy gU i off,[])|true=>none
 |_=>none
def dR(cm:List (Tr bM))(top pk lv sl av:Nat):Nat->List AV->Option (List AV×List (List (List D)))|_,[]=>some ([],[])|k,x::r=>match bC cm top pk k lv sl av x,dR cm top pk lv sl av (k+1) r with|some (y,u),some (ys,us)=>some (y::ys,u++us)|_,_=>none
def mF(cm:List (Tr bM))(top pk lv sl av k:Nat):AV->Option (AV×List (List (List D)))|.agg cs=>(dR cm top pk lv sl av k cs).map λ(vs,u)=>(.agg vs,u)|x=>bC cm top pk k lv sl av x
def gx(cm:List (Tr bM))(top pk lv sl av:Nat):Nat->List AV->Option (List AV×List (List (List D)))|_,[]=>some ([],[])|k,x::r=>match mF cm top pk lv sl av k x,gx cm top pk lv sl av (k+64) r with|some (y,u),some (ys,us)=>some (y::ys,u++us)|_,_=>none
def jc(cm:List (Tr bM))(top pk lv sl av:Nat):AV->Option (AV×List (List (List D)))|.jU vs=>(gx cm top pk lv sl av 1 vs).map λ(vs,u)=>(.jU vs,u)|x=>mF cm top pk lv sl av 1 x
def lg(lv sl av:Nat):List (List (List D))->Option (List (Nat×Nat×Option bM))|[]=>some []|[els]=>some [(lv,sl,some (.row av els))]|_=>none
def bM.nK:bM->Option bM|.row v els=>some (.Po v els)|.box _ _=>none|.Po v els=>some (.Po v els)|.mp _ _=>none
def eR(m:List (Tr bM))(ks:List (Nat×Nat)):List (Nat×Nat×Option bM):=ks.map λk=>(k.1,k.2,(aT m k.1 k.2).bind bM.nK)
def jx(ks:List (Nat×Nat)):List (Nat×Nat×Nat):=ks.map λk=>cF k.1 k.2
def gy:AV->Bool|.jU _=>false|_=>true
def Sj:AV->Bool|.d _=>true|_=>false
def GS:AV->Bool|.agg cs=>cs.all Sj|x=>Sj x
def adq:AV->Bool|.jU vs=>vs.all GS|x=>GS x
def gO(call:Call)(shared:Bool)(row:Nat)(s:St)(lv sl aZ:Nat)(f:Nat)(args:List AV):Option ir:=match shared with
 |false=>match sH s.mem args with|none=>none|some (aU,ks)=>match call f aU [.lf] .lf 0with|none=>none|some (r,cm,_,_)=>match jc cm 0 row lv sl aZ r with|none=>none|some (v,us)=>match lg lv sl aZ us with|none=>none|some u=>some (.cu {val:=v,dD:=eR s.mem ks++u,cT:=[],rd:=args.flatMap e9})
 |true=>match args.all gy with|false=>none|true=>match call f args (s.mem++[.lf]) s.aO s.nv with|none=>none|some (r,cm,ts,n)=>match jc cm s.mem.length row lv sl aZ r with|none=>none|some (v,us)=>match lg lv sl aZ us with|none=>none|some u=>some (.all v (bI (cm.take s.mem.length) u) ts n)
def yJ(m:List (Tr bM)):AV->Option (AV×List (Nat×Nat))|.agg cs=>(fY m cs).map λ(ys,ks)=>(.agg ys,ks)|x=>fc m x
def sI(m:List (Tr bM)):List AV->Option (List AV×List (Nat×Nat))|[]=>some ([],[])|x::r=>match yJ m x,sI m r with|some (y,k),some (ys,ks)=>some (y::ys,k++ks)|_,_=>none
def oX(call:Call)(s:St)(aZ f:Nat)(args:List AV):Option ir:=match sI s.mem args with|none=>none|some (aU,ks)=>match call f aU [.lf] .lf 0with|none=>none|some (r,cm,_,_)=>match jc cm 0 0 0 0 aZ r with|some (v,[])=>some (.cu {val:=v,dD:=eR s.mem ks,cT:=[],rd:=args.flatMap e9})|_=>none
def qq(m:List (Tr bM)):List AV->Option (List AV)|[]=>some []|x::r=>match dm m x,qq m r with|some y,some ys=>some (y::ys)|_,_=>none
def sJ(m:List (Tr bM)):AV->Option AV|.agg cs=>(qq m cs).map .agg|x=>dm m x
def rJ(m:List (Tr bM)):List AV->Option (List AV)|[]=>some []|x::r=>match sJ m x,rJ m r with|some y,some ys=>some (y::ys)|_,_=>none
def oY(call:Call)(s:St)(aZ f:Nat)(args:List AV):Option ir:=match rJ s.mem args with|none=>none|some aU=>match call f aU [.lf] .lf 0with|none=>none|some (r,cm,_,_)=>match jc cm 0 0 0 0 aZ r with|some (v,[])=>some (.cu {val:=v,dD:=[],cT:=[],rd:=args.flatMap e9})|_=>none
def rK(call:Call)(s:St)(f:Nat)(args:List AV):Option ir:=match args.all gy with|false=>none|true=>match call f args (s.mem++[.lf]) s.aO s.nv with|none=>none|some (r,cm,ts,n)=>some (.all r cm ts n)
def jd(m:List (Tr bM)):AV->Option D|.d x=>some x|.own els _=>some (.sl els)|.ref lv sl av off len sz=>(dQ m (.ref lv sl av off len sz)).map .sl|_=>none
def jy(m:List (Tr bM)):List AV->Option (List D)|[]=>some []|x::r=>match jd m x,jy m r with|some y,some ys=>some (y::ys)|_,_=>none
def chunk{α:Type}(sz:Nat):Nat->List α->List (List α)|0,_=>[]|n+1,l=>l.take sz::chunk sz n (l.drop sz)
def mw(m:List (Tr bM)):AV->Option AV
 |.agg cs=>(jy m cs).map λds=>.agg (ds.map .d)|.fL f []=>some (.fL f [])|.fX lv sl av off n sz=>match pV m lv sl av with|some cs=>if off+n*sz<=cs.length then(jy m ((cs.drop off).take (n*sz))).map λds=>.d (.sl (chunk sz n ds))else none|none=>none
 |x=>(jd m x).map .d
def wQ(m:List (Tr bM)):List AV->Option (List AV)|[]=>some []|x::r=>match mw m x,wQ m r with|some y,some ys=>some (y::ys)|_,_=>none
def rL(m:List (Tr bM)):AV->List (Nat×Nat×Nat)|.fX lv sl av _ _ _=>cF lv sl::(match pV m lv sl av with|some cs=>cs.flatMap dN|none=>[])|v=>e9 v
def BR:AV->Bool|.d (.sc _)=>true|.d (.sl [])=>true|_=>false
def E6:AV->Bool|.agg cs=>cs.all BR|x=>BR x
def Sk:AV->Bool|.jU vs=>vs.all E6|x=>E6 x
def lu(call:Call)(s:St)(f:Nat)(args:List AV):Option ir:=match wQ s.mem args with|none=>none|some aU=>match call f aU [.lf] .lf 0with|none=>none|some (r,cm,_,_)=>match jc cm 0 0 0 0 0 r with
 |some (v,[])=>match Sk v with|true=>some (.cu {val:=v,dD:=[],cT:=[],rd:=args.flatMap (rL s.mem)})|false=>none
 |_=>none
def vu(row top dst:Nat):Nat×Nat:=match Nat.beq (row%65536) 5with|true=>(0,1000000+row/65536)|false=>(top,dst)
def Et(s:Tr AV)(l:List cq):List AV:=l.map (·.ev s)
def qG(s:Tr AV):List AV->List (Nat×Nat×cq)->Option (List AV)|cs,[]=>some cs|cs,(off,sz,x)::r=>match cellsOf (x.ev s)with|some new=>if new.length=sz/\off+sz<=cs.length then qG s (splice cs off new) r else none|none=>none
def qH(m:List (Tr bM))(s:Tr AV)(sz:Nat):List (List D)->List (Nat×cq)->Option (List (List D)×List (Nat×Nat))|els,[]=>some (els,[])|els,(i,x)::r=>match E4 m (x.ev s)with|some (e,ks)=>if e.length=sz/\i<els.length then match qH m s sz (els.set i e) r with|some (els',ks')=>some (els',ks++ks')|none=>none else none|none=>none
def sK(m:List (Tr bM))(sz:Nat):AV->Option (List AV)
 |.ptr lv sl av i off=>match aT m lv sl with
  |some (.box v cs)=>match Nat.beq v av,Nat.beq i 0with|true,true=>if off+sz<=cs.length then some ((cs.drop off).take sz)else none|_,_=>none
  |some (.row v els)=>match Nat.beq v av with
   |true=>match els[i]?with|some e=>if off+sz<=e.length then some (((e.drop off).take sz).map .d)else none|none=>none
   |false=>none
  |some (.Po v els)=>match Nat.beq v av with
   |true=>match els[i]?with|some e=>if off+sz<=e.length then some (((e.drop off).take sz).map .d)else none|none=>none
   |false=>none
  |some (.mp _ _)=>none|none=>none
 |.gw e off=>if off+sz<=e.length then some (((e.drop off).take sz).map .d)else none|_=>none
def iz(agg:Bool)(cs:List AV):Option AV:=match agg with|true=>some (.agg cs)|false=>match cs with|[v]=>some v|_=>none
def rM(m:List (Tr bM))(sz:Nat)(p v:AV):Option gu:=
 match p,cellsOf v with|.ptr lv sl av i off,some new=>if new.length=sz then match aT m lv sl with
  |some (.box v cs)=>match Nat.beq v av,Nat.beq i 0with|true,true=>if off+sz<=cs.length then some {val:=kI,dD:=[(lv,sl,some (.box v (splice cs off new)))],cT:=[],rd:=[cF lv sl]}else none|_,_=>none
  |some (.row v els)=>match Nat.beq v av with
   |true=>match els[i]?,ED m new with|some e,some (ds,ks)=>if off+sz<=e.length/\¬(lv,sl)∈ks then some {val:=kI,dD:=eR m ks++[(lv,sl,some (.row v (els.set i (splice e off ds))))],cT:=[],rd:=cF lv sl::jx ks}else none|_,_=>none
   |false=>none
  |some (.Po _ _)=>none|some (.mp _ _)=>none|none=>none else none|_,_=>none
def gP(m:List (Tr bM)):AV->Option (List (List D))|.d (.sc (.string b))=>some (b.data.toList.map λc=>[.sc (.int .u8 c.toNat)])|x=>dQ m x
def fN:Nat:=9223372036854775807
def kP:Nat:=140737488355328
def eg(s:St)(row:Bool)(lv sl aZ sz bytes:Nat)(x y:AV):Option gu:=match gP s.mem y with|none=>none|some news=>if news.all (λe=>e.length==sz)then match x with
 |.own els .full=>if els.all (λe=>e.length==sz)/\els.length+news.length<=fN/\(els.length+news.length)*bytes<=kP then match row with|false=>some {val:=.own (els++news) (.cT aZ sz),dD:=[],cT:=[(aZ,true)],rd:=dN y}|true=>if els.isEmpty=false/\news.isEmpty=true then none else some {val:=.ref lv sl aZ 0 (els.length+news.length) sz,dD:=[(lv,sl,some (.row aZ (els++news)))],cT:=[],rd:=dN y}else none|.own els (.cT v tz)=>if tz=sz/\els.length+news.length<=fN/\(els.length+news.length)*bytes<=kP/\(s.aO.get? v).isSome then some {val:=.own (els++news) (.cT aZ sz),dD:=[],cT:=[(v,false),(aZ,true)],rd:=kZ v::dN y}else none|.ref cV dy av off len sz'=>match rowAt s.mem cV dy av with|some els=>if sz'=sz/\off+len<=els.length/\len+news.length<=fN/\(len+news.length)*bytes<=kP then some {val:=.ref cV dy aZ 0 (len+news.length) sz,dD:=[(cV,dy,some (.row aZ ((els.drop off).take len++news)))],cT:=[],rd:=cF cV dy::dN y}else none|none=>none
 |_=>none else none
def bytesOf:List (List D)->Option (List UInt8)|[]=>some []|[.sc (.int .u8 n)]::r=>(bytesOf r).map (UInt8.ofNat n.toNat::·)|_=>none
def od(l:List UInt8):ByteArray:=⟨l.toArray⟩
def I0(s:St)(aZ sz:Nat)(x:AV)(l:Nat)(hi:Option Nat):Option gu:=match x with
 |.ref lv sl av off len sz'=>match rowAt s.mem lv sl av with|some els=>if sz'=sz/\l<=hi.getD len/\hi.getD len<=len/\off+len<=els.length then some {val:=.ref lv sl aZ 0 (hi.getD len-l) sz,dD:=[(lv,sl,some (.row aZ ((els.drop (off+l)).take (hi.getD len-l))))],cT:=[],rd:=[cF lv sl]}else none|none=>none
 |_=>none
def ou:AV->Bool|.ref ..=>true|_=>false
def I1(s:St)(lv dst aZ:Nat)(x:AV):Option gu:=match x with
 |.ref cV dy av off len sz=>match rowAt s.mem cV dy av with
  |some els=>match Nat.ble (off+len) els.length with|true=>some {val:=.ref lv dst aZ 0 len sz,dD:=[(cV,dy,none),(lv,dst,some (.row aZ ((els.drop off).take len)))],cT:=[],rd:=[cF cV dy]}|false=>none
  |none=>none
 |_=>none
def tf:List (List D)->Option (List Int)|[]=>some []|[.sc (.int .i64 z)]::r=>(tf r).map (z::·)|_=>none
def jm(l:List Int):List (List D):=l.map λz=>[.sc (.int .i64 z)]
def BS(x:Int):List Int->List Int|[]=>[x]|y::r=>match decide (x<=y)with|true=>x::y::r|false=>y::BS x r
def j7:List Int->List Int|[]=>[]|x::r=>BS x (j7 r)
def zP(s:St)(x:AV):Option gu:=match x with
 |.own [] .full=>some {val:=kI,dD:=[],cT:=[],rd:=[]}|.ref lv sl av off len sz=>match rowAt s.mem lv sl av with|some els=>(tf els).bind λzs=>if off=0/\len=els.length/\sz=1/\els.length<4611686018427387904then some {val:=kI,dD:=[(lv,sl,some (.row av (jm (j7 zs))))],cT:=[],rd:=[cF lv sl]}else none|none=>none
 |_=>none
def j8:List Int->List Int|[]=>[]|x::r=>match r with|[]=>[x]|y::_=>match decide (x=y)with|true=>j8 r|false=>x::j8 r
def nL(s:St)(aZ:Nat)(x:AV):Option gu:=match x with
 |.own [] .full=>some {val:=.own [] .full,dD:=[],cT:=[],rd:=[]}|.ref lv sl av off len sz=>match rowAt s.mem lv sl av with|some els=>(tf els).bind λzs=>if off=0/\len=els.length/\sz=1/\els.length<4611686018427387904then some {val:=.ref lv sl aZ 0 (j8 zs).length 1,dD:=[(lv,sl,some (.row aZ (jm (j8 zs))))],cT:=[],rd:=[cF lv sl]}else none|none=>none
 |_=>none
def Sl(row:Nat):Bool:=Nat.beq (row%65536) 4||(Nat.beq (row%65536) 6&&!Nat.beq (row/65536) 0)
def Bf(row lv dst aZ:Nat)(x:AV):gu:=match Sl row,x with|true,.own [] .full=>{val:=.ref lv dst aZ 0 0 (row/65536),dD:=[(lv,dst,some (.row aZ []))],cT:=[],rd:=[]}|_,v=>{val:=v,dD:=[],cT:=[],rd:=[]}
def gh(x:Option cq)(s:Tr AV)(dflt:Nat):Option Nat:=match x with|none=>some dflt|some o=>gN (o.ev s)
def fO(sz:Nat)(x:AV)(lo:Nat)(hi mx:Option Nat):Option AV:=match x with
 |.d (.sl els)=>let h:=hi.getD els.length;match mx with|none=>if lo<=h/\h<=els.length/\els.all (λe=>e.length==sz)then some (.d (.sl ((els.drop lo).take (h-lo))))else none|some k=>if lo<=h/\h=k/\h<=els.length/\els.all (λe=>e.length==sz)then some (.own ((els.drop lo).take (h-lo)) .full)else none
 |.own els o=>let h:=hi.getD els.length;match mx with|none=>if lo<=h/\h<=els.length/\els.all (λe=>e.length==sz)then match o with|.aY=>some (.own ((els.drop lo).take (h-lo)) .aY)|.full=>if h=els.length then some (.own (els.drop lo) .full)else some (.d (.sl ((els.drop lo).take (h-lo))))|.cT _ _=>some (.d (.sl ((els.drop lo).take (h-lo))))else none|some k=>if lo<=h/\h=k/\h<=els.length/\els.all (λe=>e.length==sz)then match o with|.aY=>if h=lo then some (.own [] .full)else none|_=>some (.own ((els.drop lo).take (h-lo)) .full)else none
 |.ref lv sl av off len sz'=>let h:=hi.getD len;match mx with|none=>if lo<=h/\h<=len/\sz'=sz then some (.ref lv sl av (off+lo) (h-lo) sz)else none|some k=>if lo=h/\h=k/\h<=len then some (.own [] .full)else none
 |_=>none
def cy.run(call:Call)(sh:Nat->Bool)(s:St)(row:Nat)(dst aZ:Nat):cy->Option ir
 |.IV x=>match Nat.beq (row%65536) 6&&ou (x.ev s.slots)with|true=>(I1 s (s.mem.length-1) dst aZ (x.ev s.slots)).map .cu|false=>some (.cu (Bf row (s.mem.length-1) dst aZ (x.ev s.slots)))
 |.pick c a b=>(jW (c.ev s.slots)).bind λt=>gu.pure (if t then a.ev s.slots else b.ev s.slots)|.alloc z=>some (.cu {val:=.ptr (s.mem.length-1) dst aZ 0 0,dD:=[(s.mem.length-1,dst,some (.box aZ z))],cT:=[],rd:=[]})|.box x=>match Nat.beq row 14with|true=>(cellsOf (x.ev s.slots)).map λcs=>.cu {val:=.ptr (s.mem.length-2) (1048576+dst) aZ 0 0,dD:=[(s.mem.length-2,1048576+dst,some (.box aZ cs))],cT:=[],rd:=[]}|false=>(cellsOf (x.ev s.slots)).map λcs=>.cu {val:=.ptr (s.mem.length-1) dst aZ 0 0,dD:=[(s.mem.length-1,dst,some (.box aZ cs))],cT:=[],rd:=[]}
 |.build z ps=>(qG s.slots z ps).bind λcs=>gu.pure (.agg cs)|.buildSlice sz n z ps=>match Nat.beq row 2with
  |true=>match Nat.beq n 0with|true=>none|false=>(qG s.slots ((List.replicate n z).flatten.map .d) (ps.map λp=>(p.1*sz,sz,p.2))).map λcs=>.cu {val:=.fX (s.mem.length-1) dst aZ 0 n sz,dD:=[(s.mem.length-1,dst,some (.box aZ cs))],cT:=[],rd:=[]}
  |false=>match qH s.mem s.slots sz (List.replicate n z) ps with|none=>none|some (els,ks)=>match Nat.beq row 0with|true=>some (.cu {val:=.own els .full,dD:=eR s.mem ks,cT:=[],rd:=jx ks})|false=>if(s.mem.length-1,dst)∈ks then none else some (.cu {val:=.ref (s.mem.length-1) dst aZ 0 n sz,dD:=eR s.mem ks++[(s.mem.length-1,dst,some (.row aZ els))],cT:=[],rd:=jx ks})
 |.load sz agg x=>(sK s.mem sz (x.ev s.slots)).bind λcs=>(iz agg cs).map λv=>.cu {val:=v,dD:=[],cT:=[],rd:=dN (x.ev s.slots)}|.store sz x v=>(rM s.mem sz (x.ev s.slots) (v.ev s.slots)).map .cu|.nilCheck x=>match x.ev s.slots with|.ptr lv sl av i off=>gu.pure (.ptr lv sl av i off)|.gw e off=>gu.pure (.gw e off)|.fL f cs=>gu.pure (.fL f cs)|_=>none
 |.bin op x y=>(Si op (x.ev s.slots) (y.ev s.slots)).bind λv=>gu.pure (nJ v)|.Y7 neg x y=>match jW (x.ev s.slots),jW (y.ev s.slots)with|some a,some b=>gu.pure (nJ (.bool (if neg then !(a==b)else a==b)))|_,_=>none
 |.Y8 neg sz cells x y=>match x.ev s.slots,y.ev s.slots with|.agg xs,.agg ys=>if xs.length≠sz\/ys.length≠sz then none else(nI xs ys cells).bind λb=>gu.pure (nJ (.bool (if neg then !b else b)))|_,_=>none
 |.zN neg x=>match x.ev s.slots with|.d .er=>gu.pure (nJ (.bool neg))|.d (.sc .nilIface)=>gu.pure (nJ (.bool !neg))|_=>none
 |.un op x=>(unA op (x.ev s.slots)).bind λv=>gu.pure (nJ v)|.conv k x=>(td (x.ev s.slots)).bind λn=>gu.pure (nJ (.int k (k.wrap n)))|.field off sz agg x=>match x.ev s.slots with|.agg cs=>if off+sz<=cs.length then(iz agg ((cs.drop off).take sz)).bind gu.pure else none|_=>none
 |.fieldAddr off x=>match x.ev s.slots with|.ptr lv sl av i o=>gu.pure (.ptr lv sl av i (o+off))|.gw e o=>gu.pure (.gw e (o+off))|_=>none
 |.indexAddr sz x i=>(gN (i.ev s.slots)).bind λn=>match x.ev s.slots with
  |.d (.sl els)=>match els[n]?with|some e=>if e.length=sz then gu.pure (.gw e 0)else none|none=>none
  |.own els _=>match els[n]?with|some e=>if e.length=sz then gu.pure (.gw e 0)else none|none=>none
  |.ref lv sl av off ln sz'=>if n<ln/\sz'=sz then gu.pure (.ptr lv sl av (off+n) 0)else none|.fX lv sl av off ln sz'=>if n<ln/\sz'=sz then gu.pure (.ptr lv sl av 0 (off+n*sz))else none|_=>none
 |.ld n sz x i=>(gN (i.ev s.slots)).bind λk=>if k<n then match x.ev s.slots with|.ptr lv sl av j o=>gu.pure (.ptr lv sl av j (o+k*sz))|.gw e o=>gu.pure (.gw e (o+k*sz))|_=>none else none|.rG n sz agg x i=>(gN (i.ev s.slots)).bind λk=>match x.ev s.slots with|.agg cs=>if k<n/\k*sz+sz<=cs.length then(iz agg ((cs.drop (k*sz)).take sz)).bind gu.pure else none|_=>none
 |.rH x i=>(gN (i.ev s.slots)).bind λk=>match x.ev s.slots with
  |.d (.sc (.string b))=>match b.data.toList[k]?with|some c=>gu.pure (nJ (.int .u8 c.toNat))|none=>none
  |_=>none
 |.slice sz x lo hi mx=>match gh lo s.slots 0,gh hi s.slots 0,gh mx s.slots 0with
  |some l,some h,some k=>match Nat.beq row 3&&(mx.isNone&&ou (x.ev s.slots))with|true=>(I0 s aZ sz (x.ev s.slots) l (hi.map λ_=>h)).map .cu|false=>(fO sz (x.ev s.slots) l (hi.map λ_=>h) (mx.map λ_=>k)).bind gu.pure
  |_,_,_=>none
 |.rI x lo hi=>match x.ev s.slots with
  |.d (.sc (.string b))=>match gh lo s.slots 0,gh hi s.slots b.size with|some l,some h=>if l<=h/\h<=b.size then gu.pure (nJ (.string (b.extract l h)))else none|_,_=>none
  |_=>none
 |.extract x i=>match x.ev s.slots with|.jU vs=>(vs[i]?).bind gu.pure|_=>none
 |.len x=>match x.ev s.slots with|.d (.sl els)=>gu.pure (qF els.length)|.own els _=>gu.pure (qF els.length)|.ref _ _ _ _ n _=>gu.pure (qF n)|.fX _ _ _ _ n _=>gu.pure (qF n)|_=>none
 |.IW x=>match x.ev s.slots with|.own els .full=>gu.pure (qF els.length)|_=>none
 |.GO x=>match x.ev s.slots with|.d (.sc (.string b))=>gu.pure (qF b.size)|_=>none
 |.EC n=>gu.pure (qF n)|.s2b x=>match x.ev s.slots with|.d (.sc (.string b))=>gu.pure (.d (.sl (b.data.toList.map λc=>[.sc (.int .u8 c.toNat)])))|_=>none
 |.b2s x=>(dQ s.mem (x.ev s.slots)).bind λels=>(bytesOf els).map λl=>.cu {val:=nJ (.string (od l)),dD:=[],cT:=[],rd:=dN (x.ev s.slots)}|.GP x y=>match x.ev s.slots,y.ev s.slots with|.d (.sc (.int k a)),.d (.sc (.int k' b))=>if k=k' then gu.pure (nJ (.int k (min a b)))else none|_,_=>none
 |.GQ x y=>match x.ev s.slots,y.ev s.slots with|.d (.sc (.int k a)),.d (.sc (.int k' b))=>if k=k' then gu.pure (nJ (.int k (max a b)))else none|_,_=>none
 |.append sz bytes x y=>(eg s (!Nat.beq row 0) (vu row (s.mem.length-1) dst).1 (vu row (s.mem.length-1) dst).2 aZ sz bytes (x.ev s.slots) (y.ev s.slots)).map .cu|.pU sz bytes z x n=>(gN (n.ev s.slots)).bind λk=>if z.length=sz/\k<=fN/\k*bytes<=kP then(eg s (!Nat.beq row 0) (s.mem.length-1) dst aZ sz bytes (x.ev s.slots) (.d (.sl (List.replicate k z)))).map .cu else none|.sliceB n sz x=>match x.ev s.slots with
  |.ptr lv sl av i off=>match Nat.beq i 0with|true=>gu.pure (.fX lv sl av off n sz)|false=>none
  |_=>none
 |.sZ lo n sz x=>match x.ev s.slots with
  |.ptr lv sl av i off=>match Nat.beq i 0&&Nat.blt lo n with|true=>gu.pure (.fX lv sl av (off+lo*sz) (n-lo) sz)|false=>none
  |_=>none
 |.clear sz z x=>match x.ev s.slots with
  |.ref lv sl av off ln sz'=>match rowAt s.mem lv sl av with|some els=>if sz'=sz/\off+ln<=els.length/\z.length=sz then some (.cu {val:=kI,dD:=[(lv,sl,some (.row av (splice els off (List.replicate ln z))))],cT:=[],rd:=[cF lv sl]})else none|none=>none
  |_=>none
 |.grow sz x n=>match x.ev s.slots,gN (n.ev s.slots)with|.own [] .full,some _=>some (.cu {val:=.own [] (.cT aZ sz),dD:=[],cT:=[(aZ,true)],rd:=[]})|_,_=>none
 |.clone sz bytes x=>match dQ s.mem (x.ev s.slots)with|some _=>(eg s (!Nat.beq row 0) (s.mem.length-1) dst aZ sz bytes (.own [] .full) (x.ev s.slots)).map .cu|none=>none
 |.mkSet=>some (.cu {val:=.mp (s.mem.length-1) dst aZ,dD:=[(s.mem.length-1,dst,some (.mp aZ []))],cT:=[],rd:=[]})|.IX m k=>match m.ev s.slots,k.ev s.slots with|.mp lv sl av,.d (.sc (.string b))=>(setAt s.mem lv sl av).map λks=>.cu {val:=nJ (.bool (hasB ks b.data.toList)),dD:=[],cT:=[],rd:=[cF lv sl]}|_,_=>none
 |.IY m k=>match m.ev s.slots,k.ev s.slots with|.mp lv sl av,.d (.sc (.string b))=>(setAt s.mem lv sl av).map λks=>.cu {val:=kI,dD:=[(lv,sl,some (.mp av (tc ks b.data.toList)))],cT:=[],rd:=[cF lv sl]}|_,_=>none
 |.sort x=>(zP s (x.ev s.slots)).map .cu|.compact x=>(nL s aZ (x.ev s.slots)).map .cu|.bad=>none|.copy sz x y=>match x.ev s.slots,gP s.mem (y.ev s.slots)with
  |.fX lv sl av off n sz',some news=>match pV s.mem lv sl av with|some cs=>if sz'=sz/\off+n*sz<=cs.length/\news.all (λe=>e.length==sz)then some (.cu {val:=qF (min news.length n),dD:=[(lv,sl,some (.box av (splice cs off ((news.take (min news.length n)).flatten.map .d))))],cT:=[],rd:=cF lv sl::dN (y.ev s.slots)})else none|none=>none
  |.ref lv sl av off ln sz',some news=>match rowAt s.mem lv sl av with|some els=>if sz'=sz/\off+ln<=els.length/\news.all (λe=>e.length==sz)then some (.cu {val:=qF (min news.length ln),dD:=[(lv,sl,some (.row av (splice els off (news.take (min news.length ln)))))],cT:=[],rd:=cF lv sl::dN (y.ev s.slots)})else none|none=>none
  |_,_=>none
 |.makeSlice sz bytes z l c=>match gN (l.ev s.slots),gN (c.ev s.slots)with|some l,some c=>if l<=c/\bytes*c<=kP/\c<=fN/\z.length=sz then some (.cu {val:=.ref (s.mem.length-1) dst aZ 0 l sz,dD:=[(s.mem.length-1,dst,some (.row aZ (List.replicate l z)))],cT:=[],rd:=[]})else none|_,_=>none
 |.makeFunc f cap=>if(Et s.slots cap).all jX then gu.pure (.fL f (Et s.slots cap))else none|.call f args=>match Nat.beq row 7with|true=>lu call s f (Et s.slots args)|false=>match Nat.beq row 8with|true=>rK call s f (Et s.slots args)|false=>match Nat.beq row 9with|true=>oX call s aZ f (Et s.slots args)|false=>match Nat.beq row 10with|true=>oY call s aZ f (Et s.slots args)|false=>gO call (sh f) row s (s.mem.length-1) dst aZ f (Et s.slots args)
 |.wP f args=>match sh f with|true=>gO call true row s (s.mem.length-1) dst aZ f (Et s.slots args)|false=>lu call s f (Et s.slots args)
 |.zO x args=>match x.ev s.slots with|.fL f cap=>gO call (sh f) row s (s.mem.length-1) dst aZ f (Et s.slots args++cap)|_=>none
def jo(s:Tr AV)(o:bG):Option Bool:=match o.gd with|none=>some true|some (g,b)=>match dL s g with|.d (.sc (.bool t))=>some (t==b)|.jU _=>some false|_=>none
def bG.step(call:Call)(sh:Nat->Bool)(s:St)(aZ:Nat)(o:bG):Option ir:=match jo s.slots o with|none=>none|some true=>o.op.run call sh s o.row (o.dst.getD 0) aZ|some false=>gu.pure kI
def jz(call:Call)(sh:Nat->Bool)(mG:Nat):Nat->List bG->St->Option St|_,[],s=>some s|i,o::r,s=>match o.step call sh s (mG+i)with|none=>none|some e=>jz call sh mG (i+1) r (s.app o.dst e)
def meets(a b:List (Nat×Nat×Nat)):Bool:=a.any λk=>b.contains k
def mA:ir->Bool|.cu e=>!(e.rd.isEmpty&&e.dD.isEmpty&&e.cT.isEmpty)|.all ..=>true
def wS:ir->ir->Bool|.cu a,.cu b=>meets a.rd b.wr||meets a.wr b.rd||meets a.wr b.wr|a,b=>mA a&&mA b
def clear(oW:Nat)(e:ir):List (Nat×ir)->Bool|[]=>true|(i,x)::r=>(oW.testBit i||!wS x e)&&clear oW e r
def kf(call:Call)(sh:Nat->Bool)(mG:Nat):Nat->List bG->List (Nat×ir)->St->Option St|_,[],_,s=>some s|i,o::r,eH,s=>match o.step call sh s (mG+i)with|none=>none|some e=>match clear o.oW e eH with|true=>kf call sh mG (i+1) r ((i,e)::eH) (s.app o.dst e)|false=>none
def gA(call:Call)(sh:Nat->Bool)(ops:List bG)(draw:Bool)(s:St):Option St:=let s':={s with nv:=s.nv+ops.length};match draw with|false=>jz call sh s.nv 0 ops s'|true=>kf call sh s.nv 0 ops [] s'
inductive AX where|normal|exit(id:Nat)|ret deriving Inhabited
def exec(call:Call)(sh:Nat->Bool):Nat->AC->St->Option (AX×St)|0,_,_=>none|n+1,c,s=>match c with
 |.skip=>some (.normal,s)|.region ops draw=>(gA call sh ops draw s).map λs'=>(.normal,s')|.seq a b=>match exec call sh n a s with|some (.normal,s')=>exec call sh n b s'|r=>r
 |.cond c a b=>match jW (c.ev s.slots)with|some true=>exec call sh n a s|some false=>exec call sh n b s|none=>none
 |.block id c=>match exec call sh n c s with
  |some (.exit id',s')=>match Nat.beq id' id with|true=>some (.normal,s')|false=>some (.exit id',s')
  |r=>r
 |.loop c=>match exec call sh n c s with|some (.normal,s')=>exec call sh n (.loop c) s'|r=>r
 |.exit id=>some (.exit id,s)|.ret=>some (.ret,s)
def I2(s:St):Bd->Option AV
 |.t n=>match gy (dL s.slots n)with|true=>some (dL s.slots n)|false=>none
 |.cell n sz agg=>(sK s.mem sz (dL s.slots n)).bind (iz agg)
def kg(s:St):List Bd->Option (List AV)|[]=>some []|x::r=>match I2 s x,kg s r with|some y,some ys=>some (y::ys)|_,_=>none
def jq:List AV->AV|[v]=>v|vs=>.jU vs
def ep:Nat->List AV->Tr AV->Tr AV|_,[],t=>t|i,x::r,t=>ep (i+1) r (t.set i (some x))
def Y9(Fs:Nat->Option rF):Nat->Call|0,_,_,_,_,_=>none|n+1,f,args,mem,aO,nv=>match Fs f with|none=>none|some fn=>match Nat.beq args.length fn.np with|false=>none|true=>match exec (Y9 Fs n) (λg=>((Fs g).map (·.sh)).getD false) n fn.body {slots:=ep 0 args .lf,mem,aO,nv}with|some (.normal,s)|some (.ret,s)=>(kg s fn.res).map λvs=>(jq vs,s.mem,s.aO,s.nv)|_=>none
def jf:Value->Option AV
 |.slice none 0 0=>some (.own [] .full)|.slice _ _ _=>none|.agg _=>none|.tuple _=>none|.func fn first cap=>match fn with|.func f=>if first.size=0/\cap.size=0then some (.fL f [])else none|_=>none
 |v=>some (.d (.sc v))
def gi:List Value->Option (List AV)|[]=>some []|v::r=>match jf v,gi r with|some x,some xs=>some (x::xs)|_,_=>none
def vw:Value->Option AV|.agg cs=>(gi cs.toList).map .agg|.tuple vs=>if vs.size=0then some (.jU [])else none|v=>jf v
def vz:Value->Option D|.slice none 0 0=>some (.sl [])|.slice _ _ _=>none|.agg _=>none|.tuple _=>none|.func _ _ _=>none|v=>some (.sc v)
def jY:List Value->Option (List D)|[]=>some []|v::r=>match vz v,jY r with|some x,some xs=>some (x::xs)|_,_=>none
def dA:Operand->Option cq|.tmp t=>some (.t t)|.const v=>(vw v).map .c|.func f=>some (.c (.fL f []))|.global _=>none
def jw:List Operand->Option (List cq)|[]=>some []|x::r=>match dA x,jw r with|some y,some ys=>some (y::ys)|_,_=>none
def rN:Option Operand->Option (Option cq)|none=>some none|some x=>(dA x).map some
def oZ(P:Program)(t:TypeId):Option Bool:=match P.underlying t with|some (.struct _)|some (.array _ _)=>some true|some _=>some false|none=>none
def o6(P:Program)(t:TypeId):Option (List Value):=(P.info? t).bind λi=>i.zero.map λv=>v.cells.toList
def dg(P:Program)(t:TypeId):Option Nat:=(P.info? t).map (·.size)
def pX(P:Program):Nat->TypeId->Nat->Option (List (Nat×Nat))|0,_,_=>none|n+1,t,off=>match dg P t,P.underlying t with|some 1,some .bool=>some [(off,0)]|some 1,some (.int _)=>some [(off,1)]|some 1,some .string=>some [(off,2)]|some sz,some (.struct fs)=>if P.stoodInHeld t then none else fs.toList.foldr (λf acc=>match acc,dg P f.type with|some l,some fz=>if f.name= "_"\/sz<f.offset+fz then none else(pX P n f.type (off+f.offset)).map (·++l)|_,_=>none) (some [])|_,_=>none
def tg(place:Nat->Option (Nat×Nat)):List (Nat×Operand)->Option (List (Nat×Nat×cq))|[]=>some []|(i,x)::r=>match place i,dA x,tg place r with|some (off,sz),some y,some ys=>some ((off,sz,y)::ys)|_,_,_=>none
def GU(P:Program)(fs:Array Field):Option (List (Nat×Nat)):=fs.toList.mapM λf=>(P.info? f.type).map λi=>(f.offset,i.size)
def pY:List (Nat×Operand)->Option (List (Nat×cq))|[]=>some []|(i,x)::r=>match dA x,pY r with|some y,some ys=>some ((i,y)::ys)|_,_=>none
def N3(P:Program)(op:BinOp)(neg:Bool)(t:TypeId)(x y:cq):Option cy:=match P.underlying t with
 |some .bool=>some (.Y7 neg x y)|some (.int _)|some .string=>some (.bin op x y)|some (.slice _)=>some .bad|some (.interface _)=>match y with|.c (.d (.sc .nilIface))=>some (.zN neg x)|_=>none
 |some (.struct _)=>if P.eqGuardType P.depth t then none else match pX P 20 t 0,dg P t with|some l,some sz=>some (.Y8 neg sz l x y)|_,_=>none
 |_=>none
def wT(P:Program)(t:TypeId):Option (Nat×Nat):=match P.underlying t with
 |some (.slice e)=>match P.info? e,o6 P e with|some i,some z=>if 0<i.size/\z.length=i.size then some (i.size,i.bytes)else none|_,_=>none
 |_=>none
def Sm(P:Program):Nat->TypeId->Bool|0,_=>false|n+1,t=>match P.underlying t with|some .bool|some (.int _)|some .string=>true|some (.struct fs)=>fs.toList.all λf=>Sm P n f.type|some (.array _ e)=>Sm P n e|_=>false
def aiG(P:Program)(f:Nat):Bool:=match P.funcs[f]?with|some fn=>fn.resultTypes.toList.all (Sm P 20)|none=>false
def aqC(P:Program)(f:Nat):Bool:=match P.funcs[f]?with
 |some fn=>match fn.params.toList with
  |t::_=>match P.underlying t with|some (.pointer _)=>true|_=>false
  |[]=>false
 |none=>false
def Sn(P:Program)(dF:Nat->Option TypeId)(c:Go.Call):Option cy:=match c.callee with
 |.value (.func f)=>match dF f,c.args.toList with
  |some t,[x]=>match Nat.beq t 1000000with|true=>(dA x).map .sort|false=>match Nat.beq t 1000001with|true=>(dA x).map .compact|false=>match wT P t,dA x with|some (sz,Bq),some x=>some (.clone sz Bq x)|_,_=>none
  |some _,_=>none|none,_=>match aiG P f&&!aqC P f with|true=>(jw c.args.toList).map (.wP f)|false=>(jw c.args.toList).map (.call f)
 |.value (.tmp t)=>(jw c.args.toList).map (.zO (.t t))|.value _=>none|.invoke _ _=>none|.builtin b=>match b,c.args.toList,c.argTypes.toList with
  |.len,[x],[t]=>match P.underlying t with
   |some (.slice _)=>(dA x).map .len|some .string=>(dA x).map .GO|some (.array n _)=>some (.EC n)|some (.pointer e)=>match P.underlying e with|some (.array n _)=>some (.EC n)|_=>none
   |_=>none
  |.append,[x,y],[t,u]=>match P.underlying t,P.underlying u with|some (.slice e),some (.int _)=>(match wT P t,(o6 P e).bind jY,dA x,dA y with|some (sz,Bq),some z,some x,some y=>if z.length=sz then some (.pU sz Bq z x y)else none|_,_,_,_=>none)|_,some (.int _)=>none|_,some (.slice _)=>(match wT P t,dA x,dA y with|some (sz,Bq),some x,some y=>some (.append sz Bq x y)|_,_,_=>none)|_,some .string=>(match wT P t,dA x,dA y with|some (sz,Bq),some x,some y=>some (.append sz Bq x y)|_,_,_=>none)|_,_=>none
  |.copy,[x,y],[t,_]=>match P.underlying t with
   |some (.slice e)=>match P.info? e,dA x,dA y with|some i,some x,some y=>if 0<i.size then some (.copy i.size x y)else none|_,_,_=>none
   |_=>none
  |.clear,[x],[t]=>match P.underlying t with
   |some (.slice e)=>match dg P e,(o6 P e).bind jY,dA x with|some sz,some z,some x=>if z.length=sz/\0<sz then some (.clear sz z x)else none|_,_,_=>none
   |_=>none
  |.cap,[x],[t]=>match P.underlying t with|some (.slice _)=>(dA x).map .IW|_=>none
  |.min,[x,y],_=>match dA x,dA y with|some x,some y=>some (.GP x y)|_,_=>none
  |.max,[x,y],_=>match dA x,dA y with|some x,some y=>some (.GQ x y)|_,_=>none
  |_,_,_=>none
def Eu(P:Program)(dF:Nat->Option TypeId):Go.Op->Option cy
 |.move x|.assign x=>(dA x).map .IV|.pick c a b=>match dA c,dA a,dA b with|some c,some a,some b=>some (.pick c a b)|_,_,_=>none
 |.alloc t=>(o6 P t).bind λz=>(gi z).map .alloc|.box _ x=>(dA x).map .box|.build t ps=>match o6 P t,P.underlying t with
  |some z,some (.struct fs)=>match gi z,GU P fs with|some z,some pl=>(tg (pl.toArray[·]?) ps.toList).map (.build z)|_,_=>none
  |some z,some (.array _ e)=>match gi z,dg P e with|some z,some sz=>(tg (λi=>some (i*sz,sz)) ps.toList).map (.build z)|_,_=>none
  |_,_=>none
 |.buildSlice t n ps=>match P.underlying t with
  |some (.slice e)=>match dg P e,(o6 P e).bind jY,pY ps.toList with|some sz,some z,some l=>if n*sz<=16777216/\z.length=sz/\0<sz then some (.buildSlice sz n z l)else none|_,_,_=>none
  |_=>none
 |.load t x=>match dg P t,oZ P t,dA x with|some sz,some agg,some x=>if agg\/sz=1then some (.load sz agg x)else none|_,_,_=>none
 |.store t x v=>match dg P t,dA x,dA v with|some sz,some x,some v=>some (.store sz x v)|_,_,_=>none
 |.nilCheck x=>(dA x).map .nilCheck|.binOp op t x y _=>match dA x,dA y with
  |some x,some y=>match op with|.eql=>N3 P op false t x y|.neq=>N3 P op true t x y|op=>some (.bin op x y)
  |_,_=>none
 |.unOp op _ x=>(dA x).map (.un op)|.convert src dst x=>match P.underlying src,P.underlying dst with
  |some _,some (.int k)=>(dA x).map (.conv k)|some (.slice e),some .string=>match P.underlying e with|some (.int .u8)=>(dA x).map .b2s|_=>none
  |some .string,some (.slice e)=>match P.underlying e with|some (.int .u8)=>(dA x).map .s2b|_=>none
  |_,_=>none
 |.field t x f=>match P.underlying t with
  |some (.struct fs)=>match fs[f]?with
   |some f=>match dg P f.type,oZ P f.type,dA x with|some sz,some agg,some x=>if agg\/sz=1then some (.field f.offset sz agg x)else none|_,_,_=>none
   |none=>none
  |_=>none
 |.fieldAddr t x f=>match P.underlying t with
  |some (.struct fs)=>match fs[f]?with
   |some f=>match dg P f.type,dA x with|some sz,some x=>if sz=0then none else some (.fieldAddr f.offset x)|_,_=>none
   |none=>none
  |_=>none
 |.indexAddr t x i=>match P.underlying t with
  |some (.slice e)=>match dg P e,dA x,dA i with|some sz,some x,some i=>if sz=0then none else some (.indexAddr sz x i)|_,_,_=>none
  |some (.array n e)=>match dg P e,dA x,dA i with|some sz,some x,some i=>some (.ld n sz x i)|_,_,_=>none
  |_=>none
 |.index t x i=>match P.underlying t with
  |some (.array n e)=>match dg P e,oZ P e,dA x,dA i with|some sz,some agg,some x,some i=>if agg\/sz=1then some (.rG n sz agg x i)else none|_,_,_,_=>none
  |some .string=>match dA x,dA i with|some x,some i=>some (.rH x i)|_,_=>none
  |_=>none
 |.slice t x lo hi mx=>match P.underlying t with
  |some (.slice e)=>match dg P e,dA x,rN lo,rN hi,rN mx with|some sz,some x,some lo,some hi,some mx=>if sz=0\/(mx.isSome/\hi.isNone)then none else some (.slice sz x lo hi mx)|_,_,_,_,_=>none
  |some (.array n e)=>match lo,hi,mx,dg P e,dA x with|none,none,none,some sz,some x=>if n=0then none else some (.sliceB n sz x)|some (.const (.int .i64 k)),none,none,some sz,some x=>if 0<=k then some (.sZ k.toNat n sz x)else none|_,_,_,_,_=>none
  |some .string=>match dA x,rN lo,rN hi,mx with|some x,some lo,some hi,none=>some (.rI x lo hi)|_,_,_,_=>none
  |_=>none
 |.extract x i=>(dA x).map λx=>.extract x i|.makeFunc fn first cap=>match fn with|.func f=>if first.size=0then(jw cap.toList).map (.makeFunc f)else none|_=>none
 |.makeSlice t l c=>match P.underlying t with
  |some (.slice e)=>match P.info? e,(o6 P e).bind jY,dA l,dA c with|some i,some z,some l,some c=>if 0<i.size then some (.makeSlice i.size i.bytes z l c)else none|_,_,_,_=>none
  |_=>none
 |.makeMap t none=>match P.underlying t with
  |some (.map k e)=>match P.underlying k,P.underlying e with|some .string,some .bool=>some .mkSet|_,_=>none
  |_=>none
 |.lookup t m x false=>match P.underlying t with
  |some (.map k e)=>match P.underlying k,(P.info? e).bind (·.zero),dA m,dA x with|some .string,some (.bool false),some m,some x=>some (.IX m x)|_,_,_,_=>none
  |_=>none
 |.mapUpdate t m x v=>match v,P.underlying t with
  |.const (.bool true),some (.map k _)=>match P.underlying k,dA m,dA x with|some .string,some m,some x=>some (.IY m x)|_,_,_=>none
  |_,_=>none
 |.call c=>Sn P dF c|.panic _=>some .bad|.makeInterface _ _=>some .bad|_=>none
def gdP(ops:Array Oper):Option (Nat×Bool)->Option (Option (Nat×Bool))|none=>some none|some (j,b)=>((ops[j]?).bind (·.dst)).map λd=>some (d,b)
def abw(P:Program)(dF:Nat->Option TypeId)(nt:Nat)(rows:List (Nat×Nat))(ops:Array Oper)(oW:Nat)(o:Oper):Option bG:=match Eu P dF o.op,gdP ops o.guard with|some a,some g=>if(o.dst.getD 0)<nt then some {dst:=o.dst,op:=a,gd:=g,oW:=oW,row:=(rows.lookup (o.dst.getD 0)).getD 0}else none|_,_=>none
def yK(P:Program)(dF:Nat->Option TypeId)(nt:Nat)(rows:List (Nat×Nat))(ops:Array Oper):List (Oper×Nat)->Option (List bG)|[]=>some []|(o,b)::r=>match abw P dF nt rows ops b o,yK P dF nt rows ops r with|some a,some aU=>some (a::aU)|_,_=>none
def cy.jw:cy->List cq|.IV x|.box x|.zN _ x|.nilCheck x|.un _ x|.conv _ x|.field _ _ _ x|.fieldAddr _ x|.extract x _|.len x|.GO x|.IW x|.b2s x|.s2b x|.sliceB _ _ x|.sZ _ _ _ x|.clear _ _ x|.clone _ _ x|.sort x|.compact x|.load _ _ x=>[x]|.pick a b c=>[a,b,c]|.build _ ps=>ps.map (·.2.2)|.buildSlice _ _ _ ps=>ps.map (·.2)|.store _ x y|.bin _ x y|.Y7 _ x y|.Y8 _ _ _ x y|.indexAddr _ x y|.ld _ _ x y|.rG _ _ _ x y|.rH x y|.GP x y|.GQ x y|.append _ _ x y|.pU _ _ _ x y|.copy _ x y|.makeSlice _ _ _ x y|.grow _ x y|.IX x y|.IY x y=>[x,y]|.slice _ x a b c=>x::(a.toList++b.toList++c.toList)|.rI x a b=>x::(a.toList++b.toList)|.makeFunc _ l|.call _ l|.wP _ l=>l|.zO x l=>x::l|.alloc _|.EC _|.mkSet|.bad=>[]
def cq.slot:cq->List Nat|.t n=>[n]|.c _=>[]
def bG.looks(o:bG):List Nat:=o.op.jw.flatMap cq.slot++(match o.gd with|some (g,_)=>[g]|none=>[])
def LY(l:List Nat)(n:Nat):Bool:=l.any λm=>Nat.beq m n
def BT(d:Option Nat)(y:bG):Bool:=match d with|some d=>!LY y.looks d|none=>true
def N4(d e:Option Nat):Bool:=match d,e with|some d,some e=>!Nat.beq d e|_,_=>true
def bG.apart(x y:bG):Bool:=BT x.dst y&&BT y.dst x&&N4 x.dst y.dst
def Br(y:bG):Nat->List bG->Bool|_,[]=>true|i,x::r=>(y.oW.testBit i||x.apart y)&&Br y (i+1) r
def nM(eH:List bG):List bG->Bool|[]=>true|y::r=>Br y 0 eH&&nM (eH++[y]) r
def Edge.GV(e:Edge):Bool:=Region.binds .any e
def aiH(eH:List Nat)(o:Oper):Nat:=o.after.toList.foldl (λb e=>if Edge.GV e then(b|||(1<<<e.on))|||eH.getD e.on 0 else b) 0
def aiI(eH:List Nat):List Oper->List Nat|[]=>eH|o::r=>aiI (eH++[aiH eH o]) r
def GW(oW:List Nat)(i:Nat)(o:Oper)(b:Nat):Bool:=(o.after.toList.all λe=>!Edge.GV e||Nat.blt e.on i)&&(List.range i).all λj=>!b.testBit j||o.after.toList.any λe=>Edge.GV e&&(Nat.beq e.on j||(Nat.blt j e.on&&(oW.getD e.on 0).testBit j))
def E7(oW:List Nat):Nat->List Oper->List Nat->Bool|_,[],_=>true|i,o::r,b::bs=>GW oW i o b&&E7 oW (i+1) r bs|_,_::_,[]=>false
def Za(P:Program)(dF:Nat->Option TypeId)(nt:Nat)(rows:List (Nat×Nat))(ops:Array Oper)(draw:Bool):Option AC:=match draw with|false=>(yK P dF nt rows ops (ops.toList.map λo=>(o,0))).map λl=>.region l false|true=>let b:=aiI [] ops.toList;match b.length==ops.size&&E7 b 0 ops.toList b,yK P dF nt rows ops (ops.toList.zip b)with|true,some l=>if nM [] l then some (.region l true)else none|_,_=>none
def gb:Nat:=4294967296
def gid(l:Nat):Nat:=gb+2*l
def Bg(l:Nat):Nat:=gb+2*l+1
def leaves(p:Nat->Bool):AC->Bool|.seq a b=>leaves p a&&leaves p b|.cond _ a b=>leaves p a&&leaves p b|.block _ c=>leaves p c|.loop c=>leaves p c|.exit id=>p id|_=>true
def adr:Code->Option Nat|.label l=>some l|_=>none
def abx:Code->Option Nat
 |.seq a b=>match adr a with|some l=>some l|none=>abx b
 |_=>none
def Sp(l:Nat)(c:AC):Option AC:=match leaves (λid=>Nat.blt id gb||Nat.beq id (gid l)) c with|true=>some (.block (Bg l) (.loop (.block (gid l) (.seq c (.exit (Bg l))))))|false=>none
def eu(P:Program)(dF:Nat->Option TypeId)(nt:Nat)(rows:List (Nat×Nat)):Code->Option Nat->Option AC
 |.seq a b,some l=>match adr a with
  |some l'=>match Nat.beq l' l,eu P dF nt rows b none with|true,some c=>Sp l c|_,_=>none
  |none=>match findLabel a l,eu P dF nt rows a none,eu P dF nt rows b (some l)with|none,some a,some b=>if leaves (λid=>Nat.blt id gb) a then some (.seq a b)else none|_,_,_=>none
 |.skip,none=>some .skip|.region _ ops draw,none=>Za P dF nt rows ops draw|.seq a b,none=>match eu P dF nt rows a none,eu P dF nt rows b none with|some a,some b=>some (.seq a b)|_,_=>none
 |.cond c a b,none=>match dA c,eu P dF nt rows a none,eu P dF nt rows b none with|some c,some a,some b=>some (.cond c a b)|_,_,_=>none
 |.block id c,none=>match Nat.blt id gb with|true=>(eu P dF nt rows c none).map (.block id)|false=>none
 |.loop c,none=>(eu P dF nt rows c none).map .loop|.exit id,none=>match Nat.blt id gb with|true=>some (.exit id)|false=>none
 |.goto l,none=>some (.exit (gid l))|.scope c,none=>match abx c with|some l=>eu P dF nt rows c (some l)|none=>none
 |.ret,none=>some .ret|_,_=>none
def Sq(P:Program)(dF:Nat->Option TypeId)(nt:Nat)(rows:List (Nat×Nat))(c:Code):Option AC:=eu P dF nt rows c none
def ads(P:Program):ResultVar->Option Bd|.tmp t=>some (.t t)|.cell a t=>match dg P t,oZ P t with|some sz,some agg=>if agg\/sz=1then some (.cell a sz agg)else none|_,_=>none
def E8(P:Program):List ResultVar->Option (List Bd)|[]=>some []|x::r=>match ads P x,E8 P r with|some y,some ys=>some (y::ys)|_,_=>none
structure Mode where rows:List (Nat×Nat)sh:Bool deriving Inhabited
def Pp(P:Program)(dF:Nat->Option TypeId)(md:Nat->Mode)(f:Nat):Option rF:=match P.funcs[f]?with|none=>none|some fn=>match fn.body with|none=>none|some c=>if fn.name== "runtime.NumGoroutine"then none else match Sq P dF fn.ntmps (md f).rows c,E8 P fn.results.toList with|some b,some rs=>let np:=fn.params.size+fn.nfree;if np<=fn.ntmps then some {np,nt:=fn.ntmps,res:=rs,body:=b,sh:=(md f).sh}else none|_,_=>none
def LZ(_:Nat):Prop:=False
def gok(_:World):Prop:=True
def Pq{w w':World}(_:∀b,LZ b->w'.heap[b]?=w.heap[b]?)(_:gok w):gok w':=trivial
end Go.bS
namespace Go.bS
open Go Go.RowKit
def beq_true{a b:Nat}:Nat.beq a b=true↔a=b:=by simp_all
def beq_false{a b:Nat}:Nat.beq a b=false↔a≠b:=by rw[<-ro,beq_true]
def Tr.Sr{α:Type}:∀(f:Nat)(t:Tr α)(n m:Nat)(x:Option α),n<f->(Tr.Sh f t n x).get? m=if n=m then x else t.get? m:=by intro f;induction f with|zero=>omega|succ f ih=>
 intro t n m x h;have azy:∀k,t.get? k=if k=0then t.top else if k%2=1then t.left.get? (k/2)else t.right.get? (k/2-1):=by intro k;cases t with|lf=>simp[Tr.get?,Tr.top,Tr.left,Tr.right]|nd v l r=>simp[Tr.get?,Tr.top,Tr.left,Tr.right];cases h0:Nat.beq k 0with|true=>simp_all|false=>have:=beq_false.1 h0;cases h1:Nat.beq (k%2) 1with|true=>simp_all|false=>simp[this,beq_false.1 h1]
 have azz:∀(v:Option α)(l r:Tr α)k,(Tr.nd v l r).get? k=if k=0then v else if k%2=1then l.get? (k/2)else r.get? (k/2-1):=by intro v l r k;simp[Tr.get?];cases h0:Nat.beq k 0with|true=>simp_all|false=>have:=beq_false.1 h0;cases h1:Nat.beq (k%2) 1with|true=>simp_all|false=>simp[this,beq_false.1 h1]
 simp[Tr.Sh];cases h0:Nat.beq n 0with|true=>have h0:=beq_true.1 h0<;>grind|false=>have h0:=beq_false.1 h0;cases h1:Nat.beq (n%2) 1with|true=>have h1:=beq_true.1 h1<;>grind|false=>have h1:=beq_false.1 h1<;>grind
def Tr.cD{α:Type}(t:Tr α)(n m:Nat)(x:Option α):(t.set n x).get? m=if n=m then x else t.get? m:=Tr.Sr _ _ _ _ _ (by omega)
@[simp]theorem Tr.aqD{α:Type}(n:Nat):(Tr.lf:Tr α).get? n=none:=rfl
theorem cM(m:List (Tr bM))(lv sl cV dy:Nat)(e:Option bM):aT (cH m lv sl e) cV dy=if lv=cV/\sl=dy/\lv<m.length then e else aT m cV dy:=by
 unfold aT cH;rw[List.getElem?_modify];by_cases h:lv=cV;.subst h;cases hm:m[lv]?with|none=>grind|some t=>
  have:lv<m.length:=by grind
  simp[Tr.cD,this]
 grind
structure Loc where
 b:Nat
 o:Nat
 sz:Nat
 cap:Nat
structure Cx where
 w:World
 F:Nat->Nat->Prop
 ρ:Nat->Option Loc
 old:Nat->Prop
inductive DR(w:World)(F:Nat->Nat->Prop):D->Value->Prop|sc(v:Value)(h1:v.oneCell'=true):DR w F (.sc v) v|er(v:Value)(h1:∃t p,v=.iface t p):DR w F .er v|sl(els:List (List D))(a:Option Addr)(n cap sz b o:Nat)(g:Nat->Nat->Value)(hn:els.length=n)(hcap:n<=cap)(hsz:∀e∈els,e.length=sz)(ha:0<n->a=some ⟨b,o,none⟩)(hF:∀i e j x,els[i]?=some e->e[j]?=some x->F b (o+i*sz+j))(hc:∀i e j x,els[i]?=some e->e[j]?=some x->w.cell? ⟨b,o+i*sz+j,none⟩=some (g i j))(hr:∀i e j x,els[i]?=some e->e[j]?=some x->DR w F x (g i j)):DR w F (.sl els) (.slice a n cap)
def DR.one{w:World}{F:Nat->Nat->Prop}{x:D}{v:Value}(h:DR w F x v):v.oneCell'=true:=by cases h with|sc _ h1=>exact h1|er _ h1=>obtain⟨_,_,rfl⟩:=h1;rfl|sl=>rfl
def fe(w:World)(F R:Nat->Nat->Prop)(els:List (List D))(b o sz:Nat):Prop:=(∀e∈els,e.length=sz)/\∀i e j x,els[i]?=some e->e[j]?=some x->R b (o+i*sz+j)/\∃v,w.cell? ⟨b,o+i*sz+j,none⟩=some v/\DR w F x v
def DR.jr{w:World}{F:Nat->Nat->Prop}{els:List (List D)}{b o sz n cap:Nat}{a:Option Addr}(h:fe w F F els b o sz)(hn:els.length=n)(hcap:n<=cap)(ha:0<n->a=some ⟨b,o,none⟩):DR w F (.sl els) (.slice a n cap):=by classical let g:Nat->Nat->Value:=λi j=>(w.cell? ⟨b,o+i*sz+j,none⟩).getD (.bool false);refine .sl els a n cap sz b o g hn hcap h.1 ha (λi e j x h1 h2=>(h.2 i e j x h1 h2).1) (λi e j x h1 h2=>?_) (λi e j x h1 h2=>?_)<;>grind[fe]
def DR.Zb{w:World}{F:Nat->Nat->Prop}{els:List (List D)}{v:Value}(h:DR w F (.sl els) v):∃a cap sz b o,v=.slice a els.length cap/\els.length<=cap/\(0<els.length->a=some ⟨b,o,none⟩)/\fe w F F els b o sz:=by cases h with|sl _ a n cap sz b o g hn hcap hsz ha hF hc hr=>subst hn;exact⟨a,cap,sz,b,o,rfl,hcap,ha,hsz,λi e j x h1 h2=>⟨hF i e j x h1 h2,_,hc i e j x h1 h2,hr i e j x h1 h2⟩⟩
def aI{α β:Type}(R:α->β->Prop):List α->List β->Prop|[],[]=>True|a::l,b::m=>R a b/\aI R l m|_,_=>False
def aI.length{α β:Type}{R:α->β->Prop}:∀{l:List α}{m:List β},aI R l m->l.length=m.length|[],[],_=>rfl|_::_,_::_,h=>by simp[aI.length h.2]|[],_::_,h=>h.elim|_::_,[],h=>h.elim
def aI.get{α β:Type}{R:α->β->Prop}:∀{l:List α}{m:List β},aI R l m->∀(i:Nat)(a:α),l[i]?=some a->∃b,m[i]?=some b/\R a b|[],[],_,i,a,h=>by simp at h|a::l,b::m,h,0,x,hx=>⟨b,rfl,by grind[aI]⟩|a::l,b::m,h,i+1,x,hx=>by simpa using aI.get h.2 i x (by simpa using hx)|[],_::_,h,_,_,_=>h.elim|_::_,[],h,_,_,_=>h.elim
def aI.mono{α β:Type}{R S:α->β->Prop}(R3:∀a b,R a b->S a b):∀{l:List α}{m:List β},aI R l m->aI S l m|[],[],_=>trivial|_::_,_::_,h=>⟨R3 _ _ h.1,aI.mono R3 h.2⟩|[],_::_,h=>h.elim|_::_,[],h=>h.elim
def aI.vA{α β:Type}{R:α->β->Prop}:∀{l:List α}{m:List β},l.length=m.length->(∀(i:Nat)(a:α)(b:β),l[i]?=some a->m[i]?=some b->R a b)->aI R l m|[],[],_,_=>trivial|a::l,b::m,hl,h=>⟨h 0 a b rfl rfl,aI.vA (by grind) λi x y hx hy=>h (i+1) x y (by grind) (by grind)⟩|[],_::_,hl,_=>by grind|_::_,[],hl,_=>by grind
def aI.take{α β:Type}{R:α->β->Prop}{l:List α}{m:List β}(h:aI R l m)(k:Nat):aI R (l.take k) (m.take k):=by
 refine .vA (by simp[h.length]) λi a b ha hb=>?_;rw[gg]at ha hb;split at ha;.obtain⟨b',hb',hr⟩:=h.get i a ha<;>grind
 grind
def aI.drop{α β:Type}{R:α->β->Prop}{l:List α}{m:List β}(h:aI R l m)(k:Nat):aI R (l.drop k) (m.drop k):=by refine .vA (by simp[h.length]) λi a b ha hb=>?_;rw[sa]at ha hb;obtain⟨b',hb',hr⟩:=h.get _ a ha<;>grind
def aI.append{α β:Type}{R:α->β->Prop}:∀{l l':List α}{m m':List β},aI R l m->aI R l' m'->aI R (l++l') (m++m')|[],_,[],_,_,h=>h|_::_,_,_::_,_,h,h'=>⟨h.1,aI.append h.2 h'⟩|[],_,_::_,_,h,_=>h.elim|_::_,_,[],_,h,_=>h.elim
def I3(X:Cx):AV->Value->Prop|.d x,v=>DR X.w X.F x v|.own els .full,v=>∃a b o sz,v=.slice a els.length els.length/\(0<els.length->a=some ⟨b,o,none⟩)/\fe X.w X.F X.F els b o sz|.own els (.cT av tz),v=>∃a b o sz cap,v=.slice a els.length cap/\els.length<=cap/\(0<cap->a=some ⟨b,o,none⟩)/\fe X.w X.F X.F els b o sz/\X.ρ av=some ⟨b,o+els.length*sz,sz,cap-els.length⟩/\sz=tz|.own els .aY,v=>∃a b o sz cap,v=.slice a els.length cap/\els.length<=cap/\(0<els.length->a=some ⟨b,o,none⟩)/\fe X.w X.F (λb _=>X.old b) els b o sz|.ref _ _ av off n sz,v=>∃L a cap,X.ρ av=some L/\L.sz=sz/\v=.slice a n cap/\n<=cap/\(0<cap->a=some ⟨L.b,L.o+off*sz,none⟩/\off+cap<=L.cap)|.ptr _ _ av i off,v=>∃L,X.ρ av=some L/\v=.pointer (some ⟨L.b,L.o+i*L.sz+off,none⟩)|.fX _ _ av off n _,v=>∃L,X.ρ av=some L/\v=.slice (some ⟨L.b,L.o+off,none⟩) n n/\0<n|.gw e off,v=>∃b o,v=.pointer (some ⟨b,o+off,none⟩)/\∀j x,e[j]?=some x->(X.F b (o+j)\/X.old b)/\∃u,X.w.cell? ⟨b,o+j,none⟩=some u/\DR X.w X.F x u|.mp _ _ av,v=>∃L,X.ρ av=some L/\v=.map (some L.b)|_,_=>False
def VC(X:Cx):AV->Value->Prop|.fL f cap,v=>∃vs,v=.func (.func f) #[] vs/\aI (I3 X) cap vs.toList|x,v=>I3 X x v
def V1(X:Cx):AV->Value->Prop|.agg cs,v=>∃vs,v=.agg vs/\aI (VC X) cs vs.toList|x,v=>VC X x v
def VR(X:Cx):AV->Value->Prop|.jU xs,v=>∃vs,v=.tuple vs/\aI (V1 X) xs vs.toList|x,v=>V1 X x v
def I3.one{X:Cx}{x:AV}{v:Value}(h:I3 X x v):v.oneCell'=true:=by cases x with
 |d x=>exact DR.one h|own els o=>cases o<;>(obtain⟨_,_,_,_,h⟩:=h)<;>first|(obtain⟨rfl,_⟩:=h;rfl)|(obtain⟨_,rfl,_⟩:=h;rfl)
 |ref=>obtain⟨_,_,_,_,_,rfl,_⟩:=h;rfl|ptr=>obtain⟨_,_,rfl⟩:=h;rfl|fX=>obtain⟨_,_,rfl,_⟩:=h;rfl|gw=>obtain⟨_,_,rfl,_⟩:=h;rfl|mp=>obtain⟨_,_,rfl⟩:=h;rfl|_=>exact h.elim
def VC.one{X:Cx}{x:AV}{v:Value}(h:VC X x v):v.oneCell'=true:=by cases x with|fL f c=>obtain⟨_,rfl,_⟩:=h;rfl|_=>simp only[VC]at h;exact I3.one h
structure fy(old:Nat->Prop)(w w':World):Prop where
 os:w'.os=w.os
 tape:w'.tape=w.tape
 output:w'.output=w.output
 size:w.heap.size<=w'.heap.size
 block:∀k,old k->w'.heap[k]?=w.heap[k]?
def fy.toBelow{n:Nat}{w w':World}(h:fy (λb=>b<n) w w'):Below n w w':=⟨h.os,h.tape,h.output,h.size,h.block⟩
def fy.refl(old:Nat->Prop)(w:World):fy old w w:=⟨rfl,rfl,rfl,bd _,λ_ _=>rfl⟩
def fy.trans{old:Nat->Prop}{a b c:World}(h:fy old a b)(k:fy old b c):fy old a c:=⟨k.os.trans h.os,k.tape.trans h.tape,k.output.trans h.output,nb h.size k.size,λi hi=>(k.block i hi).trans (h.block i hi)⟩
def fy.mono{old old':Nat->Prop}{w w':World}(h:fy old w w')(ho:∀b,old' b->old b):fy old' w w':=⟨h.os,h.tape,h.output,h.size,λk hk=>h.block k (ho k hk)⟩
def fy.drew{old:Nat->Prop}{a w:World}(h:fy old a w):fy old a w.drew:=⟨h.os,h.tape,h.output,h.size,h.block⟩
def fy.alloc{old:Nat->Prop}{a w:World}(h:fy old a w)(hB:∀b,old b->b<w.heap.size)(o:Obj):fy old a (w.alloc o):=h.trans ⟨rfl,rfl,rfl,by simp,λk hk=>Go.RowKit.Below.heap_alloc _ _ _ (hB k hk)⟩
def fy.cell{old:Nat->Prop}{w w':World}(h:fy old w w'){p:Addr}(hp:old p.block):w'.cell? p=w.cell? p:=World.cell?_of_block (w:=w) (h.block p.block hp)
def fy.setRow{old:Nat->Prop}{g:Nat}{w0 w:World}(hb:fy old w0 w)(hg:¬old g)(cs:Array Value):fy old w0 (w.setRow g cs):=hb.trans ⟨rfl,rfl,rfl,by simp_all,λk hk=>setRow_other w g k cs (λe=>hg (e▸hk))⟩
structure Ext(X Y:Cx):Prop where
 base:Y.old=X.old
 below:fy X.old X.w Y.w
 zQ:∀b o,X.F b o->Y.F b o
 keep:∀b o,X.F b o->Y.w.cell? ⟨b,o,none⟩=X.w.cell? ⟨b,o,none⟩loc:∀v L,X.ρ v=some L->Y.ρ v=some L
 new:∀b o,Y.F b o->X.F b o\/¬X.old b
def Ext.refl(X:Cx):Ext X X:=⟨rfl,fy.refl _ _,λ_ _ h=>h,λ_ _ _=>rfl,λ_ _ h=>h,λ_ _ h=>.inl h⟩
def Ext.trans{X Y Z:Cx}(h:Ext X Y)(k:Ext Y Z):Ext X Z:=⟨k.base.trans h.base,h.below.trans (h.base▸k.below),λb o hb=>k.zQ b o (h.zQ b o hb),λb o hb=>(k.keep b o (h.zQ b o hb)).trans (h.keep b o hb),λv L hv=>k.loc v L (h.loc v L hv),λb o hb=>(k.new b o hb).elim (h.new b o) λhb=>.inr (h.base▸hb)⟩
def DR.ext{X Y:Cx}(hx:Ext X Y){x:D}{v:Value}(h:DR X.w X.F x v):DR Y.w Y.F x v:=by induction h with|sc v h1=>exact .sc v h1|er v h1=>exact .er v h1|sl els a n cap sz b o g hn hcap hsz ha hF hc _ ih=>exact .sl els a n cap sz b o g hn hcap hsz ha (λi e j x h1 h2=>hx.zQ _ _ (hF i e j x h1 h2)) (λi e j x h1 h2=>(hx.keep _ _ (hF i e j x h1 h2)).trans (hc i e j x h1 h2)) ih
def fe.ext{X Y:Cx}(hx:Ext X Y){els:List (List D)}{b o sz:Nat}(h:fe X.w X.F X.F els b o sz):fe Y.w Y.F Y.F els b o sz:=⟨h.1,λi e j x h1 h2=>by obtain⟨hF,v,hv,hd⟩:=h.2 i e j x h1 h2;exact⟨hx.zQ _ _ hF,v,(hx.keep _ _ hF).trans hv,hd.ext hx⟩⟩
def Ext.E9{X Y:Cx}(hx:Ext X Y){b:Nat}(h:X.old b)(o:Nat):Y.w.cell? ⟨b,o,none⟩=X.w.cell? ⟨b,o,none⟩:=hx.below.cell (p:=⟨b,o,none⟩) h
def I3.ext{X Y:Cx}(hx:Ext X Y){x:AV}{v:Value}(h:I3 X x v):I3 Y x v:=by cases x with
 |d x=>exact DR.ext hx h|own els o=>cases o with|full=>obtain⟨a,b,o,sz,hv,ha,hl⟩:=h;exact⟨a,b,o,sz,hv,ha,hl.ext hx⟩|cT av tz=>obtain⟨a,b,o,sz,cap,hv,hc,ha,hl,hr,hz⟩:=h;exact⟨a,b,o,sz,cap,hv,hc,ha,hl.ext hx,hx.loc _ _ hr,hz⟩|aY=>obtain⟨a,b,o,sz,cap,hv,hc,ha,hl⟩:=h;refine⟨a,b,o,sz,cap,hv,hc,ha,hl.1,λi e j x h1 h2=>?_⟩;obtain⟨hF,v,hv,hd⟩:=hl.2 i e j x h1 h2;exact⟨by simpa[hx.base]using hF,v,(hx.E9 hF _).trans hv,hd.ext hx⟩
 |ref lv sl av off n sz=>obtain⟨L,a,cap,hr,h⟩:=h;exact⟨L,a,cap,hx.loc _ _ hr,h⟩|ptr lv sl av i off=>obtain⟨L,hr,h⟩:=h;exact⟨L,hx.loc _ _ hr,h⟩|fX lv sl av off n sz=>obtain⟨L,hr,h⟩:=h;exact⟨L,hx.loc _ _ hr,h⟩|mp lv sl av=>obtain⟨L,hr,h⟩:=h;exact⟨L,hx.loc _ _ hr,h⟩|gw e off=>
  obtain⟨b,o,hv,h⟩:=h;refine⟨b,o,hv,λj x hj=>?_⟩;obtain⟨hF,u,hu,hd⟩:=h j x hj;refine⟨hF.imp (hx.zQ _ _) (λh=>by simpa[hx.base]using h),u,?_,hd.ext hx⟩;rcases hF with hF|hF;.exact(hx.keep _ _ hF).trans hu
  .exact(hx.E9 hF _).trans hu|_=>exact h
def VC.ext{X Y:Cx}(hx:Ext X Y){x:AV}{v:Value}(h:VC X x v):VC Y x v:=by cases x with|fL f c=>obtain⟨vs,hv,h⟩:=h;exact⟨vs,hv,h.mono λ_ _=>I3.ext hx⟩|_=>simp only[VC]at h⊢;exact I3.ext hx h
def V1.ext{X Y:Cx}(hx:Ext X Y){x:AV}{v:Value}(h:V1 X x v):V1 Y x v:=by cases x with|agg cs=>obtain⟨vs,hv,h⟩:=h;exact⟨vs,hv,h.mono λ_ _=>VC.ext hx⟩|_=>simp only[V1]at h⊢;exact VC.ext hx h
def VR.ext{X Y:Cx}(hx:Ext X Y){x:AV}{v:Value}(h:VR X x v):VR Y x v:=by cases x with|jU cs=>obtain⟨vs,hv,h⟩:=h;exact⟨vs,hv,h.mono λ_ _=>V1.ext hx⟩|_=>simp only[VR]at h⊢;exact V1.ext hx h
def bM.av:bM->Nat|.row v _=>v|.box v _=>v|.Po v _=>v|.mp v _=>v
def bM.fz:bM->Bool|.Po _ _=>true|_=>false
def Block(X:Cx)(b n:Nat):Prop:=¬X.old b/\∃c e,X.w.heap[b]?=some (.cells c e (0,0))/\n<=c.size
def GX(es:Array MapEntry)(ks:List (List UInt8)):Prop:=es.toList.map (λe=>(e.key,e.val))=ks.map λl=>(Value.string (od l),Value.bool true)
def pZ(X:Cx):bM->Loc->Prop|.row _ els,L=>els.length<=L.cap/\(∀e∈els,e.length=L.sz)/\(0<L.cap->Block X L.b (L.o+L.cap*L.sz)/\(∀o,¬X.F L.b o))/\∀i e j x,els[i]?=some e->e[j]?=some x->∃v,X.w.cell? ⟨L.b,L.o+i*L.sz+j,none⟩=some v/\DR X.w X.F x v|.box _ cells,L=>L.cap=1/\Block X L.b (L.o+cells.length)/\(∀o,¬X.F L.b o)/\∀j x,cells[j]?=some x->∃v,X.w.cell? ⟨L.b,L.o+j,none⟩=some v/\VC X x v|.Po _ els,L=>els.length<=L.cap/\fe X.w X.F X.F els L.b L.o L.sz|.mp _ ks,L=>L.cap=1/\¬X.old L.b/\(∀o,¬X.F L.b o)/\∃es clock,X.w.heap[L.b]?=some (.map es clock)/\GX es ks
def Ss(X:Cx)(L:Loc):Prop:=0<L.cap->Block X L.b (L.o+L.cap*L.sz)/\∀o,L.o<=o->¬X.F L.b o
def Holds(m:List (Tr bM))(t:Tr Unit)(k:Nat×Nat×Nat)(v:Nat):Prop:=(∃lv sl e,k=cF lv sl/\aT m lv sl=some e/\e.av=v/\e.fz=false)\/(k=kZ v/\t.get? v=some ())
structure Low(X:Cx):Prop where
 lt:∀b,X.old b->b<X.w.heap.size
 gb:∀b,LZ b->X.old b
 gk:gok X.w
def Low.ext{X Y:Cx}(h:Low X)(hx:Ext X Y):Low Y:=⟨by rw[hx.base];exactλb hb=>lj (h.lt b hb) hx.below.size,λb hb=>by rw[hx.base];exact h.gb b hb,Pq (λb hb=>hx.below.block b (h.gb b hb)) h.gk⟩
structure aM(X:Cx)(m:List (Tr bM))(t:Tr Unit):Prop where
 gz:∀lv sl e,aT m lv sl=some e->∃L,X.ρ e.av=some L/\pZ X e L
 aO:∀v,t.get? v=some ()->∃L,X.ρ v=some L/\Ss X L
 apart:∀k k' v v' L L',Holds m t k v->Holds m t k' v'->k≠k'->X.ρ v=some L->X.ρ v'=some L'->0<L.cap->0<L'.cap->L.b≠L'.b
 qI:∀b o,X.F b o->b<X.w.heap.size
 Bh:Low X
def aM.low{X:Cx}{m:List (Tr bM)}{t:Tr Unit}(h:aM X m t):∀b,X.old b->b<X.w.heap.size:=h.Bh.lt
def aM.fresh{X:Cx}{m:List (Tr bM)}{t:Tr Unit}(h:aM X m t):¬X.old X.w.heap.size:=λq=>pA _ (h.low _ q)
def Block.lt{X:Cx}{b n:Nat}(h:Block X b n):b<X.w.heap.size:=by grind[Block]
def Block.cell{X:Cx}{b n:Nat}(h:Block X b n)(o:Nat)(ho:o<n):∃v,X.w.cell? ⟨b,o,none⟩=some v:=by obtain⟨_,c,e,h,hn⟩:=h;rw[cell_of_row _ _ _ _ _ _ h];exact⟨_,px (by omega)⟩
def aM.congr{X:Cx}{m m':List (Tr bM)}{t t':Tr Unit}(h:aM X m t)(hm:∀lv sl,aT m' lv sl=aT m lv sl)(ht:∀v,t'.get? v=t.get? v):aM X m' t':=by
 have hh:∀k v,Holds m' t' k v->Holds m t k v:=by grind[Tr.get?,aT,Holds]
 exact⟨λlv sl e he=>h.gz lv sl e ((hm lv sl)▸he),λv hv=>h.aO v ((ht v)▸hv),λk k' v v' L L' a b=>h.apart k k' v v' L L' (hh _ _ a) (hh _ _ b),h.qI,h.Bh⟩
def aM.less{X:Cx}{m m':List (Tr bM)}{t t':Tr Unit}(h:aM X m t)(hm:∀lv sl e,aT m' lv sl=some e->aT m lv sl=some e)(ht:∀v,t'.get? v=some ()->t.get? v=some ()):aM X m' t':=by
 have hh:∀k v,Holds m' t' k v->Holds m t k v:=by grind[Tr.get?,aT,Holds]
 exact⟨λlv sl e he=>h.gz lv sl e (hm _ _ _ he),λv hv=>h.aO v (ht _ hv),λk k' v v' L L' a b=>h.apart k k' v v' L L' (hh _ _ a) (hh _ _ b),h.qI,h.Bh⟩
def aM.move{X Y:Cx}{m:List (Tr bM)}{t:Tr Unit}(h:aM X m t)(hx:Ext X Y)(hb:∀k v L,Holds m t k v->X.ρ v=some L->0<L.cap->Y.w.heap[L.b]?=X.w.heap[L.b]?)(hF:∀k v L o,Holds m t k v->X.ρ v=some L->0<L.cap->Y.F L.b o->X.F L.b o)(hin:∀b o,Y.F b o->b<Y.w.heap.size):aM Y m t:=by
 have blk:∀b n,Y.w.heap[b]?=X.w.heap[b]?->Block X b n->Block Y b n:=by rintro b n he⟨h1,c,e,h2,h3⟩;exact⟨by rw[hx.base];exact h1,c,e,by rw[he];exact h2,h3⟩
 have cel:∀b o,Y.w.heap[b]?=X.w.heap[b]?->Y.w.cell? ⟨b,o,none⟩=X.w.cell? ⟨b,o,none⟩:=by intro b o he;simp[World.cell?,he]
 refine⟨λlv sl e he=>?_,λv hv=>?_,λk k' v v' L L' a b hne hv n9=>?_,hin,?_⟩
 .obtain⟨L,hL,hE⟩:=h.gz lv sl e he;have hk:e.fz=false->Holds m t (cF lv sl) e.av:=λhz=>.inl ⟨lv,sl,e,rfl,he,rfl,hz⟩
  refine⟨L,hx.loc _ _ hL,?_⟩;cases e with|Po v els=>exact⟨hE.1,hE.2.ext hx⟩|mp v ks=>
   have hk:=hk rfl;obtain⟨h1,h2,h3,es,clock,h4,h5⟩:=hE;have hc:0<L.cap:=by omega
   exact⟨h1,by rw[hx.base];exact h2,λo ho=>h3 o (hF _ _ _ _ hk hL hc ho),es,clock,(hb _ _ _ hk hL hc).trans h4,h5⟩|row v els=>
   have hk:=hk rfl;obtain⟨h1,h2,h3,h4⟩:=hE;refine⟨h1,h2,λhc=>⟨blk _ _ (hb _ _ _ hk hL hc) (h3 hc).1,λo ho=>(h3 hc).2 o (hF _ _ _ _ hk hL hc ho)⟩,λi e j x hi hj=>?_⟩;have hc:0<L.cap:=by have:i<els.length:=(db.1 hi).1;omega
   obtain⟨u,hu,hd⟩:=h4 i e j x hi hj;exact⟨u,(cel _ _ (hb _ _ _ hk hL hc)).trans hu,hd.ext hx⟩|box v cells=>
   have hk:=hk rfl;obtain⟨h1,h2,h3,h4⟩:=hE;have hc:0<L.cap:=by omega
   refine⟨h1,blk _ _ (hb _ _ _ hk hL hc) h2,λo ho=>h3 o (hF _ _ _ _ hk hL hc ho),λj x hj=>?_⟩;obtain⟨u,hu,hd⟩:=h4 j x hj;exact⟨u,(cel _ _ (hb _ _ _ hk hL hc)).trans hu,hd.ext hx⟩
 .obtain⟨L,hL,hT⟩:=h.aO v hv;have hk:Holds m t (kZ v) v:=.inr ⟨rfl,hv⟩;exact⟨L,hx.loc _ _ hL,λhc=>⟨blk _ _ (hb _ _ _ hk hL hc) (hT hc).1,λo ho hf=>(hT hc).2 o ho (hF _ _ _ _ hk hL hc hf)⟩⟩
 .have ho:∀k v,Holds m t k v->∃L,X.ρ v=some L:=by
   rintro k v(⟨lv,sl,e,_,he,rfl,_⟩|⟨_,he⟩);.obtain⟨L,hL,_⟩:=h.gz lv sl e he;exact⟨L,hL⟩
   .obtain⟨L,hL,_⟩:=h.aO v he;exact⟨L,hL⟩
  obtain⟨M,hM⟩:=ho _ _ a;obtain⟨M',mH⟩:=ho _ _ b;rw[hx.loc _ _ hM]at hv;rw[hx.loc _ _ mH]at n9;simp_all;subst hv;subst n9;exact h.apart k k' v v' M M' a b hne hM mH
 .exact h.Bh.ext hx
def aM.erase{X:Cx}{m:List (Tr bM)}{t:Tr Unit}(h:aM X m t)(lv sl:Nat):aM X (cH m lv sl none) t:=h.less (λcV dy e he=>by rw[cM]at he<;>grind) λ_ h=>h
def aM.L0{X:Cx}{m:List (Tr bM)}{t:Tr Unit}(h:aM X m t)(v:Nat):aM X m (t.set v none):=h.less (λ_ _ _ h=>h) λv' he=>by rw[Tr.cD]at he<;>grind
def BU{a b c d:Nat}(h:cF a b=cF c d):a=c/\b=d:=by simpa[cF]using h
def fP{a b c:Nat}:cF a b≠kZ c:=by simp[cF,kZ]
def aM.add{X:Cx}{m:List (Tr bM)}{t:Tr Unit}{lv sl:Nat}{e:bM}{L:Loc}(h:aM X m t)(hL:X.ρ e.av=some L)(hE:pZ X e L)(hap:∀k v M,Holds m t k v->k≠cF lv sl->X.ρ v=some M->0<M.cap->0<L.cap->M.b≠L.b):aM X (cH m lv sl (some e)) t:=by
 have hh:∀k v,Holds (cH m lv sl (some e)) t k v->(k=cF lv sl/\v=e.av)\/(k≠cF lv sl/\Holds m t k v):=by
  rintro k v(⟨cV,dy,e',hk,he,hv⟩|⟨hk,he⟩)
  .rw[cM]at he;split at he;.subst_vars;simp_all
   .by_cases hke:k=cF lv sl
    .rename_i hc;rw[hk]at hke;obtain⟨rfl,rfl⟩:=BU hke;exfalso;apply hc;refine⟨rfl,rfl,?_⟩;unfold aT at he;rcases i9 cV m.length with hl|hl;.exact hl
     .rw[eJ hl]at he;cases he
    .exact .inr ⟨hke,.inl ⟨cV,dy,e',hk,he,hv⟩⟩
  .exact .inr ⟨by rw[hk];exactλh=>fP h.symm,.inr ⟨hk,he⟩⟩
 refine⟨λcV dy e' he=>?_,h.aO,λk k' v v' M M' a b hne hv n9 hc Ew=>?_,h.qI,h.Bh⟩
 .rw[cM]at he;split at he;.simp_all
  .exact h.gz cV dy e' he
 .rcases hh _ _ a with⟨rfl,rfl⟩|⟨hk,a⟩
  .rcases hh _ _ b with⟨rfl,rfl⟩|⟨hk',b⟩;.exact absurd rfl hne
   .rw[hL]at hv;cases hv;exact(hap _ _ _ b hk' n9 Ew hc).symm
  .rcases hh _ _ b with⟨rfl,rfl⟩|⟨hk',b⟩;.rw[hL]at n9;cases n9;exact hap _ _ _ a hk hv hc Ew
   .exact h.apart k k' v v' M M' a b hne hv n9 hc Ew
def aM.Zc{X:Cx}{m:List (Tr bM)}{t:Tr Unit}{v:Nat}{L:Loc}(h:aM X m t)(hL:X.ρ v=some L)(hE:Ss X L)(hap:∀k u M,Holds m t k u->k≠kZ v->X.ρ u=some M->0<M.cap->0<L.cap->M.b≠L.b):aM X m (t.set v (some ())):=by
 have hh:∀k u,Holds m (t.set v (some ())) k u->(k=kZ v/\u=v)\/(k≠kZ v/\Holds m t k u):=by
  rintro k u(⟨cV,dy,e',hk,he,hv⟩|⟨hk,he⟩);.exact .inr ⟨by rw[hk];exact fP,.inl ⟨cV,dy,e',hk,he,hv⟩⟩
  .rw[Tr.cD]at he<;>grind[Tr.set,Tr.get?,Ss,Holds,kZ]
 refine⟨h.gz,λu hu=>?_,λk k' u u' M M' a b hne hv n9 hc Ew=>?_,h.qI,h.Bh⟩
 .rw[Tr.cD]at hu;split at hu;.subst_vars;exact⟨L,hL,hE⟩
  .exact h.aO u hu
 .rcases hh _ _ a with⟨ek,ev⟩|⟨hk,a⟩
  .rcases hh _ _ b with⟨ek',ev'⟩|⟨hk',b⟩;.exact absurd (ek.trans ek'.symm) hne
   .rw[ev,hL]at hv;cases hv;exact(hap _ _ _ b hk' n9 Ew hc).symm
  .rcases hh _ _ b with⟨ek',ev'⟩|⟨hk',b⟩;.rw[ev',hL]at n9;cases n9;exact hap _ _ _ a hk hv hc Ew
   .exact h.apart k k' u u' M M' a b hne hv n9 hc Ew
def VR.sc{X:Cx}{u v:Value}(h:VR X (.d (.sc u)) v):v=u:=by cases h;rfl
def VR.BV{X:Cx}{v:Value}(h:v.oneCell'=true):VR X (.d (.sc v)) v:=DR.sc v h
def VR.nJ{X:Cx}{v:Value}(h:v.oneCell'=true):VR X (nJ v) v:=DR.sc v h
def wU{X:Cx}{v:Value}{x:AV}(h:jf v=some x):VC X x v:=by cases v with
 |slice a n c=>
    simp[jf]at h;split at h;.rename_i hv;cases hv;cases h;exact⟨none,0,0,0,rfl,λh=>absurd h (by simp),by simp,λi e j x h=>by simp at h⟩
    all_goals first|(cases h;done)|simp_all
 |agg cs=>simp[jf]at h|tuple cs=>simp[jf]at h|func fn first cap=>
    simp only[jf]at h;split at h
    . split at h;.rename_i h0;cases h;obtain⟨h1,h2⟩:=h0;rw[Array.size_eq_zero_iff]at h1 h2;subst h1;subst h2;exact⟨#[],rfl,trivial⟩
      grind
    grind|_=>simp only[jf]at h;injection h with h;subst h;exact DR.sc _ rfl
def nB{X:Cx}:∀{vs:List Value}{xs:List AV},gi vs=some xs->aI (VC X) xs vs
 |[],xs,h=>by grind[gi,VC,aI]|v::r,xs,h=>by
  simp[gi]at h;split at h;.rename_i x xs' h1 h2;cases h;exact⟨wU h1,nB h2⟩
  grind
def VR.kQ{X:Cx}{x:AV}{v:Value}(h:VC X x v):VR X x v:=by cases x with|agg cs=>exact h.elim|jU cs=>exact h.elim|_=>exact h
def VR.wV{X:Cx}{x:AV}{v:Value}(h:V1 X x v):VR X x v:=by cases x with|jU cs=>exact h.elim|_=>exact h
def V1.kQ{X:Cx}{x:AV}{v:Value}(h:VC X x v):V1 X x v:=by cases x with|agg cs=>exact h.elim|_=>exact h
def Pr{X:Cx}{v:Value}{x:AV}(h:vw v=some x):VR X x v:=by cases v with
 |agg cs=>simp only[vw]at h;cases hc:gi cs.toList with|none=>grind|some xs=>rw[hc]at h;cases h;exact⟨cs,rfl,nB hc⟩
 |tuple vs=>
  simp only[vw]at h;split at h;.rename_i h0;simp at h0;cases h;subst h0;exact⟨#[],rfl,trivial⟩
  grind|_=>exact .kQ (wU h)
def o7{X:Cx}:VR X kI undef:=⟨#[],rfl,trivial⟩
structure NT where
 n:Nat
 ds:List Deferred
instance:Coe NT Nat:=⟨NT.n⟩
structure fQ(X:Cx)(nt:NT)(s:St)(a:Act):Prop where
 slots:∀t,VR X (dL s.slots t) (a.tmps.getD t undef)size:a.tmps.size=nt.n
 defers:a.defers=nt.ds
 mem:aM X s.mem s.aO
def bD{X:Cx}{nt:NT}{s:St}{a:Act}(hs:fQ X nt s a){x:Operand}{y:cq}(h:dA x=some y):VR X (y.ev s.slots) (a.eval x):=by cases x with
 |tmp t=>simp[dA]at h;subst h;exact hs.slots t|const v=>cases hc:vw v with|none=>simp[dA,hc]at h|some x=>simp[dA,hc]at h;subst h;exact Pr hc
 |func f=>simp[dA]at h;subst h;exact⟨#[],rfl,trivial⟩|global g=>simp[dA]at h
def wW{X:Cx}{nt:NT}{s:St}{a:Act}(hs:fQ X nt s a):∀{xs:List Operand}{ys:List cq},jw xs=some ys->aI (VR X) (Et s.slots ys) (xs.map a.eval)
 |[],ys,h=>by grind[jw,Et,VR,aI]|x::r,ys,h=>by
  simp[jw]at h;split at h;.rename_i y ys' h1 h2;cases h;exact⟨bD hs h1,wW hs h2⟩
  grind
def o8{X:Cx}{x:AV}{v:Value}{b:Bool}(h:jW x=some b)(hv:VR X x v):v=.bool b:=by
 unfold jW at h;split at h;.cases h;exact hv.sc
 grind
def Fa{X:Cx}{x:AV}{v:Value}{n:Int}(h:td x=some n)(hv:VR X x v):∃k,v=.int k n:=by
 unfold td at h;split at h;.cases h;exact⟨_,hv.sc⟩
 grind
def kR{X:Cx}{x:AV}{v:Value}{n:Nat}(h:gN x=some n)(hv:VR X x v):∃k,v=.int k (n:Int):=by unfold gN at h;cases hi:td x with|none=>grind|some m=>
 rw[hi]at h;simp only[ae]at h;split at h;.obtain⟨k,hk⟩:=Fa hi hv<;>grind
 grind
section
variable{P:Program}
def Zd{op:BinOp}{k k':IntKind}{m n:Int}{v:Value}(t:TypeId)(w:World)(h:GR op k m k' n=some v):(binOp op t (.int k m) (.int k' n)).run P w=.ok v w/\v.oneCell'=true:=by
 have plain:∀(f:Value),v=f->f.oneCell'=true->(binOp op t (.int k m) (.int k' n)).run P w=.ok f w->(binOp op t (.int k m) (.int k' n)).run P w=.ok v w/\v.oneCell'=true:=by grind
 by_cases hk:k=k';.subst hk;cases op<;>simp only[GR,E5,cf,ne_eq,wt,n3]at h<;>first
      |(cases h;done)|(injection h with h;refine plain _ h.symm rfl ?_;simp[binOp,Op.intArith,Op.intBits,Op.intCmp];done)
      | (split at h;.cases h
         .rename_i hn;injection h with h;refine plain _ h.symm rfl ?_;simp[binOp,Op.intDiv,Op.shift,hn])
 .cases op<;>simp only[GR,ne_eq,hk,not_false_eq_true,kp]at h<;>first
      |(cases h;done)
      | (split at h;.cases h
         .rename_i hn;injection h with h;refine plain _ h.symm rfl ?_;simp[binOp,Op.shift,hn])
def Ze{op:BinOp}{x y:ByteArray}{v:Value}(t:TypeId)(w:World)(h:LX op x y=some v):(binOp op t (.string x) (.string y)).run P w=.ok v w/\v.oneCell'=true:=by
 have hb:(binOp op t (.string x) (.string y))=Op.stringOp op x y:=by cases op<;>rfl
 rw[hb];cases op with|add=>
  simp only[LX]at h;split at h;.cases h
  .rename_i hn;cases h;exact⟨by simp only[Op.stringOp];rw[bi hn];rfl,rfl⟩|_=>simp only[LX]at h<;>first|(cases h;done)|(injection h with h;subst h;exact⟨by simp[Op.stringOp],rfl⟩)
def Zf{X:Cx}{op:BinOp}{x y:AV}{u v r:Value}(t:TypeId)(hx:VR X x u)(hy:VR X y v)(h:Si op x y=some r):(binOp op t u v).run P X.w=.ok r X.w/\r.oneCell'=true/\((∃k m,u=.int k m)\/∃b,u=.string b):=by
 unfold Si at h;split at h;.rw[hx.sc,hy.sc];obtain⟨h1,h2⟩:=Zd (P:=P) t X.w h<;>grind
 .rw[hx.sc,hy.sc];obtain⟨h1,h2⟩:=Ze (P:=P) t X.w h<;>grind
 grind
def nC{op:BinOp}{t:TypeId}{x y:Operand}{u v:Value}{w:World}(h1:u≠.nilIface)(h2:∀c,u≠.agg c):(eqGuard op t x y u v).run P w=.ok () w:=by cases u<;>first|(exact absurd rfl h1)|(exact absurd rfl (h2 _))|(cases op<;>rfl)
def wX(xs ys:List AV):∀(l m:List (Nat×Nat)),nI xs ys (l++m)=match nI xs ys l with|some true=>nI xs ys m|r=>r
 |[],m=>rfl|o::l,m=>by simp[pt,nI];cases xs[o.1]?with|none=>rfl|some x=>cases ys[o.1]?with|none=>rfl|some y=>simp;cases IZ o.2 x y with|none=>rfl|some b=>cases b with|true=>exact wX xs ys l m|false=>rfl
def N5{X:Cx}{kd:Nat}{x y:AV}{u v:Value}{b:Bool}(h:IZ kd x y=some b)(hx:VC X x u)(hy:VC X y v):(∃p q,kd=0/\u=.bool p/\v=.bool q/\b=(p==q))\/(∃k p q,kd=1/\u=.int k p/\v=.int k q/\b=(p==q))\/∃p q,2<=kd/\u=.string p/\v=.string q/\b=(p==q):=by
  unfold IZ at h;split at h
  . split at h;.injection h with h;exact .inl ⟨_,_,rfl,VR.sc (.kQ hx),VR.sc (.kQ hy),h.symm⟩
    grind
  . split at h
    . split at h;.subst_vars;injection h with h;exact .inr (.inl ⟨_,_,_,rfl,VR.sc (.kQ hx),VR.sc (.kQ hy),h.symm⟩)
      grind
    grind
  . split at h;.cases h
    .cases h
    .injection h with h;refine .inr (.inr ⟨_,_,?_,VR.sc (.kQ hx),VR.sc (.kQ hy),h.symm⟩)<;>grind
  grind
def Pt{X:Cx}{xs ys:List AV}{us vs:Array Value}(hx:aI (VC X) xs us.toList)(hy:aI (VC X) ys vs.toList){off kd:Nat}{b:Bool}(h:nI xs ys [(off,kd)]=some b):∃u v,us[off]?=some u/\vs[off]?=some v/\((∃p q,kd=0/\u=.bool p/\v=.bool q/\b=(p==q))\/(∃k p q,kd=1/\u=.int k p/\v=.int k q/\b=(p==q))\/∃p q,2<=kd/\u=.string p/\v=.string q/\b=(p==q)):=by
  simp[nI]at h;split at h
  . rename_i x y h1 h2;obtain⟨u,hu,hxu⟩:=hx.get _ _ h1;obtain⟨v,hv,hyv⟩:=hy.get _ _ h2;refine⟨u,v,by simpa using hu,by simpa using hv,?_⟩;split at h;.rename_i h3;cases h;exact N5 h3 hxu hyv
    .rename_i h3;cases h;exact N5 h3 hxu hyv
    grind
  grind
def L3{X:Cx}{xs ys:List AV}{us vs:Array Value}(hx:aI (VC X) xs us.toList)(hy:aI (VC X) ys vs.toList)(w:World):∀(n:Nat)(t:TypeId)(off:Nat)(l:List (Nat×Nat))(sz d:Nat)(b:Bool)(A B:Array Value)(o:Nat),pX P n t off=some l->dg P t=some sz->n<=d->nI xs ys l=some b->(∀j,j<sz->A[o+j]?=us[off+j]?)->(∀j,j<sz->B[o+j]?=vs[off+j]?)->∃p q,(part t A o).run P w=.ok p w/\(part t B o).run P w=.ok q w/\(Op.equalIn d t p q).run P w=.ok b w:=by intro n;induction n with|zero=>intro t off l sz d b A B o h;cases h|succ n ih=>
    intro t off l sz d b A B o h hsz hd hb hA hB;obtain⟨i,hi,hs⟩:∃i,P.info? t=some i/\i.size=sz:=by unfold dg at hsz;cases hi:P.info? t with|none=>rw[hi]at hsz;cases hsz|some i=>rw[hi]at hsz;exact⟨i,rfl,by simpa using hsz⟩
    obtain⟨d,rfl⟩:∃e,d=e+1:=⟨d-1,by omega⟩;simp only[pX,hsz]at h;have basic:∀kd,nI xs ys [(off,kd)]=some b->sz=1->(isAgg t).run P w=.ok false w->(∀p q,kd=0->(Op.equalIn (d+1) t (.bool p) (.bool q)).run P w=.ok (p==q) w)->(∀k p q,kd=1->(Op.equalIn (d+1) t (.int k p) (.int k q)).run P w=.ok (p==q) w)->(∀p q,2<=kd->(Op.equalIn (d+1) t (.string p) (.string q)).run P w=.ok (p==q) w)->∃p q,(part t A o).run P w=.ok p w/\(part t B o).run P w=.ok q w/\(Op.equalIn (d+1) t p q).run P w=.ok b w:=by
      intro kd he h1 th hb0 qC vB;obtain⟨u,v,hu,hv,hk⟩:=Pt hx hy he;have hA0:=hA 0 (by omega);have hB0:=hB 0 (by omega);simp only[dT]at hA0 hB0;rw[hu]at hA0;rw[hv]at hB0;refine⟨u,v,by simp[part,th,hA0],by simp[part,th,hB0],?_⟩;rcases hk with⟨p,q,hk,rfl,rfl,rfl⟩|⟨k,p,q,hk,rfl,rfl,rfl⟩|⟨p,q,hk,rfl,rfl,rfl⟩;.exact hb0 p q hk
      .exact qC k p q hk
      .exact vB p q hk
    split at h;.rename_i h1 hu;injection h with h;subst h;refine basic 0 hb (by simpa using h1) (by simp[isAgg,run_underlying hu]) (λp q _=>by simp[Op.equalIn,run_underlying hu]) (λ_ _ _ h=>by omega) (λ_ _ h=>by omega)
    .rename_i h1 hu;injection h with h;subst h;refine basic 1 hb (by simpa using h1) (by simp[isAgg,run_underlying hu]) (λ_ _ h=>by omega) (λk p q _=>by simp[Op.equalIn,run_underlying hu]) (λ_ _ h=>by omega)
    .rename_i h1 hu;injection h with h;subst h;refine basic 2 hb (by simpa using h1) (by simp[isAgg,run_underlying hu]) (λ_ _ h=>by omega) (λ_ _ _ h=>by omega) (λp q _=>by simp[Op.equalIn,run_underlying hu])
    . rename_i sz' fs h1 hu;injection h1 with h1;subst h1;split at h;.cases h
      . rename_i hst;have hf:P.fieldsOf t=fs:=by simp[Program.fieldsOf,hu]
        refine⟨.agg (A.extract o (o+sz)),.agg (B.extract o (o+sz)),by simp[part,isAgg,run_underlying hu,sizeOf,typeInfo,hi,hs],by simp[part,isAgg,run_underlying hu,sizeOf,typeInfo,hi,hs],?_⟩;rw[run_equalIn_struct w d t _ _ (by rw[hf];exact hu) (by simpa using hst),hf];have hex:∀(C us:Array Value),(∀j,j<sz->C[o+j]?=us[off+j]?)->∀f fz,f+fz<=sz->∀j,j<fz->(C.extract o (o+sz))[f+j]?=us[off+f+j]?:=by
          intro C us hC f fz hfz j hj;rw[Array.getElem?_extract];have:=hC (f+j) (by omega);rw[<-fb,<-fb]at this;split;.rw[<-this,fb]
          .rename_i hn;rw[<-this,Array.getElem?_eq_none (by omega)]
        clear basic hu hf;generalize fs.toList=fl at h;induction fl generalizing l b with|nil=>simp only[List.foldr_nil]at h;injection h with h;subst h;simp only[nI]at hb;injection hb with hb;subst hb;rfl|cons f fl ihf=>
          simp only[List.foldr_cons]at h;split at h
          . rename_i l' fz hl' hfz;split at h;.cases h
            .rename_i hn;obtain⟨hn1,hn2⟩:=tl.1 hn;cases hc:pX P n f.type (off+f.offset)with|none=>rw[hc]at h;cases h|some lf=>
             rw[hc]at h;simp only[cf]at h;injection h with h;subst h;rw[wX]at hb;have step:∀b',nI xs ys lf=some b'->(Op.eqFields d (A.extract o (o+sz)) (B.extract o (o+sz)) (f::fl)).run P w=(if(!b')=true then .ok false w else(Op.eqFields d (A.extract o (o+sz)) (B.extract o (o+sz)) fl).run P w):=by intro b' hb';obtain⟨p,q,hp,hq,he⟩:=ih f.type (off+f.offset) lf fz d b' (A.extract o (o+sz)) (B.extract o (o+sz)) f.offset hc hfz (by omega) hb' (λj hj=>hex A us hA _ fz (by omega) j hj) (λj hj=>hex B vs hB _ fz (by omega) j hj);simp[Op.eqFields,hn1,hp,hq,he]
             cases hlf:nI xs ys lf with|none=>rw[hlf]at hb;cases hb|some b'=>rw[hlf]at hb;rw[step b' hlf];cases b' with|true=>simpa using ihf l' b hb hl'|false=>simp only at hb;injection hb with hb;subst hb;rfl
          .cases h
    .cases h
def adt{X:Cx}{t:TypeId}{l:List (Nat×Nat)}{xs ys:List AV}{u v:Value}{b:Bool}(hc:pX P 20 t 0=some l)(hg:P.eqGuardType P.depth t=false)(hst:∃fs,P.underlying t=some (.struct fs))(hx:VR X (.agg xs) u)(hy:VR X (.agg ys) v)(h:nI xs ys l=some b)(x y:Operand):∃us vs,u=.agg us/\v=.agg vs/\(∀op,(eqGuard op t x y u v).run P X.w=.ok () X.w)/\(us.size=((dg P t).getD 0)->vs.size=((dg P t).getD 0)->(Op.equal t u v).run P X.w=.ok b X.w):=by
 obtain⟨us,rfl,hx⟩:=hx;obtain⟨vs,rfl,hy⟩:=hy;refine⟨us,vs,rfl,rfl,λop=>?_,λhus hvs=>?_⟩;.unfold eqGuard;cases op<;>simp[hg]
 .obtain⟨fs,hst⟩:=hst;cases hsz:dg P t with|none=>simp[pX,hsz]at hc|some sz=>
  rw[hsz]at hus hvs;obtain⟨p,q,hp,hq,he⟩:=L3 (P:=P) hx hy X.w 20 t 0 l sz Op.maxDepth b us vs 0 hc hsz (by decide) h (λj _=>by simp) (λj _=>by simp);obtain⟨i,hi,hs⟩:∃i,P.info? t=some i/\i.size=sz:=by unfold dg at hsz;cases hi:P.info? t with|none=>rw[hi]at hsz;cases hsz|some i=>rw[hi]at hsz;exact⟨i,rfl,by simpa using hsz⟩
  have ag:∀C:Array Value,C.size=sz->(part t C 0).run P X.w=.ok (.agg C) X.w:=by intro C hC;simp[part,isAgg,run_underlying hst,sizeOf,typeInfo,hi,hs,<-hC]
  simp_all;exact he
end
def BW{w:World}{α:Type}{R:α->Value->Prop}{b o:Nat}:∀(cs:List α),(∀(j:Nat)(x:α),cs[j]?=some x->∃v,w.cell? ⟨b,o+j,none⟩=some v/\R x v)->∃vs:List Value,(∀j u,vs[j]?=some u->w.cell? ⟨b,o+j,none⟩=some u)/\aI R cs vs:=by intro cs;induction cs generalizing o with|nil=>exactλ_=>⟨[],by simp,trivial⟩|cons c cs ih=>
 intro h;obtain⟨v,hv,hr⟩:=h 0 c rfl;obtain⟨vs,h1,h2⟩:=ih (o:=o+1) λj x hj=>by obtain⟨u,hu,hr⟩:=h (j+1) x (by simpa using hj);exact⟨u,by rw[<-hu];congr 2;omega,hr⟩
 refine⟨v::vs,λj u hj=>?_,hr,h2⟩<;>grind
def eU{α:Type}{l:List α}{k n j:Nat}{x:α}(h:((l.drop k).take n)[j]?=some x):l[k+j]?=some x/\j<n:=by grind
def GY{X:Cx}{b o off sz:Nat}{e:List D}(h:∀(j:Nat)(x:D),e[j]?=some x->∃u,X.w.cell? ⟨b,o+j,none⟩=some u/\DR X.w X.F x u):∃vs:List Value,(∀j u,vs[j]?=some u->X.w.cell? ⟨b,(o+off)+j,none⟩=some u)/\aI (VC X) (((e.drop off).take sz).map .d) vs:=by refine BW _ λj x hj=>?_;rw[eI]at hj;cases hq:((e.drop off).take sz)[j]?with|none=>grind|some y=>rw[hq]at hj;cases hj;obtain⟨u,hu,hd⟩:=h _ _ (eU hq).1;exact⟨u,by rw[<-hu,fb],hd⟩
def I4{X:Cx}{m:List (Tr bM)}{t:Tr Unit}(hm:aM X m t){p:AV}{v:Value}{sz:Nat}{cs:List AV}(hv:VR X p v)(h:sK m sz p=some cs):∃b o vs,v=.pointer (some ⟨b,o,none⟩)/\(∀j u,vs[j]?=some u->X.w.cell? ⟨b,o+j,none⟩=some u)/\aI (VC X) cs vs/\cs.length=sz:=by
  unfold sK at h;split at h
  . rename_i lv sl av i off;obtain⟨L,hL,rfl⟩:=hv;split at h
    . rename_i v' cells hg;split at h
      . rename_i n9 hi;split at h
        . have n9:=beq_true.1 n9;have hi:=beq_true.1 hi;subst n9;obtain⟨L',hL',hE⟩:=hm.gz _ _ _ hg;have:X.ρ v'=some L':=hL';rw[hL]at this;cases this;obtain⟨h1,h2,h3,h4⟩:=hE;obtain⟨vs,g1,g2⟩:=BW (w:=X.w) (R:=VC X) (b:=L.b) (o:=L.o+off) ((cells.drop off).take sz) λj x hj=>by obtain⟨u,hu,hr⟩:=h4 _ _ (eU hj).1;exact⟨u,by rw[<-hu,fb],hr⟩
          grind
        grind
      grind
    . rename_i v' els hg;split at h
      . rename_i n9;split at h
        . rename_i e he;split at h;.have n9:=beq_true.1 n9;subst n9;obtain⟨L',hL',hE⟩:=hm.gz _ _ _ hg;have:X.ρ v'=some L':=hL';rw[hL]at this;cases this;obtain⟨h1,h2,h3,h4⟩:=hE;obtain⟨vs,g1,g2⟩:=GY (X:=X) (b:=L.b) (o:=L.o+i*L.sz) (off:=off) (sz:=sz) (e:=e) λj x hj=>h4 i e j x he hj<;>grind
          grind
        grind
      grind
    . rename_i v' els hg;split at h
      . rename_i n9;split at h
        . rename_i e he;split at h;.have n9:=beq_true.1 n9;subst n9;obtain⟨L',hL',hE⟩:=hm.gz _ _ _ hg;have:X.ρ v'=some L':=hL';rw[hL]at this;cases this;obtain⟨vs,g1,g2⟩:=GY (X:=X) (b:=L.b) (o:=L.o+i*L.sz) (off:=off) (sz:=sz) (e:=e) λj x hj=>(hE.2.2 i e j x he hj).2<;>grind
          grind
        grind
      grind
    .cases h
    grind
  . rename_i e off;split at h;.obtain⟨b,o,rfl,h4⟩:=hv;obtain⟨vs,g1,g2⟩:=GY (X:=X) (b:=b) (o:=o) (off:=off) (sz:=sz) (e:=e) λj x hj=>(h4 j x hj).2<;>grind
    grind
  grind
section
variable{P:Program}
def fZ{t:TypeId}{sz:Nat}(h:dg P t=some sz):∃i,P.info? t=some i/\i.size=sz:=by simp_all[dg]
def BX{t:TypeId}{b:Bool}(h:oZ P t=some b)(w:World):(isAgg t).run P w=.ok b w:=by
 unfold oZ at h;split at h;.rename_i hu;cases h;simp[isAgg,run_underlying hu]
 .rename_i hu;cases h;simp[isAgg,run_underlying hu]
 .rename_i d h1 h2 hu;simp only[isAgg,Sem.run_bind,run_underlying hu,Result.andThen_ok]<;>simp_all
 grind
def BY{X:Cx}{t:TypeId}{sz:Nat}{agg:Bool}{b o:Nat}{cs:List AV}{vs:List Value}{r:AV}(hsz:dg P t=some sz)(th:oZ P t=some agg)(h1:agg=true\/sz=1)(hc:∀j u,vs[j]?=some u->X.w.cell? ⟨b,o+j,none⟩=some u)(h2:aI (VC X) cs vs)(hl:cs.length=sz)(hr:iz agg cs=some r):∃v,(loadVar t ⟨b,o,none⟩).run P X.w=.ok v X.w/\V1 X r v:=by
 obtain⟨i,hi,hs⟩:=fZ hsz;have th:=BX th X.w;have Ew:∀j u,vs[j]?=some u->X.w.cell? ((⟨b,o,none⟩:Addr).add j)=some u:=λj u h=>by rw[Addr.add_lit];exact hc j u h
 cases agg with|true=>
  have hl':vs.length=sz:=by rw[<-h2.length,hl]
  have:=run_loadCells_list (P:=P) X.w ⟨b,o,none⟩ vs Ew;rw[hl']at this;cases hr;exact⟨.agg vs.toArray,by simp[loadVar,th,sizeOf,typeInfo,hi,hs,this],vs.toArray,rfl,by simpa using h2⟩|false=>
  simp[iz]at hr;split at hr;.simp_all;match vs,h2 with|[u],h2=>have:=hc 0 u rfl;simp at this;exact⟨u,by simp[loadVar,th,this],.kQ h2.1⟩|[],h2=>exact h2.elim|_::_::_,h2=>exact h2.2.elim
  grind
def jZ(a:Addr)(w:World):(Instr.sureAddr (.pointer (some a))).run P w=.ok a w:=rfl
def Quiet(P:Program)(X:Cx)(o:Oper)(a:Act)(val:AV):Prop:=∃v,(execOp a.eval o).run P X.w=.ok (.value v) X.w/\VR X val v
variable{X:Cx}{nt:NT}{s:St}{a:Act}
def wY(hs:fQ X nt s a){o:Oper}{t:TypeId}{x:Operand}{y:cq}{sz:Nat}{agg:Bool}{cs:List AV}{r:AV}(ho:o.op=.load t x)(hsz:dg P t=some sz)(th:oZ P t=some agg)(h1:agg=true\/sz=1)(hx:dA x=some y)(hl:sK s.mem sz (y.ev s.slots)=some cs)(hr:iz agg cs=some r):Quiet P X o a r:=by obtain⟨b,off,vs,hv,hc,h2,hlen⟩:=I4 hs.mem (bD hs hx) hl;obtain⟨v,hrun,hV⟩:=BY (P:=P) hsz th h1 hc h2 hlen hr;exact⟨v,by simp[execOp,ho,Instr.loadAt,hv,jZ,hrun],.wV hV⟩
def Zg(hs:fQ X nt s a){o:Oper}{c x y:Operand}{c' x' y':cq}{b:Bool}(ho:o.op=.pick c x y)(hc:dA c=some c')(hx:dA x=some x')(hy:dA y=some y')(hb:jW (c'.ev s.slots)=some b):Quiet P X o a (if b then x'.ev s.slots else y'.ev s.slots):=by
 have:=o8 hb (bD hs hc);refine⟨if b then a.eval x else a.eval y,by simp[execOp,ho,this,asBool],?_⟩;cases b;.exact bD hs hy
 .exact bD hs hx
def adu(hs:fQ X nt s a){o:Oper}{op:BinOp}{t u:TypeId}{x y:Operand}{x' y':cq}{r:Value}(ho:o.op=.binOp op t x y u)(hx:dA x=some x')(hy:dA y=some y')(h:Si op (x'.ev s.slots) (y'.ev s.slots)=some r):Quiet P X o a (nJ r):=by
 obtain⟨h1,h2,h3⟩:=Zf (P:=P) t (bD hs hx) (bD hs hy) h;refine⟨r,?_,.nJ h2⟩;have hg:(eqGuard op t x y (a.eval x) (a.eval y)).run P X.w=.ok () X.w:=by rcases h3 with⟨k,m,h3⟩|⟨m,h3⟩<;>rw[h3]<;>exact nC (by simp) (by simp)
 simp[execOp,ho,hg,h1]
def adv(hs:fQ X nt s a){o:Oper}{neg:Bool}{t u:TypeId}{x y:Operand}{x' y':cq}{p q:Bool}(ho:o.op=.binOp (if neg then .neq else .eql) t x y u)(ht:P.underlying t=some .bool)(hx:dA x=some x')(hy:dA y=some y')(hp:jW (x'.ev s.slots)=some p)(hq:jW (y'.ev s.slots)=some q):Quiet P X o a (nJ (.bool (if neg then !(p==q)else p==q))):=by
 have h1:=o8 hp (bD hs hx);have h2:=o8 hq (bD hs hy);refine⟨.bool (if neg then !(p==q)else p==q),?_,.nJ rfl⟩;have hg:∀op,(eqGuard op t x y (.bool p) (.bool q)).run P X.w=.ok () X.w:=λop=>nC (by simp) (by simp);have he':∀d,(Op.equalIn (d+1) t (.bool p) (.bool q)).run P X.w=.ok (p==q) X.w:=λd=>by simp[Op.equalIn,run_underlying ht]
 have he:(Op.equal t (.bool p) (.bool q)).run P X.w=.ok (p==q) X.w:=he' 9999;cases neg<;>simp[execOp,ho,h1,h2,hg,binOp,he]
def Zh{y:Operand}(h:dA y=some (.c (.d (.sc .nilIface)))):y=.const .nilIface:=by cases y with|tmp t=>simp[dA]at h|func f=>simp[dA]at h|global g=>simp[dA]at h|const v=>simp[dA]at h;cases hc:vw v with|none=>grind|some z=>
      rw[hc]at h;cases h;have key:∀{u:Value},jf u=some (.d (.sc .nilIface))->u=.nilIface:=by
        intro u hu;unfold jf at hu;split at hu;.simp at hu
        .cases hu
        .cases hu
        .cases hu
        . rename_i fn first cap
          cases fn with|func f=>
            by_cases hz:first.size=0/\cap.size=0;.simp at hu
            .simp at hu|_=>cases hu
        .simp at hu;exact hu
      unfold vw at hc;split at hc;.obtain⟨_,_,h⟩:=f0.1 hc;simp at h
      . split at hc;.simp at hc
        .cases hc
      .rw[key hc]
def I5(hs:fQ X nt s a){o:Oper}{neg:Bool}{t u:TypeId}{ms:Array (String×TypeId)}{x y:Operand}{x':cq}(ho:o.op=.binOp (if neg then .neq else .eql) t x y u)(ht:P.underlying t=some (.interface ms))(hx:dA x=some x')(hy:dA y=some (.c (.d (.sc .nilIface)))):(x'.ev s.slots=.d .er->Quiet P X o a (nJ (.bool neg)))/\(x'.ev s.slots=.d (.sc .nilIface)->Quiet P X o a (nJ (.bool !neg))):=by
  have hyc:=Zh hy;subst hyc;have Zi:a.eval (.const .nilIface)=.nilIface:=rfl;constructor
  . intro hq;have hv:=bD hs hx;rw[hq]at hv;have h0:∃tt p,a.eval x=.iface tt p:=by revert hv;intro hv;cases hv with|er v h1=>exact h1
    obtain⟨tt,p,h1⟩:=h0;refine⟨.bool neg,?_,.nJ rfl⟩;have hg:∀op,(eqGuard op t x (.const .nilIface) (.iface tt p) .nilIface).run P X.w=.ok () X.w:=λop=>nC (by simp) (by simp);have he':∀d,(Op.equalIn (d+1) t (.iface tt p) .nilIface).run P X.w=.ok false X.w:=λd=>by simp[Op.equalIn,run_underlying ht]
    have he:(Op.equal t (.iface tt p) .nilIface).run P X.w=.ok false X.w:=he' 9999;cases neg<;>simp[execOp,ho,h1,Zi,hg,binOp,he]
  . intro hq;have hv:=bD hs hx;rw[hq]at hv;have h1:a.eval x=.nilIface:=by revert hv;generalize a.eval x=u;intro hv;cases hv with|sc v h1=>rfl
    refine⟨.bool !neg,?_,.nJ rfl⟩;have hg:∀op,(eqGuard op t x (.const .nilIface) .nilIface .nilIface).run P X.w=.ok () X.w:=λop=>by cases op<;>simp[eqGuard]
    have he':∀d,(Op.equalIn (d+1) t .nilIface .nilIface).run P X.w=.ok true X.w:=λd=>by simp[Op.equalIn,run_underlying ht]
    have he:(Op.equal t .nilIface .nilIface).run P X.w=.ok true X.w:=he' 9999;cases neg<;>simp[execOp,ho,h1,Zi,hg,binOp,he]
def Su(hs:fQ X nt s a){o:Oper}{neg:Bool}{t u:TypeId}{fs:Array Field}{l:List (Nat×Nat)}{sz:Nat}{x y:Operand}{x' y':cq}{xs ys:List AV}{b:Bool}(ho:o.op=.binOp (if neg then .neq else .eql) t x y u)(ht:P.underlying t=some (.struct fs))(hg:P.eqGuardType P.depth t=false)(hc:pX P 20 t 0=some l)(hsz:dg P t=some sz)(hx:dA x=some x')(hy:dA y=some y')(h1:x'.ev s.slots=.agg xs)(h2:y'.ev s.slots=.agg ys)(h3:xs.length=sz)(h4:ys.length=sz)(hb:nI xs ys l=some b):Quiet P X o a (nJ (.bool (if neg then !b else b))):=by
 have g1:=bD hs hx;have g2:=bD hs hy;rw[h1]at g1;rw[h2]at g2;have s1:∃us,a.eval x=.agg us/\us.size=sz:=by obtain⟨us,e,hh⟩:=g1;exact⟨us,e,by rw[<-h3,hh.length,ii]⟩
 have s2:∃us,a.eval y=.agg us/\us.size=sz:=by obtain⟨us,e,hh⟩:=g2;exact⟨us,e,by rw[<-h4,hh.length,ii]⟩
 obtain⟨us,vs,e1,e2,he1,he2⟩:=adt (P:=P) hc hg ⟨fs,ht⟩ g1 g2 hb x y;obtain⟨us',e1',s1⟩:=s1;obtain⟨vs',e2',s2⟩:=s2;rw[e1]at e1';rw[e2]at e2';injection e1' with e1';injection e2' with e2';subst e1';subst e2';have he:=he2 (by rw[hsz];exact s1) (by rw[hsz];exact s2);refine⟨.bool (if neg then !b else b),?_,.nJ rfl⟩;rw[e1,e2]at he1 he;cases neg<;>simp[execOp,ho,e1,e2,he1,binOp,he]
def aiL(hs:fQ X nt s a){o:Oper}{op:UnOp}{t:TypeId}{x:Operand}{x':cq}{r:Value}(ho:o.op=.unOp op t x)(hx:dA x=some x')(h:unA op (x'.ev s.slots)=some r):Quiet P X o a (nJ r):=by
 have hv:=bD hs hx;unfold unA at h;split at h;.rename_i hq;rw[hq]at hv;have hv:=hv.sc;cases op<;>simp only at h<;>first|(cases h;done)|(cases h;exact⟨_,by simp[execOp,ho,hv,Op.unary],.nJ rfl⟩)
 .rename_i hq;rw[hq]at hv;have hv:=hv.sc;cases op<;>simp only[E5,cf]at h<;>first|(cases h;done)|(injection h with h;subst h;exact⟨_,by simp[execOp,ho,hv,Op.unary,Op.intArith,Op.intBits],.nJ rfl⟩)
 grind
def Zj(hs:fQ X nt s a){o:Oper}{src dst:TypeId}{k:IntKind}{x:Operand}{x':cq}{n:Int}(ho:o.op=.convert src dst x)(ht:P.underlying dst=some (.int k))(hsrc:(P.underlying src).isSome=true)(hx:dA x=some x')(h:td (x'.ev s.slots)=some n):Quiet P X o a (nJ (.int k (k.wrap n))):=by obtain⟨k',hv⟩:=Fa h (bD hs hx);obtain⟨d,hd⟩:=Option.isSome_iff_exists.1 hsrc;refine⟨.int k (k.wrap n),?_,.nJ rfl⟩;simp[execOp,ho,hv,convert,run_underlying ht,run_underlying hd,Conv.intToInt]
def L4(hs:fQ X nt s a){o:Oper}{x:Operand}{x':cq}{i:Nat}{vs:List AV}{r:AV}(ho:o.op=.extract x i)(hx:dA x=some x')(h:x'.ev s.slots=.jU vs)(hr:vs[i]?=some r):Quiet P X o a r:=by
 have hv:=bD hs hx;rw[h]at hv;obtain⟨us,e,h2⟩:=hv;obtain⟨u,hu,h3⟩:=h2.get _ _ hr;refine⟨u,?_,.wV h3⟩;have:us[i]?=some u:=by grind
 simp[execOp,ho,e,Instr.extract,this]
def N6{t:TypeId}{off sz:Nat}{agg:Bool}{cs:List AV}{us:Array Value}{r:AV}(hsz:dg P t=some sz)(th:oZ P t=some agg)(h1:agg=true\/sz=1)(hc:aI (VC X) cs us.toList)(hle:off+sz<=cs.length)(hr:iz agg ((cs.drop off).take sz)=some r):∃v,(part t us off).run P X.w=.ok v X.w/\V1 X r v:=by obtain⟨i,hi,hs⟩:=fZ hsz;have th:=BX th X.w;cases agg with|true=>cases hr;refine⟨.agg (us.extract off (off+sz)),by simp[part,th,sizeOf,typeInfo,hi,hs],us.extract off (off+sz),rfl,?_⟩;have:=(hc.drop off).take sz<;>simp_all|false=>
    have hsz:sz=1:=h1.resolve_left (by simp);subst hsz;simp[iz]at hr;split at hr
    . rename_i v hv;simp_all;subst hr;have:cs[off]?=some v:=by
       have:((cs.drop off).take 1)[0]?=some v:=by grind
       grind
      obtain⟨u,hu,h3⟩:=hc.get _ _ this;refine⟨u,?_,.kQ h3⟩;have:us[off]?=some u:=by grind
      simp[part,th,this]
    grind
def Sv(hs:fQ X nt s a){o:Oper}{t:TypeId}{fs:Array Field}{f:Field}{j sz:Nat}{agg:Bool}{x:Operand}{x':cq}{cs:List AV}{r:AV}(ho:o.op=.field t x j)(ht:P.underlying t=some (.struct fs))(hf:fs[j]?=some f)(hsz:dg P f.type=some sz)(th:oZ P f.type=some agg)(h1:agg=true\/sz=1)(hx:dA x=some x')(h:x'.ev s.slots=.agg cs)(hle:f.offset+sz<=cs.length)(hr:iz agg ((cs.drop f.offset).take sz)=some r):Quiet P X o a r:=by have hv:=bD hs hx;rw[h]at hv;obtain⟨us,e,h2⟩:=hv;obtain⟨v,hrun,hV⟩:=N6 (P:=P) hsz th h1 h2 hle hr;refine⟨v,?_,.wV hV⟩;simp[execOp,ho,e,Instr.field,run_underlying ht,hf,asAgg,hrun]
def Pu(hs:fQ X nt s a){o:Oper}{t e:TypeId}{n k sz:Nat}{agg:Bool}{x i:Operand}{x' i':cq}{cs:List AV}{r:AV}(ho:o.op=.index t x i)(ht:P.underlying t=some (.array n e))(hsz:dg P e=some sz)(th:oZ P e=some agg)(h1:agg=true\/sz=1)(hx:dA x=some x')(hi:dA i=some i')(h:x'.ev s.slots=.agg cs)(hk:gN (i'.ev s.slots)=some k)(hkn:k<n)(hle:k*sz+sz<=cs.length)(hr:iz agg ((cs.drop (k*sz)).take sz)=some r):Quiet P X o a r:=by have hv:=bD hs hx;rw[h]at hv;obtain⟨us,he,h2⟩:=hv;obtain⟨kd,hik⟩:=kR hk (bD hs hi);obtain⟨v,hrun,hV⟩:=N6 (P:=P) hsz th h1 h2 hle hr;obtain⟨j,hj,GZ⟩:=fZ hsz;refine⟨v,?_,.wV hV⟩;simp[execOp,ho,he,hik,Instr.index,asIntOf,run_underlying ht,sizeOf,typeInfo,hj,GZ,hkn,hrun]
def Pv(hs:fQ X nt s a){o:Oper}{t:TypeId}{k:Nat}{x i:Operand}{x' i':cq}{b:ByteArray}{c:UInt8}(ho:o.op=.index t x i)(ht:P.underlying t=some .string)(hx:dA x=some x')(hi:dA i=some i')(h:x'.ev s.slots=.d (.sc (.string b)))(hk:gN (i'.ev s.slots)=some k)(hc:b.data.toList[k]?=some c):Quiet P X o a (nJ (.int .u8 c.toNat)):=by
 have hv:=bD hs hx;rw[h]at hv;have hv:=hv.sc;obtain⟨kd,hik⟩:=kR hk (bD hs hi);refine⟨_,?_,.nJ rfl⟩;have hlt:k<b.size:=by have:=(db.1 hc).1<;>simp_all
 have hb:b[k]?=some c:=by rw[getElem?_pos b k hlt];have:=(db.1 hc).2;congr 1
 simp[execOp,ho,hv,hik,Instr.index,asIntOf,run_underlying ht,hb]
def wZ(hs:fQ X nt s a){o:Oper}{t:TypeId}{fs:Array Field}{f:Field}{j sz:Nat}{x:Operand}{x':cq}{r:AV}(ho:o.op=.fieldAddr t x j)(ht:P.underlying t=some (.struct fs))(hf:fs[j]?=some f)(hsz:dg P f.type=some sz)(h0:sz≠0)(hx:dA x=some x')(hr:(∃lv sl av i off,x'.ev s.slots=.ptr lv sl av i off/\r=.ptr lv sl av i (off+f.offset))\/∃e off,x'.ev s.slots=.gw e off/\r=.gw e (off+f.offset)):Quiet P X o a r:=by
 have hv:=bD hs hx;obtain⟨i,hi,hsi⟩:=fZ hsz;have run:∀b off,(execOp a.eval o).run P X.w=(Sem.run P (do let v<-Instr.fieldAt t (.pointer (some ⟨b,off,none⟩)) j;pure (Next.value v)) X.w)->(execOp a.eval o).run P X.w=.ok (.value (.pointer (some ⟨b,off+f.offset,none⟩))) X.w:=by intro b off h;rw[h];simp[Instr.fieldAt,run_underlying ht,hf,jZ,fieldPlace,sizeOf,typeInfo,hi,hsi,h0,Addr.add_lit]
 rcases hr with⟨lv,sl,av,i',off,hq,rfl⟩|⟨e,off,hq,rfl⟩;.rw[hq]at hv;obtain⟨L,hL,hv⟩:=hv;refine⟨_,run L.b (L.o+i'*L.sz+off) (by simp only[execOp,ho,hv]),L,hL,by rw[fb]⟩
 .rw[hq]at hv;obtain⟨b,o',hv,h⟩:=hv;exact⟨_,run b (o'+off) (by simp only[execOp,ho,hv]),b,o',by rw[fb],h⟩
end
def fe.sub{w:World}{F R:Nat->Nat->Prop}{els:List (List D)}{b o sz:Nat}(h:fe w F R els b o sz)(lo k:Nat):fe w F R ((els.drop lo).take k) b (o+lo*sz) sz:=by grind[fe]
def fe.region{w:World}{F R S:Nat->Nat->Prop}{els:List (List D)}{b o sz:Nat}(h:fe w F R els b o sz)(R3:∀b o,R b o->S b o):fe w F S els b o sz:=⟨h.1,λi e j x h1 h2=>⟨R3 _ _ (h.2 i e j x h1 h2).1,(h.2 i e j x h1 h2).2⟩⟩
def fe.nil{w:World}{F R:Nat->Nat->Prop}{b o sz:Nat}:fe w F R [] b o sz:=⟨by simp,λi e j x h=>by simp at h⟩
def w8{X:Cx}{x:AV}{els:List (List D)}{v:Value}(hx:x=.d (.sl els)\/∃o,x=.own els o)(hv:VR X x v):∃a cap sz b o,v=.slice a els.length cap/\els.length<=cap/\(0<els.length->a=some ⟨b,o,none⟩)/\fe X.w X.F (λb o=>X.F b o\/X.old b) els b o sz:=by
 rcases hx with rfl|⟨ow,rfl⟩;.obtain⟨a,cap,sz,b,o,h1,h2,h3,h4⟩:=DR.Zb hv;exact⟨a,cap,sz,b,o,h1,h2,h3,h4.region λ_ _=>.inl⟩
 .cases ow with|full=>obtain⟨a,b,o,sz,h1,h2,h3⟩:=hv;exact⟨a,_,sz,b,o,h1,bd _,h2,h3.region λ_ _=>.inl⟩|cT av tz=>obtain⟨a,b,o,sz,cap,h1,h2,h3,h4,_⟩:=hv;exact⟨a,cap,sz,b,o,h1,h2,λh=>h3 (by omega),h4.region λ_ _=>.inl⟩|aY=>obtain⟨a,b,o,sz,cap,h1,h2,h3,h4⟩:=hv;exact⟨a,cap,sz,b,o,h1,h2,h3,h4.region λ_ _=>.inr⟩
def rO{X:Cx}{x:AV}{cs:List AV}{v:Value}(h:cellsOf x=some cs)(hv:VR X x v):aI (VC X) cs v.cells.toList:=by
 have one:∀{x:AV},VC X x v->aI (VC X) [x] v.cells.toList:=by intro x hx;have h1:=hx.one;cases v<;>first|(simp[Value.oneCell']at h1;done)|exact⟨hx,trivial⟩
 cases x with|agg cs'=>cases h;obtain⟨us,rfl,h2⟩:=hv;exact h2|jU=>cases h|_=>simp only[cellsOf]at h;injection h with h;subst h;exact one hv
def eE{α:Type}(cs new:List α)(off:Nat)(h:off+new.length<=cs.length)(j:Nat):(splice cs off new)[j]?=if off<=j/\j<off+new.length then new[j-off]?else cs[j]?:=by unfold splice;rw[bj,List.getElem?_append,List.getElem?_append]<;>grind
def lz{α:Type}(cs new:List α)(off:Nat)(h:off+new.length<=cs.length):(splice cs off new).length=cs.length:=by grind[splice]
def aI.splice{α β:Type}{R:α->β->Prop}{cs new:List α}{us vs:List β}{off:Nat}(h:aI R cs us)(h':aI R new vs):aI R (splice cs off new) (Go.bS.splice us off vs):=by unfold Go.bS.splice;rw[h'.length];exact((h.take off).append h').append (h.drop _)
def Fb(off:Nat):∀(l:List Value)(k:Nat)(C:Array Value),off+k+l.length<=C.size->((l.zipIdx k).foldl (λcs p=>cs.setIfInBounds (off+p.2) p.1) C).toList=C.toList.take (off+k)++l++C.toList.drop (off+k+l.length)
 |[],k,C,_=>by simp|v::l,k,C,h=>by
  simp only[List.zipIdx_cons,zr];rw[Fb off l (k+1) _ (by simp at h⊢;omega)];simp only[Array.toList_setIfInBounds];have hk:off+k<C.toList.length:=by simp at h⊢;omega
  apply lO;intro j;have e1:=eE (C.toList.set (off+k) v) l (off+(k+1)) (by simp at h⊢;omega) j;have e2:=eE C.toList (v::l) (off+k) (by simp at h⊢;omega) j;unfold splice at e1 e2;rw[e1,e2];simp only[eK];by_cases h1:j=off+k;.subst h1;rw[bi (by omega),be (by omega),qr,List.getElem?_set_self hk];rfl
  .rw[List.getElem?_set_ne (pD h1)];by_cases h2:off+k<=j/\j<off+k+(l.length+1);.rw[be (by omega),be h2];obtain⟨d,rfl⟩:∃d,j=off+k+(d+1):=⟨j-(off+k)-1,by omega⟩;rw[show off+k+(d+1)-(off+(k+1))=d by omega,show off+k+(d+1)-(off+k)=d+1by omega];rfl
   .rw[bi (by omega),bi h2]
def Fc(off:Nat)(vs C:Array Value)(h:off+vs.size<=C.size):(vs.zipIdx.foldl (λcs x=>match x with|(c,j)=>cs.setIfInBounds (off+j) c) C).toList=splice C.toList off vs.toList:=by have:=Fb off vs.toList 0 C (by simpa using h);simp only[dT]at this;unfold splice;rw[<-this,<-Array.foldl_toList,Array.toList_zipIdx]
section
variable{P:Program}{X:Cx}{nt:NT}{s:St}{a:Act}
def BZ(hs:fQ X nt s a)(place:Nat->Option (Nat×Nat)):∀(ps:List (Nat×Operand))(l:List (Nat×Nat×cq))(z cs:List AV)(C:Array Value),tg place ps=some l->aI (VC X) z C.toList->qG s.slots z l=some cs->∃C',Instr.fill place C (ps.map λp=>(p.1,a.eval p.2))=some C'/\aI (VC X) cs C'.toList
 |[],l,z,cs,C,hp,hz,hf=>by cases hp;cases hf;exact⟨C,rfl,hz⟩|(i,x)::ps,l,z,cs,C,hp,hz,hf=>by
  simp[tg]at hp;split at hp
  .rename_i off sz y ys h1 h2 h3;cases hp;simp[qG]at hf;split at hf
   .rename_i new hn;split at hf
    .rename_i hc;obtain⟨hc1,qD⟩:=hc;have hv:=rO hn (bD hs h2);have hsz:(a.eval x).cells.size=sz:=by rw[<-hc1,hv.length,ii]
     have hC:C.size=z.length:=by rw[hz.length,ii]
     obtain⟨C',h4,h5⟩:=BZ hs place ps ys (splice z off new) cs ((a.eval x).cells.zipIdx.foldl (λcs x=>match x with|(c,j)=>cs.setIfInBounds (off+j) c) C) h3 (by rw[Fc off _ C (by omega)];exact hz.splice hv) hf;simp only[gc,Instr.fill,h1,hsz,ne_eq,wt,tx,Bool.false_or]<;>grind
    grind
   grind
  grind
def I6(hs:fQ X nt s a){o:Oper}{t:TypeId}{ps:Array (Nat×Operand)}{it:TypeInfo}{z:Value}{zs:List AV}{l:List (Nat×Nat×cq)}{cs:List AV}(place:Nat->Option (Nat×Nat))(ho:o.op=.build t ps)(hz:gi z.cells.toList=some zs)(hb:∀parts,P.built t parts=Instr.fill place z.cells parts)(hp:tg place ps.toList=some l)(hf:qG s.slots zs l=some cs)(azC:P.info? t=some it):Quiet P X o a (.agg cs):=by
 obtain⟨C',h1,h2⟩:=BZ hs place ps.toList l zs cs z.cells hp (nB hz) hf;refine⟨.agg C',?_,C',rfl,h2⟩;have hr:(Instr.build t (ps.map λ(i,x)=>(i,a.eval x))).run P X.w=.ok (.agg C') X.w:=by apply run_build;simp_all
 simp[execOp,ho];simp[hr]
def tj(hs:fQ X nt s a){o:Oper}{x:Operand}{x':cq}{r:AV}(ho:o.op=.nilCheck x)(hx:dA x=some x')(hr:x'.ev s.slots=r)(hk:(∃lv sl av i off,r=.ptr lv sl av i off)\/(∃e off,r=.gw e off)\/∃f cs,r=.fL f cs):Quiet P X o a r:=by
 have hv:=bD hs hx;rw[hr]at hv;refine⟨a.eval x,?_,hv⟩;rcases hk with⟨_,_,_,_,_,rfl⟩|⟨_,_,rfl⟩|⟨_,_,rfl⟩;.obtain⟨L,_,h⟩:=hv;simp[execOp,ho,h]
 .obtain⟨_,_,h,_⟩:=hv;simp[execOp,ho,h]
 .obtain⟨_,h,_⟩:=hv;simp[execOp,ho,h]
def oG(hs:fQ X nt s a){o:Oper}{t e:TypeId}{sz n:Nat}{x i:Operand}{x' i':cq}{r:AV}(ho:o.op=.indexAddr t x i)(ht:P.underlying t=some (.slice e))(hsz:dg P e=some sz)(hx:dA x=some x')(hi:dA i=some i')(hn:gN (i'.ev s.slots)=some n)(hr:(∃els el,(x'.ev s.slots=.d (.sl els)\/∃ow,x'.ev s.slots=.own els ow)/\els[n]?=some el/\el.length=sz/\r=.gw el 0)\/(∃lv sl av off ln,x'.ev s.slots=.ref lv sl av off ln sz/\n<ln/\r=.ptr lv sl av (off+n) 0)\/∃lv sl av off ln,x'.ev s.slots=.fX lv sl av off ln sz/\n<ln/\r=.ptr lv sl av 0 (off+n*sz)):Quiet P X o a r:=by
 have hv:=bD hs hx;obtain⟨kd,hik⟩:=kR hn (bD hs hi);obtain⟨j,hj,GZ⟩:=fZ hsz;have run:∀(b off ln cap:Nat),n<ln->a.eval x=.slice (some ⟨b,off,none⟩) ln cap->(execOp a.eval o).run P X.w=.ok (.value (.pointer (some ⟨b,off+n*sz,none⟩))) X.w:=by intro b off ln cap hlt he;simp[execOp,ho,he,hik,Instr.indexAt,asIntOf,run_underlying ht,sizeOf,typeInfo,hj,GZ,hlt,Addr.add_lit]
 rcases hr with⟨els,el,hq,hel,hl,rfl⟩|⟨lv,sl,av,off,ln,hq,hlt,rfl⟩|⟨lv,sl,av,off,ln,hq,hlt,rfl⟩
 .obtain⟨ad,cap,sz',b,off,h1,h2,h3,h4⟩:=w8 hq hv;have hlt:n<els.length:=(db.1 hel).1;have h3:=h3 (by omega);subst h3;have adx:sz'=sz:=by grind[fe,VR,cq.ev,gN,dA,dg]
  subst adx;refine⟨_,run b off _ cap hlt h1,b,off+n*sz',rfl,λj x hx=>h4.2 n el j x hel hx⟩
 .rw[hq]at hv;obtain⟨L,ad,cap,hL,h1,h2,h3,h4⟩:=hv;obtain⟨rfl,h5⟩:=h4 (by omega);refine⟨_,run _ _ _ cap hlt h2,L,hL,?_⟩<;>grind
 .rw[hq]at hv;obtain⟨L,hL,h1,_⟩:=hv;refine⟨_,run _ _ _ ln hlt h1,L,hL,?_⟩<;>grind
def zR(hs:fQ X nt s a){o:Oper}{t e:TypeId}{n sz k:Nat}{x i:Operand}{x' i':cq}{r:AV}(ho:o.op=.indexAddr t x i)(ht:P.underlying t=some (.array n e))(hsz:dg P e=some sz)(hx:dA x=some x')(hi:dA i=some i')(hn:gN (i'.ev s.slots)=some k)(hkn:k<n)(hr:(∃lv sl av j off,x'.ev s.slots=.ptr lv sl av j off/\r=.ptr lv sl av j (off+k*sz))\/∃el off,x'.ev s.slots=.gw el off/\r=.gw el (off+k*sz)):Quiet P X o a r:=by
 have hv:=bD hs hx;obtain⟨kd,hik⟩:=kR hn (bD hs hi);obtain⟨j,hj,GZ⟩:=fZ hsz;have run:∀(b off:Nat),a.eval x=.pointer (some ⟨b,off,none⟩)->(execOp a.eval o).run P X.w=.ok (.value (.pointer (some ⟨b,off+k*sz,none⟩))) X.w:=by intro b off he;simp[execOp,ho,he,hik,Instr.indexAt,asIntOf,run_underlying ht,sizeOf,typeInfo,hj,GZ,hkn,Addr.add_lit,jZ]
 rcases hr with⟨lv,sl,av,i',off,hq,rfl⟩|⟨e,off,hq,rfl⟩;.rw[hq]at hv;obtain⟨L,hL,hv⟩:=hv;exact⟨_,run _ _ hv,L,hL,by rw[fb]⟩
 .rw[hq]at hv;obtain⟨b,o',hv,h⟩:=hv;exact⟨_,run _ _ hv,b,o',by rw[fb],h⟩
def Pw(hs:fQ X nt s a){o:Oper}{t e:TypeId}{n sz off lv sl av:Nat}{x:Operand}{x':cq}(ho:o.op=.slice t x none none none)(ht:P.underlying t=some (.array n e))(hsz:dg P e=some sz)(h0:n≠0)(hx:dA x=some x')(hq:x'.ev s.slots=.ptr lv sl av 0 off):Quiet P X o a (.fX lv sl av off n sz):=by have hv:=bD hs hx;rw[hq]at hv;obtain⟨L,hL,hv⟩:=hv;obtain⟨j,hj,GZ⟩:=fZ hsz;refine⟨.slice (some ⟨L.b,L.o+off,none⟩) n n,?_,L,hL,rfl,by omega⟩;simp[execOp,ho,hv,Instr.sliceAt,run_underlying ht,jZ,Instr.sliceBounds,sizeOf,typeInfo,hj,Addr.add_lit]
def Px(hs:fQ X nt s a){o:Oper}{t e:TypeId}{n sz off lv sl av:Nat}{k:Int}{x:Operand}{x':cq}(ho:o.op=.slice t x (some (.const (.int .i64 k))) none none)(ht:P.underlying t=some (.array n e))(hsz:dg P e=some sz)(h0:0<=k)(hlt:k.toNat<n)(hx:dA x=some x')(hq:x'.ev s.slots=.ptr lv sl av 0 off):Quiet P X o a (.fX lv sl av (off+k.toNat*sz) (n-k.toNat) sz):=by
 have hv:=bD hs hx;rw[hq]at hv;obtain⟨L,hL,hv⟩:=hv;obtain⟨j,hj,GZ⟩:=fZ hsz;obtain⟨l,rfl⟩:=bo h0;have hne:¬n=l:=by omega
 have hle:¬n<l:=by omega
 have he:a.eval (.const (.int .i64 (l:Int)))=.int .i64 (l:Int):=rfl;refine⟨.slice (some ⟨L.b,L.o+(off+l*sz),none⟩) (n-l) (n-l),?_,L,hL,rfl,by omega⟩;simp[execOp,ho,hv,he,Instr.sliceAt,run_underlying ht,jZ,Instr.sliceBounds,Instr.sliceBound,asIntOf,sizeOf,typeInfo,hj,GZ,hne,hle,Addr.add_lit,fb]
def G0(hs:fQ X nt s a){o:Oper}{t e:TypeId}{n:Nat}{x:Operand}{x':cq}(ho:o.op=.call {callee:=.builtin .len,args:=#[x],argTypes:=#[t]})(ht:P.underlying t=some (.slice e))(hx:dA x=some x')(hr:(∃els,(x'.ev s.slots=.d (.sl els)\/∃ow,x'.ev s.slots=.own els ow)/\n=els.length)\/(∃lv sl av off sz,x'.ev s.slots=.ref lv sl av off n sz)\/∃lv sl av off sz,x'.ev s.slots=.fX lv sl av off n sz):Quiet P X o a (qF n):=by
 have hv:=bD hs hx;have run:∀ad cap,a.eval x=.slice ad n cap->(execOp a.eval o).run P X.w=.ok (.value (.int .i64 n)) X.w:=by intro ad cap he;simp[execOp,ho,resolve,invoke,builtin,Builtin.len_,run_underlying ht,he,goInt]
 refine⟨.int .i64 n,?_,.BV rfl⟩;rcases hr with⟨els,hq,rfl⟩|⟨lv,sl,av,off,sz,hq⟩|⟨lv,sl,av,off,sz,hq⟩;.obtain⟨ad,cap,sz',b,off,h1,_⟩:=w8 hq hv<;>grind
 .rw[hq]at hv;obtain⟨L,ad,cap,_,_,h,_⟩:=hv<;>grind
 .rw[hq]at hv;obtain⟨L,_,h,_⟩:=hv<;>grind
def Zk(hs:fQ X nt s a){o:Oper}{t e:TypeId}{els:List (List D)}{x:Operand}{x':cq}(ho:o.op=.call {callee:=.builtin .cap,args:=#[x],argTypes:=#[t]})(ht:P.underlying t=some (.slice e))(hx:dA x=some x')(hr:x'.ev s.slots=.own els .full):Quiet P X o a (qF els.length):=by have hv:=bD hs hx;rw[hr]at hv;obtain⟨ad,b,o',sz,hv,_⟩:=hv;refine⟨.int .i64 els.length,?_,.BV rfl⟩;simp[execOp,ho,resolve,invoke,builtin,Builtin.cap_,run_underlying ht,hv,goInt]
def Zl(hs:fQ X nt s a){o:Oper}{t:TypeId}{b:ByteArray}{x:Operand}{x':cq}(ho:o.op=.call {callee:=.builtin .len,args:=#[x],argTypes:=#[t]})(ht:P.underlying t=some .string)(hx:dA x=some x')(hr:x'.ev s.slots=.d (.sc (.string b))):Quiet P X o a (qF b.size):=by have hv:=bD hs hx;rw[hr]at hv;have hv:=hv.sc;refine⟨.int .i64 b.size,?_,.BV rfl⟩;simp[execOp,ho,resolve,invoke,builtin,Builtin.len_,run_underlying ht,hv,goInt]
def N7{o:Oper}{t:TypeId}{n:Nat}{x:Operand}(ho:o.op=.call {callee:=.builtin .len,args:=#[x],argTypes:=#[t]})(ht:(∃e,P.underlying t=some (.array n e))\/∃p e,P.underlying t=some (.pointer p)/\P.underlying p=some (.array n e)):Quiet P X o a (qF n):=by
 refine⟨.int .i64 n,?_,.BV rfl⟩;rcases ht with⟨e,ht⟩|⟨p,e,ht,hp⟩;.simp[execOp,ho,resolve,invoke,builtin,Builtin.len_,run_underlying ht,goInt]
 .simp[execOp,ho,resolve,invoke,builtin,Builtin.len_,run_underlying ht,run_underlying hp,goInt]
def L5{x:AV}{v:Value}(h:jX x=true)(hv:VR X x v):I3 X x v:=by cases x<;>first|(cases h;done)|exact hv
def zS(hs:fQ X nt s a){o:Oper}{f:Nat}{cap:Array Operand}{cap':List cq}(ho:o.op=.makeFunc (.func f) #[] cap)(hc:jw cap.toList=some cap')(h0:(Et s.slots cap').all jX=true):Quiet P X o a (.fL f (Et s.slots cap')):=by have h:=wW hs hc;refine⟨.func (.func f) #[] (cap.map a.eval),by simp[execOp,ho,Instr.makeFunc],cap.map a.eval,rfl,?_⟩;rw[mr];exact .vA h.length λi x v hx hv=>by obtain⟨v',n9,hr⟩:=h.get i x hx;rw[hv]at n9;injection n9 with n9;subst n9;exact L5 (lx.1 h0 x (jn hx)) hr
def j0(hs:fQ X nt s a){x:Option Operand}{x':Option cq}{n d:Nat}(hx:rN x=some x')(h:gh x' s.slots d=some n):(x=none/\x'=none/\n=d)\/∃y k,x=some y/\x'.isSome=true/\a.eval y=.int k (n:Int):=by cases x with|none=>grind[rN,gh]|some y=>simp only[rN]at hx;cases hy:dA y with|none=>grind|some y'=>rw[hy]at hx;cases hx;obtain⟨k,hk⟩:=kR h (bD hs hy)<;>grind
def Fe(hs:fQ X nt s a){o:Oper}{t e:TypeId}{sz n cap l h k:Nat}{ad:Option Addr}{x:Operand}{lo hi mx:Option Operand}{lo' hi' Ey:Option cq}(ho:o.op=.slice t x lo hi mx)(ht:P.underlying t=some (.slice e))(hsz:dg P e=some sz)(hx:a.eval x=.slice ad n cap)(hlo:rN lo=some lo')(hhi:rN hi=some hi')(Py:rN mx=some Ey)(bl:gh lo' s.slots 0=some l)(bh:gh hi' s.slots 0=some h)(bk:gh Ey s.slots 0=some k)(c1:l<=(if hi'.isSome then h else n))(c2:(if hi'.isSome then h else n)<=(if Ey.isSome then k else cap))(c3:(if Ey.isSome then k else cap)<=cap)(c4:Ey.isSome=true->hi'.isSome=true):(execOp a.eval o).run P X.w=.ok (.value (.slice (if(if Ey.isSome then k else cap)=l then ad else ad.map (·.add (l*sz))) ((if hi'.isSome then h else n)-l) ((if Ey.isSome then k else cap)-l))) X.w:=by
 obtain⟨j,hj,GZ⟩:=fZ hsz;rcases j0 hs Py bk with⟨rfl,rfl,rfl⟩|⟨my,mk,rfl,hm,hme⟩
 .rcases j0 hs hhi bh with⟨rfl,rfl,rfl⟩|⟨hy,hk,rfl,hh,hhe⟩
  .simp[o0,kv,n3]at c1 c2 c3⊢;rcases j0 hs hlo bl with⟨rfl,rfl,rfl⟩|⟨ly,lk,rfl,hl,hle⟩;.simp[execOp,ho,hx,Instr.sliceAt,run_underlying ht,Instr.slice,Instr.sliceBounds,sizeOf,typeInfo,hj]
   .simp[execOp,ho,hx,Instr.sliceAt,run_underlying ht,Instr.slice,Instr.sliceBounds,Instr.sliceBound,asIntOf,sizeOf,typeInfo,hj,GZ,hle,c1]
  .simp[hh,kp,o0,kv,n3]at c1 c2 c3⊢;rcases j0 hs hlo bl with⟨rfl,rfl,rfl⟩|⟨ly,lk,rfl,hl,hle⟩;.simp[execOp,ho,hx,Instr.sliceAt,run_underlying ht,Instr.slice,Instr.sliceBounds,Instr.sliceBound,asIntOf,sizeOf,typeInfo,hj,hhe,c2]
   .simp[execOp,ho,hx,Instr.sliceAt,run_underlying ht,Instr.slice,Instr.sliceBounds,Instr.sliceBound,asIntOf,sizeOf,typeInfo,hj,GZ,hhe,hle,c1,c2]
 .rcases j0 hs hhi bh with⟨rfl,rfl,rfl⟩|⟨hy,hk,rfl,hh,hhe⟩;.grind
  .simp[hh,hm,kp]at c1 c2 c3⊢;rcases j0 hs hlo bl with⟨rfl,rfl,rfl⟩|⟨ly,lk,rfl,hl,hle⟩;.simp[execOp,ho,hx,Instr.sliceAt,run_underlying ht,Instr.slice,Instr.sliceBounds,Instr.sliceBound,asIntOf,sizeOf,typeInfo,hj,hhe,hme,c2,c3]
   .simp[execOp,ho,hx,Instr.sliceAt,run_underlying ht,Instr.slice,Instr.sliceBounds,Instr.sliceBound,asIntOf,sizeOf,typeInfo,hj,GZ,hhe,hme,hle,c1,c2,c3]
def kE{els:List (List D)}{sz:Nat}(h:els.all (λe=>e.length==sz)=true):∀e∈els,e.length=sz:=λe he=>by grind
def qJ{R:Nat->Nat->Prop}{els:List (List D)}{ad:Option Addr}{b o sz sz' l h m:Nat}(hl:fe X.w X.F R els b o sz')(had:0<els.length->ad=some ⟨b,o,none⟩)(c1:l<=h)(c2:h<=els.length)(c3:h<=m)(I7:∀e∈els,e.length=sz):((els.drop l).take (h-l)).length=h-l/\(0<h-l->(if m=l then ad else ad.map (·.add (l*sz)))=some ⟨b,o+l*sz',none⟩)/\fe X.w X.F R ((els.drop l).take (h-l)) b (o+l*sz') sz':=by
 refine⟨by simp;omega,λh0=>?_,hl.sub l _⟩;rw[bi (by omega),had (by omega)];have:sz'=sz:=by
  have hlt:0<els.length:=by omega
  have hm:=fw hlt<;>grind[fe]
 subst this;simp[Addr.add_lit]
def Sw(hs:fQ X nt s a){o:Oper}{t e:TypeId}{sz l h k:Nat}{x:Operand}{x':cq}{lo hi mx:Option Operand}{lo' hi' Ey:Option cq}{r:AV}(ho:o.op=.slice t x lo hi mx)(ht:P.underlying t=some (.slice e))(hsz:dg P e=some sz)(hx:dA x=some x')(hlo:rN lo=some lo')(hhi:rN hi=some hi')(Py:rN mx=some Ey)(bl:gh lo' s.slots 0=some l)(bh:gh hi' s.slots 0=some h)(bk:gh Ey s.slots 0=some k)(c4:Ey.isSome=true->hi'.isSome=true)(hr:fO sz (x'.ev s.slots) l (hi'.map λ_=>h) (Ey.map λ_=>k)=some r):Quiet P X o a r:=by
 have hv:=bD hs hx;have eh:∀n,(hi'.map λ_=>h).getD n=if hi'.isSome then h else n:=λn=>by cases hi'<;>rfl
 have run:=λ(ad:Option Addr)(n cap:Nat)(he:a.eval x=.slice ad n cap)=>Fe hs (P:=P) ho ht hsz he hlo hhi Py bl bh bk;unfold fO at hr;split at hr;.rename_i els hq;simp only[eh]at hr;obtain⟨ad,cap,sz',b,off,h1,h2,h3,h4⟩:=DR.Zb (hq▸hv);have run:=run _ _ _ h1;generalize(if hi'.isSome=true then h else els.length)=H at hr run;cases I8:Ey with
  |none=>
   simp only[I8,yn,o0,kv,n3]at hr run c4;split at hr;.rename_i hc;obtain⟨g1,g2,g3⟩:=hc;cases hr;obtain⟨k1,k2,k3⟩:=qJ (m:=cap) h4 h3 g1 g2 (by omega) (kE g3);exact⟨_,run g1 (by omega) (bd _) (by simp),DR.jr k3 k1 (by omega) k2⟩
   grind|some m'=>
   simp only[I8,cf,wc,kp]at hr run c4;split at hr;.rename_i hc;obtain⟨g1,g2,g4,g3⟩:=hc;cases hr;obtain⟨k1,k2,k3⟩:=qJ (m:=k) h4 h3 g1 g4 (by omega) (kE g3);refine⟨_,run g1 (by omega) (by omega) (λ_=>c4 trivial),_,b,off+l*sz',sz',?_,λh0=>k2 (by omega),k3⟩;rw[k1,g2]
   grind
 .rename_i els ow hq;simp only[eh]at hr;rw[hq]at hv;replace run:=λad cap he=>run ad els.length cap he;generalize(if hi'.isSome=true then h else els.length)=H at hr run;cases I8:Ey with
  |none=>
   simp only[I8,yn,o0,kv,n3]at hr run c4;split at hr
   .rename_i hc;obtain⟨g1,g2,g3⟩:=hc;cases ow with|aY=>cases hr;obtain⟨ad,b,off,sz',cap,h1,h2,h3,h4⟩:=hv;obtain⟨k1,k2,k3⟩:=qJ (m:=cap) h4 h3 g1 g2 (by omega) (kE g3);refine⟨_,run _ _ h1 g1 (by omega) (bd _) (by simp),_,b,off+l*sz',sz',cap-l,?_,?_,λh0=>k2 (by omega),k3⟩<;>grind|full=>
     simp at hr;obtain⟨ad,b,off,sz',h1,h3,h4⟩:=hv;obtain⟨k1,k2,k3⟩:=qJ (m:=els.length) h4 h3 g1 g2 (by omega) (kE g3);have run:=run _ _ h1 g1 (by omega) (bd _) (by simp);split at hr;.rename_i hh;cases hr;rw[hh]at run k1 k2 k3;have e1:(els.drop l).take (els.length-l)=els.drop l:=f8 (by simp);rw[e1]at k1 k3;refine⟨_,run,_,b,off+l*sz',sz',?_,λh0=>k2 (by omega),k3⟩<;>grind
     .cases hr;exact⟨_,run,DR.jr k3 k1 (by omega) k2⟩|cT av tz=>cases hr;obtain⟨ad,b,off,sz',cap,h1,h2,h3,h4,_⟩:=hv;obtain⟨k1,k2,k3⟩:=qJ (m:=cap) h4 (λh=>h3 (by omega)) g1 g2 (by omega) (kE g3);exact⟨_,run _ _ h1 g1 (by omega) (bd _) (by simp),DR.jr k3 k1 (by omega) k2⟩
   grind|some m'=>
   simp only[I8,cf,wc,kp]at hr run c4;split at hr
   .rename_i hc;obtain⟨g1,g2,g4,g3⟩:=hc;have done:∀(ad:Option Addr)(cap sz' b off:Nat),a.eval x=.slice ad els.length cap->els.length<=cap->(0<els.length->ad=some ⟨b,off,none⟩)->fe X.w X.F X.F els b off sz'->Quiet P X o a (.own ((els.drop l).take (H-l)) .full):=by intro ad cap sz' b off h1 h2 h3 h4;obtain⟨k1,k2,k3⟩:=qJ (m:=k) h4 h3 g1 g4 (by omega) (kE g3);refine⟨_,run _ _ h1 g1 (by omega) (by omega) (λ_=>c4 trivial),_,b,off+l*sz',sz',?_,λh0=>k2 (by omega),k3⟩<;>grind
    cases ow with
    |aY=>
     simp only at hr;obtain⟨ad,b,off,sz',cap,h1,h2,h3,h4⟩:=hv;split at hr;.cases hr;refine⟨_,run _ _ h1 g1 (by omega) (by omega) (λ_=>c4 trivial),(if k=l then ad else ad.map (·.add (l*sz))),0,0,0,?_,λh0=>absurd h0 (by simp),fe.nil⟩<;>grind
     grind|full=>obtain⟨ad,b,off,sz',h1,h3,h4⟩:=hv<;>grind|cT av tz=>obtain⟨ad,b,off,sz',cap,h1,h2,h3,h4,_⟩:=hv<;>grind
   grind
 .rename_i lv sl av off n sz' hq;simp[eh]at hr;rw[hq]at hv;obtain⟨L,ad,cap,hL,h1,h2,h3,h4⟩:=hv;have run:=run _ _ _ h2;generalize(if hi'.isSome=true then h else n)=H at hr run;cases I8:Ey with
  |none=>
   simp only[I8,yn,o0,kv,n3]at hr run c4;split at hr;.rename_i hc;obtain⟨g1,g2,g3⟩:=hc;cases hr;subst g3;refine⟨_,run g1 (by omega) (bd _) (by simp),L,_,_,hL,h1,rfl,by omega,λh0=>?_⟩;obtain⟨rfl,h5⟩:=h4 (by omega);refine⟨?_,by omega⟩;rw[bi (by omega)];simp[Addr.add_lit,d9,fb]
   grind|some m'=>
   simp only[I8,cf,wc,kp]at hr run c4;split at hr;.cases hr;refine⟨_,run (by omega) (by omega) (by omega) (λ_=>c4 trivial),(if k=l then ad else ad.map (·.add (l*sz))),0,0,0,?_,λh0=>absurd h0 (by simp),fe.nil⟩<;>grind
   grind
 grind
def Pz(hs:fQ X nt s a){o:Oper}{t:TypeId}{l h:Nat}{x:Operand}{x':cq}{lo hi:Option Operand}{lo' hi':Option cq}{b:ByteArray}(ho:o.op=.slice t x lo hi none)(ht:P.underlying t=some .string)(hx:dA x=some x')(hlo:rN lo=some lo')(hhi:rN hi=some hi')(hq:x'.ev s.slots=.d (.sc (.string b)))(bl:gh lo' s.slots 0=some l)(bh:gh hi' s.slots b.size=some h)(c1:l<=h)(c2:h<=b.size):Quiet P X o a (nJ (.string (b.extract l h))):=by
 have hv:=bD hs hx;rw[hq]at hv;have hv:=hv.sc;refine⟨_,?_,.nJ rfl⟩;rcases j0 hs hhi bh with⟨rfl,rfl,rfl⟩|⟨hy,hk,rfl,hh,hhe⟩
 .rcases j0 hs hlo bl with⟨rfl,rfl,rfl⟩|⟨ly,lk,rfl,hl,hle⟩;.simp[execOp,ho,hv,Instr.sliceAt,run_underlying ht,Instr.slice,Instr.sliceBounds]
  .simp[execOp,ho,hv,Instr.sliceAt,run_underlying ht,Instr.slice,Instr.sliceBounds,Instr.sliceBound,asIntOf,hle,c1]
 .rcases j0 hs hlo bl with⟨rfl,rfl,rfl⟩|⟨ly,lk,rfl,hl,hle⟩;.simp[execOp,ho,hv,Instr.sliceAt,run_underlying ht,Instr.slice,Instr.sliceBounds,Instr.sliceBound,asIntOf,hhe,c2]
  .simp[execOp,ho,hv,Instr.sliceAt,run_underlying ht,Instr.slice,Instr.sliceBounds,Instr.sliceBound,asIntOf,hhe,hle,c1,c2]
end
def gD{α:Type}{sz:Nat}:∀{els:List (List α)},(∀e∈els,e.length=sz)->∀(i j:Nat)(e:List α),els[i]?=some e->j<sz->els.flatten[i*sz+j]?=e[j]?|[],_,i,j,e,h,_=>by simp at h|f::els,hl,0,j,e,h,hj=>by grind|f::els,hl,i+1,j,e,h,hj=>by simp[pj];have hf:=hl f (by simp);rw[lL (by rw[hf,d9];omega),hf,show(i+1)*sz+j-sz=i*sz+j by rw[d9];omega];exact gD (λe he=>hl e (by simp[he])) i j e (by simpa using h) hj
def bz{α:Type}{sz:Nat}:∀{els:List (List α)},(∀e∈els,e.length=sz)->els.flatten.length=els.length*sz|[],_=>by simp|f::els,hl=>by simp only[pj,bc,eK,d9];rw[bz (λe he=>hl e (by simp[he])),hl f (by simp)];omega
def Bi{α:Type}(a b:List (List α)):(a++b).flatten=a.flatten++b.flatten:=by simp
def tn{α:Type}{sz:Nat}:∀{els:List (List α)},(∀e∈els,e.length=sz)->∀(i:Nat)(e:List α),i<els.length->e.length=sz->(els.set i e).flatten=splice els.flatten (i*sz) e|[],_,i,e,h,_=>by simp at h|f::els,hl,0,e,_,he=>by grind[splice]|f::els,hl,i+1,e,h,he=>by have hf:=hl f (by simp);simp[wi,pj];rw[tn (λe he=>hl e (by simp[he])) i e (by simpa using h) he];unfold splice;rw[show(i+1)*sz=f.length+i*sz by rw[d9];omega];rw[List.take_append,f8 (l:=f) (by omega)];rw[xt,t8 (l:=f) (by omega),show f.length+i*sz+e.length-f.length=i*sz+e.length by omega];simp[bj]
def w9{w:World}{F R:Nat->Nat->Prop}{els:List (List D)}{b o sz:Nat}{C:Array Value}{e:TypeId}{vs:List Value}(hb:w.heap[b]?=some (.cells C e (0,0)))(hl:∀e∈els,e.length=sz)(hv:∀j v,vs[j]?=some v->C[o+j]?=some v)(h:aI (DR w F) els.flatten vs)(hR:∀k,k<els.length*sz->R b (o+k)):fe w F R els b o sz:=by
 refine⟨hl,λi e j x h1 h2=>?_⟩;have hj:j<sz:=by grind
 have hg:=gD hl i j e h1 hj;rw[h2]at hg;obtain⟨v,h3,h4⟩:=h.get _ _ hg;have hlt:i*sz+j<els.length*sz:=by have:=(db.1 hg).1;rwa[bz hl]at this
 rw[fb];exact⟨hR _ hlt,v,by rw[cell_of_row _ _ _ _ _ _ hb];exact hv _ _ h3,h4⟩
def xb{w:World}{F R:Nat->Nat->Prop}{els:List (List D)}{b o sz:Nat}(h:fe w F R els b o sz):∃vs:List Value,(∀j v,vs[j]?=some v->w.cell? ⟨b,o+j,none⟩=some v)/\aI (DR w F) els.flatten vs:=by
 refine BW els.flatten λk x hk=>?_;have hlen:=bz h.1;have hk':k<els.length*sz:=by grind
 have hsz:0<sz:=Nat.pos_of_ne_zero λe=>by subst e;omega
 have hi:k/sz<els.length:=(Nat.div_lt_iff_lt_mul hsz).2 hk';have hj:k%sz<sz:=At _ hsz;have he:els[k/sz]?=some els[k/sz]:=aw hi;have hg:=gD h.1 (k/sz) (k%sz) _ he hj;have hkk:k/sz*sz+k%sz=k:=by rw[ww];exact Nat.div_add_mod k sz
 grind[fe]
def Cx.alloc(X:Cx)(C:Array Value)(e:TypeId)(v:Nat)(L:Loc):Cx:={X with w:=X.w.alloc (.cells C e),ρ:=λu=>if u=v then some L else X.ρ u}
def aM.ew{X:Cx}{m:List (Tr bM)}{t:Tr Unit}(h:aM X m t){k:Nat×Nat×Nat}{v:Nat}(hk:Holds m t k v):∃L,X.ρ v=some L/\(0<L.cap->L.b<X.w.heap.size/\¬X.old L.b):=by
 rcases hk with⟨lv,sl,e,_,he,rfl,hz⟩|⟨_,he⟩;.obtain⟨L,hL,hE⟩:=h.gz lv sl e he;refine⟨L,hL,λhc=>?_⟩;cases e with|Po _ _=>cases hz|row _ _=>exact⟨(hE.2.2.1 hc).1.lt,(hE.2.2.1 hc).1.1⟩|box _ _=>exact⟨hE.2.1.lt,hE.2.1.1⟩|mp _ _=>grind[pZ,bM.av,bM.fz,aT,cF]
 .obtain⟨L,hL,hT⟩:=h.aO v he;exact⟨L,hL,λhc=>⟨(hT hc).1.lt,(hT hc).1.1⟩⟩
def vC{w:World}{b o:Nat}{ob:Obj}(h:b<w.heap.size):(w.alloc ob).cell? ⟨b,o,none⟩=w.cell? ⟨b,o,none⟩:=World.cell?_alloc_lt w ob ⟨b,o,none⟩ h
def Ext.alloc{X:Cx}{C:Array Value}{e:TypeId}{v:Nat}{L:Loc}(hin:∀b o,X.F b o->b<X.w.heap.size)(xd:∀b,X.old b->b<X.w.heap.size)(hv:X.ρ v=none):Ext X (X.alloc C e v L):=⟨rfl,(fy.refl _ _).alloc xd _,λ_ _ h=>h,λb o h=>vC (hin b o h),λu M hu=>by grind[Cx.alloc],λ_ _ h=>.inl h⟩
def aM.alloc{X:Cx}{m:List (Tr bM)}{t:Tr Unit}{C:Array Value}{e:TypeId}{v:Nat}{L:Loc}(h:aM X m t)(hv:X.ρ v=none):aM (X.alloc C e v L) m t:=h.move (Ext.alloc h.qI h.low hv) (λk u M hk hu hc=>by obtain⟨M',mH,h2⟩:=h.ew hk;rw[hu]at mH;cases mH;exact @heap_alloc_old _ _ _ (h2 hc).1) (λ_ _ _ _ _ _ _ h=>h) (λb o hb=>by have:=h.qI b o hb;show b<(X.w.alloc _).heap.size;rw[World.size_alloc];omega)
def Cx.more(X:Cx)(G:Nat->Nat->Prop):Cx:={X with F:=λb o=>X.F b o\/G b o}
def Ext.more{X:Cx}{G:Nat->Nat->Prop}(hG:∀b o,G b o->¬X.old b):Ext X (X.more G):=⟨rfl,fy.refl _ _,λ_ _=>.inl,λ_ _ _=>rfl,λ_ _ h=>h,λb o h=>h.elim .inl λh=>.inr (hG b o h)⟩
def aM.more{X:Cx}{m:List (Tr bM)}{t:Tr Unit}{G:Nat->Nat->Prop}(h:aM X m t)(hG:∀b o,G b o->¬X.old b/\b<X.w.heap.size)(hk:∀k v L o,Holds m t k v->X.ρ v=some L->0<L.cap->¬G L.b o):aM (X.more G) m t:=h.move (Ext.more λb o h=>(hG b o h).1) (λ_ _ _ _ _ _=>rfl) (λk v L o a b c h=>h.elim id λh=>absurd h (hk k v L o a b c)) λb o hb=>hb.elim (h.qI b o) λhb=>(hG b o hb).2
def nD(X:Cx)(m:List (Tr bM))(k:Nat×Nat):Option Nat:=(aT m k.1 k.2).bind λe=>(X.ρ e.av).bind λL=>if 0<L.cap/\e.fz=false then some L.b else none
def Cx.nK(X:Cx)(m:List (Tr bM))(ks:List (Nat×Nat)):Cx:=X.more λb _=>∃k∈ks,nD X m k=some b
def lB{X:Cx}{m:List (Tr bM)}{k:Nat×Nat}{b:Nat}(h:nD X m k=some b):∃e L,aT m k.1 k.2=some e/\X.ρ e.av=some L/\0<L.cap/\L.b=b/\e.fz=false:=by unfold nD at h;cases he:aT m k.1 k.2with|none=>grind|some e=>rw[he]at h;cases hL:X.ρ e.av with|none=>grind|some L=>grind
def vk(m0:List (Tr bM)):∀(ks:List (Nat×Nat))(m:List (Tr bM))(lv sl:Nat),m.length=m0.length->aT (bI m (eR m0 ks)) lv sl=if(lv,sl)∈ks then(aT m0 lv sl).bind bM.nK else aT m lv sl
 |[],m,lv,sl,_=>by simp[eR,bI]|k::ks,m,lv,sl,hl0=>by
  have ih:=vk m0 ks (cH m k.1 k.2 ((aT m0 k.1 k.2).bind bM.nK)) lv sl (by simpa[cH]using hl0);simp[eR,gc,bI]at ih⊢;rw[ih];by_cases h1:(lv,sl)∈ks;.simp[h1]
  .simp[h1,n3,dq,lr];rw[cM];by_cases h2:(lv,sl)=k
   .subst h2;simp only[kp,true_and];split;.rfl
    .unfold aT;rw[eJ (by omega),eJ (by omega)];rfl
   .rw[bi h2,bi];rintro⟨rfl,rfl,_⟩;exact h2 rfl
def rP(ks:List (Nat×Nat))(m:List (Tr bM))(lv sl:Nat):aT (bI m (eR m ks)) lv sl=if(lv,sl)∈ks then(aT m lv sl).bind bM.nK else aT m lv sl:=vk m ks m lv sl rfl
def ady{e e':bM}(h:e.nK=some e'):e'.fz=true:=by cases e<;>simp only[bM.nK]at h<;>first|(cases h;rfl)|cases h
def rQ{X:Cx}{m:List (Tr bM)}{t:Tr Unit}(h:aM X m t)(ks:List (Nat×Nat)):Ext X (X.nK m ks):=Ext.more λb _⟨k,_,hb⟩=>by obtain⟨e,L,he,hL,hc,rfl,hz⟩:=lB hb;obtain⟨L',hL',h2⟩:=h.ew (.inl ⟨k.1,k.2,e,rfl,he,rfl,hz⟩)<;>grind
def G1{X:Cx}{m:List (Tr bM)}{t:Tr Unit}(h:aM X m t)(ks:List (Nat×Nat)):aM (X.nK m ks) (bI m (eR m ks)) t:=by
 let era:List (Nat×Nat)->List (Tr bM)->List (Tr bM):=λks m=>bI m (ks.map λk=>(k.1,k.2,none));have aiM:∀(ks:List (Nat×Nat))(m:List (Tr bM))(lv sl:Nat),aT (era ks m) lv sl=if(lv,sl)∈ks then none else aT m lv sl:=by intro ks;induction ks with|nil=>simp[era,bI]|cons k ks ih=>
   intro m lv sl;simp[era,gc,bI]at ih⊢;rw[ih];by_cases h1:(lv,sl)∈ks;.simp[h1]
   .rw[cM]<;>grind[bI,cH,aT]
 have B0:aM X (era ks m) t:=h.less (λlv sl e he=>by
  rw[aiM]at he;split at he;.cases he
  .exact he) λ_ h=>h;have hm0:aM (X.nK m ks) (era ks m) t:=by
  refine B0.more (λb o⟨k,_,hb⟩=>?_) λk v L o hk hv hc⟨k',hk',hb⟩=>?_;.obtain⟨e,L,he,hL,hc,rfl,hz⟩:=lB hb;obtain⟨L',hL',h2⟩:=h.ew (.inl ⟨k.1,k.2,e,rfl,he,rfl,hz⟩)<;>grind
  .obtain⟨e,M,he,hM,yH,hMb,hz⟩:=lB hb;have hh:Holds m t k v/\k≠cF k'.1 k'.2:=by
    rcases hk with⟨lv,sl,e',rfl,he',n9⟩|⟨rfl,he'⟩;.grind[bM.fz,bM.av,nD,aT,cF,Holds]
    .exact⟨.inr ⟨rfl,he'⟩,λhq=>fP hq.symm⟩
   exact h.apart _ _ _ _ _ _ hh.1 (.inl ⟨k'.1,k'.2,e,rfl,he,rfl,hz⟩) hh.2 hv hM hc yH hMb.symm
 have hh:∀k v,Holds (bI m (eR m ks)) t k v->Holds (era ks m) t k v:=by
  rintro k v(⟨lv,sl,e,rfl,he,hv,hz⟩|⟨rfl,he⟩)
  .rw[rP]at he;split at he;.obtain⟨e0,_,Zi⟩:=lw.1 he;rw[ady Zi]at hz;cases hz
   grind[bM.fz,bM.av,Cx.nK,aT,cF,Holds]
  .exact .inr ⟨rfl,he⟩
 refine⟨λlv sl e he=>?_,hm0.aO,λk k' v v' L L' a b=>hm0.apart k k' v v' L L' (hh _ _ a) (hh _ _ b),hm0.qI,hm0.Bh⟩;rw[rP]at he;split at he;.rename_i hk;obtain⟨e0,he1,Zi⟩:=lw.1 he;obtain⟨L,hL,hE⟩:=h.gz _ _ _ he1;cases e0 with|box v cs=>cases Zi|mp v ks=>cases Zi|Po v els=>cases Zi;exact⟨L,hL,hE.1,hE.2.ext (rQ h ks)⟩|row v els=>
   cases Zi;refine⟨L,hL,hE.1,hE.2.1,λi e j x h1 h2=>?_⟩;obtain⟨u,hu,hd⟩:=hE.2.2.2 i e j x h1 h2;have hc:0<L.cap:=by have:i<els.length:=(db.1 h1).1;have:=hE.1<;>omega
   refine⟨.inr ⟨(lv,sl),hk,?_⟩,u,hu,hd.ext (rQ h ks)⟩;have hL':X.ρ v=some L:=hL;simp[nD,he1,bM.av,hL',bM.fz,hc]
 .rename_i hn;exact hm0.gz lv sl e (by rw[aiM,bi hn];exact he)
def B1{X:Cx}{m:List (Tr bM)}{t:Tr Unit}(h:aM X m t){lv sl av:Nat}{els:List (List D)}(hr:sG m lv sl av=some els):∃L,X.ρ av=some L/\els.length<=L.cap/\fe X.w X.F (λb o=>X.F b o\/nD X m (lv,sl)=some b) els L.b L.o L.sz:=by
 unfold sG at hr;split at hr
 .rename_i v els' hg;split at hr
  .rename_i hv;simp_all;subst hv;obtain⟨L,hL,hE⟩:=h.gz _ _ _ hg;refine⟨L,hL,hE.1,hE.2.1,λi e j x h1 h2=>⟨.inr ?_,hE.2.2.2 i e j x h1 h2⟩⟩;have hc:0<L.cap:=by grind[pZ,bM.av,aT]
   have hL':X.ρ v=some L:=hL;simp[nD,hg,bM.av,hL',bM.fz,hc]
  grind
 .rename_i v els' hg;split at hr;.simp_all;obtain⟨L,hL,hE⟩:=h.gz _ _ _ hg;grind[pZ,bM.av,aT,nD,fe]
  grind
 grind
def nN{X:Cx}{m:List (Tr bM)}{t:Tr Unit}(h:aM X m t){lv sl av:Nat}{els:List (List D)}(hr:rowAt m lv sl av=some els):∃L,X.ρ av=some L/\pZ X (.row av els) L/\aT m lv sl=some (.row av els):=by
 unfold rowAt at hr;split at hr
 .rename_i v els' hg;split at hr;.rename_i hv;cases hr;have hv:=beq_true.1 hv;subst hv;obtain⟨L,hL,hE⟩:=h.gz _ _ _ hg;exact⟨L,hL,hE,hg⟩
  grind
 grind
def pZ.Zb{X:Cx}{av:Nat}{els:List (List D)}{L:Loc}{R:Nat->Nat->Prop}(h:pZ X (.row av els) L)(hR:0<L.cap->∀o,R L.b o):fe X.w X.F R els L.b L.o L.sz:=⟨h.2.1,λi e j x h1 h2=>⟨hR (by grind[pZ]) _,h.2.2.2 i e j x h1 h2⟩⟩
def fe.ext'{X Y:Cx}(hx:Ext X Y){R:Nat->Nat->Prop}{els:List (List D)}{b o sz:Nat}(h:fe X.w X.F R els b o sz)(hc:∀o,Y.w.cell? ⟨b,o,none⟩=X.w.cell? ⟨b,o,none⟩):fe Y.w Y.F R els b o sz:=⟨h.1,λi e j x h1 h2=>by obtain⟨hF,v,hv,hd⟩:=h.2 i e j x h1 h2;exact⟨hF,v,(hc _).trans hv,hd.ext hx⟩⟩
def tu{X:Cx}{m:List (Tr bM)}{t:Tr Unit}(h:aM X m t){x:AV}{els:List (List D)}{v:Value}(he:dQ m x=some els)(hv:VR X x v):∃a cap sz b o,v=.slice a els.length cap/\els.length<=cap/\(0<els.length->a=some ⟨b,o,none⟩)/\fe X.w X.F (λb o=>X.F b o\/X.old b\/∃lv sl av off len sz,x=.ref lv sl av off len sz/\nD X m (lv,sl)=some b) els b o sz:=by cases x with
 |d x=>cases x with|sc v=>cases he|er=>cases he|sl els'=>cases he;obtain⟨a,cap,sz,b,o,h1,h2,h3,h4⟩:=w8 (.inl rfl) hv<;>grind
 |own els' ow=>cases he;obtain⟨a,cap,sz,b,o,h1,h2,h3,h4⟩:=w8 (.inr ⟨_,rfl⟩) hv<;>grind|ref lv sl av off len sz=>simp[dQ]at he;cases hr:sG m lv sl av with|none=>grind|some els'=>
   rw[hr]at he;simp only[ae]at he;split at he
   .cases he;obtain⟨L,hL,hE1,hE⟩:=B1 h hr;obtain⟨L',a,cap,hL',h1,h2,h3,h4⟩:=hv;rw[hL]at hL';have hlen:((els'.drop off).take len).length=len:=by grind
    refine⟨a,cap,L.sz,L.b,L.o+off*L.sz,by rw[hlen];exact h2,by omega,λh0=>?_,?_⟩<;>grind[sG,nD,fe]
   grind
 |_=>cases he
def Sx{X:Cx}{m:List (Tr bM)}{t:Tr Unit}(h:aM X m t){ks k:List (Nat×Nat)}{x:AV}{y:D}{v:Value}(hx:Be m x=some (y,k))(hv:VC X x v)(hk:∀p∈k,p∈ks):DR X.w (X.nK m ks).F y v:=by have hex:=rQ h ks;cases x with
 |d x=>cases hx;exact DR.ext hex hv|own els ow=>cases ow with|full=>cases hx;obtain⟨a,b,o,sz,rfl,h3,h4⟩:=hv;exact DR.jr (h4.ext hex) rfl (bd _) h3|cT av tz=>cases hx;obtain⟨a,b,o,sz,cap,rfl,h2,h3,h4,_⟩:=hv;exact DR.jr (h4.ext hex) rfl h2 λh=>h3 (by omega)|aY=>cases hx
 |ref lv sl av off len sz=>simp only[Be]at hx;cases he:dQ m (.ref lv sl av off len sz)with|none=>grind|some els=>rw[he]at hx;injection hx with hx;injection hx with h1 h2;subst h1;obtain⟨L',a,cap,hL',g1,g2,g3,g4⟩:=hv;simp[dQ]at he;cases hr:sG m lv sl av with|none=>grind|some els'=>
    rw[hr]at he;simp only[ae]at he;split at he
    .cases he;obtain⟨L,hL,hE1,hE⟩:=B1 h hr;rw[hL]at hL';cases hL';subst g2;have hlen:((els'.drop off).take len).length=len:=by grind
     have hl:=(hE.region (S:=(X.nK m ks).F) λb o hq=>hq.elim .inl λhq=>.inr ⟨(lv,sl),hk _ (by rw[<-h2];simp),hq⟩).sub off len;exact DR.jr (hl.ext' hex λ_=>rfl) hlen g3 λh0=>by rw[(g4 (by omega)).1,g1]
    grind
 |_=>cases hx
def G2{X:Cx}{m:List (Tr bM)}{t:Tr Unit}(h:aM X m t){ks:List (Nat×Nat)}:∀{xs:List AV}{ys:List D}{k:List (Nat×Nat)}{vs:List Value},ED m xs=some (ys,k)->aI (VC X) xs vs->(∀p∈k,p∈ks)->aI (DR X.w (X.nK m ks).F) ys vs
 |[],ys,k,[],hx,_,_=>by cases hx;trivial|x::xs,ys,k,v::vs,hx,hv,hk=>by
  simp[ED]at hx;split at hx;.rename_i y k1 ys' k2 h1 h2;cases hx;exact⟨Sx h h1 hv.1 λp hp=>hk p (by simp[hp]),G2 h h2 hv.2 λp hp=>hk p (by simp[hp])⟩
  grind|[],_,_,_::_,_,hv,_=>hv.elim|_::_,_,_,[],_,hv,_=>hv.elim
end Go.bS
