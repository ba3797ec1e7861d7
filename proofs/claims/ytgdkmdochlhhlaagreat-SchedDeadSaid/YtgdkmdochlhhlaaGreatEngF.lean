/- Parts of the proof. -/
import Derived.Orders
import Derived.Below
import Derived.Laws.CopyRow
import Derived.Laws.StructEq
import Derived.Laws.Slices
import Derived.Laws.Entries
import Derived.Laws.Cells
import Derived.Laws.Tables
set_option linter.unusedVariables false
set_option linter.unusedSimpArgs false
set_option linter.defProp false
namespace Go
set_option linter.defProp false
def ae:=@Option.bind_some
def al:=@Bool.and_eq_true
def am:=@Nat.eq_of_beq_eq_true
def aw:=@List.getElem?_eq_getElem
def ba:=@if_pos
def bb:=@List.length_append
def bc:=@Nat.le_refl
def bd:=@Int.toNat_natCast
def bi:=@if_neg
def bj:=@List.append_assoc
def bm:=@List.mem_append
def bo:=@decide_eq_true
def bv:=@decide_eq_false
def ca:=@List.mem_singleton
def cb:=@List.mem_cons_self
def cf:=@Option.map_some
def ci:=@List.getElem?_eq_some_iff
def da:=@List.getD_eq_getElem?_getD
def db:=@List.mem_cons_of_mem
def dj:=@Bool.not_true
def dk:=@decide_eq_true_eq
def dl:=@List.mem_cons
def dp:=@List.mem_append_left
def dq:=@List.length_singleton
def dt:=@List.append_nil
def du:=@List.mem_append_right
def dv:=@of_decide_eq_true
def dC:=@List.all_cons
def dE:=@List.not_mem_nil
def dT:=@Int.eq_ofNat_of_zero_le
def d6:=@Nat.mul_le_mul_right
def d7:=@Bool.not_eq_true'
def d8:=@List.flatMap_cons
def d9:=@Nat.add_mul
def eb:=@List.eq_nil_of_length_eq_zero
def eI:=@List.getElem?_eq_none
def eJ:=@Nat.add_assoc
def eK:=@Prod.mk.injEq
def eQ:=@List.mem_of_getElem?
def fa:=@List.length_cons
def fb:=@Nat.add_zero
def fd:=@Option.some.inj
def fg:=@Option.map_eq_some_iff
def fi:=@List.getElem?_map
def fj:=@Bool.not_false
def fr:=@List.all_eq_true
def ft:=@Nat.le_of_ble_eq_true
def fw:=@Option.some.injEq
def fx:=@List.getElem?_take
def f1:=@List.take_of_length_le
def f2:=@List.map_cons
def f4:=@List.take_length
def f8:=@Bool.true_and
def f9:=@Array.length_toList
def gc:=@List.map_append
def ge:=@Bool.or_eq_true
def gg:=@List.drop_eq_getElem_cons
def ib:=@beq_self_eq_true
def ii:=@Nat.lt_or_ge
def im:=@List.mem_iff_getElem
def io:=@Bool.and_false
def iv:=@Nat.lt_of_lt_of_le
def i5:=@List.mem_map
def i6:=@List.nil_append
def i7:=@List.length_take
def i9:=@List.getElem_mem
def jn:=@if_true
def jp:=@Bool.or_eq_false_iff
def j1:=@forall_eq_or_imp
def ka:=@decide_eq_decide
def kb:=@Nat.zero_add
def kh:=@Array.getD_eq_getD_getElem?
def km:=@or_false
def kv:=@congrArg
def kw:=@List.getElem?_append_right
def kx:=@Bool.false_eq_true
def la:=@Bool.and_true
def lc:=@Array.toList_map
def lh:=@List.length_replicate
def lj:=@List.length_map
def ll:=@Bool.not_eq_false'
def lr:=@Option.bind_eq_some_iff
def ls:=@List.mem_of_mem_take
def lw:=@beq_iff_eq
def lx:=@List.map_nil
def lA:=@List.ext_getElem?
def lL:=@Array.getElem?_eq_some_iff
def lO:=@forall_eq
def ma:=@beq_eq_false_iff_ne
def mi:=@Nat.ble_eq_true_of_le
def ml:=@List.any_eq_true
def mn:=@Nat.lt_irrefl
def mr:=@decide_eq_false_iff_not
def mt:=@Nat.lt_trichotomy
def m6:=@List.length_nil
def m7:=@Bool.eq_iff_iff
def m8:=@Nat.ne_of_beq_eq_false
def m9:=@Nat.le_trans
def na:=@List.mem_flatMap
def nf:=@List.cons_append
def nl:=@List.getElem?_append_left
def nn:=@Nat.pow_lt_pow_right
def ns:=@List.getElem?_set
def nz:=@BitVec.ofInt_natCast
def n3:=@if_false
def oi:=@List.length_drop
def ol:=@List.getElem?_replicate
def o0:=@Option.isSome_none
def pb:=@List.pairwise_cons
def pd:=@List.getElem?_drop
def ph:=@BitVec.toNat_ofNat
def pi:=@List.flatten_cons
def pj:=@decide_true
def pm:=@Nat.pow_le_pow_right
def po:=@List.mem_of_mem_drop
def pp:=@Bool.false_and
def pr:=@List.mem_take_iff_getElem
def pt:=@Array.getElem?_eq_getElem
def pu:=@List.replicate_succ
def pv:=@Nat.le_succ
def pw:=@Ne.symm
def px:=@Nat.sub_self
def py:=@List.map_map
def pA:=@List.drop_of_length_le
def pB:=@Bool.or_true
def pC:=@Bool.eq_false_iff
def pD:=@List.set_append_right
def qr:=@Nat.mod_eq_of_lt
def ra:=@List.filter_cons
def rb:=@Bool.not_eq_true
def rc:=@Nat.mul_one
def rf:=@Nat.min_eq_left
def rh:=@List.replicate_zero
def rl:=@List.getElem?_range
def rm:=@Int.toNat_of_nonneg
def ro:=@List.mem_replicate
def rp:=@List.filter_filter
def rt:=@Int.fdiv_eq_ediv_of_nonneg
def rx:=@Array.getElem?_append_left
def sa:=@Nat.or_lt_two_pow
def sd:=@List.any_eq_false
def se:=@List.map_take
def sf:=@Option.getD_some
def sm:=@List.isEmpty_iff
def ss:=@List.drop_length
def sT:=@not_or
def tb:=@decide_false
def te:=@Nat.testBit_lt_two_pow
def ti:=@Nat.mod_lt
def tl:=@List.filter_eq_nil_iff
def tx:=@Nat.min_le_left
def t6:=@List.mem_filter
def t7:=@Bool.decide_and
def t8:=@List.modify_modify_eq
def ub:=@Nat.zero_le
def ui:=@List.pairwise_append
def ul:=@List.mem_range
def ut:=@Int.mul_nonneg
def vd:=@Int.mul_le_mul
def vx:=@List.map_drop
def vy:=@Option.isSome_some
def wa:=@List.append_of_mem
def wc:=@not_true_eq_false
def wd:=@List.filter_congr
def wi:=@List.all_nil
def wl:=@Option.elim_none
def wn:=@Nat.lt_succ_self
def wt:=@List.drop_append
def ww:=@Int.le_refl
def wx:=@Option.map_none
def wy:=@List.foldl_cons
def xa:=@Int.natCast_mul
def xc:=@dif_neg
def xf:=@List.Perm.refl
def xi:=@Bool.or_false
def xr:=@getElem!_pos
def xt:=@Nat.zero_mul
def yi:=@Nat.succ_mul
def yk:=@Nat.sub_zero
def yn:=@Nat.ne_of_lt
def yr:=@Nat.mul_comm
def y0:=@Int.le_trans
def zr:=@Int.add_zero
def zt:=@Iff.rfl
def At:=@Bool.or_self
def Do:=@Nat.one_mul
end Go
namespace Go.bL
open Go
inductive D where|sc(v:Value)|sl(els:List (List D))|er deriving Inhabited
inductive Own where|full|cU(aq sz:Nat)|bD deriving Inhabited
inductive AV where|d(x:D)|own(els:List (List D))(o:Own)|agg(cs:List AV)|fu(vs:List AV)|ref(lv sl aq off len sz:Nat)|ptr(lv sl aq i off:Nat)|dz(lv sl aq off n sz:Nat)|e9(e:List D)(off:Nat)|fK(f:Nat)(cap:List AV)|mp(lv sl aq:Nat)deriving Inhabited
inductive bu where|row(aq:Nat)(els:List (List D))|box(aq:Nat)(cells:List AV)|Ni(aq:Nat)(els:List (List D))|mp(aq:Nat)(ks:List (List UInt8))deriving Inhabited
inductive Tr(α:Type)where|lf|nd(v:Option α)(l r:Tr α)deriving Inhabited
def Tr.get?{α:Type}:Tr α->Nat->Option α|.lf,_=>none|.nd v l r,n=>match Nat.beq n 0with|true=>v|false=>match Nat.beq (n%2) 1with|true=>l.get? (n/2)|false=>r.get? (n/2-1)
def Tr.top{α:Type}:Tr α->Option α|.lf=>none|.nd v _ _=>v
def Tr.left{α:Type}:Tr α->Tr α|.lf=>.lf|.nd _ l _=>l
def Tr.right{α:Type}:Tr α->Tr α|.lf=>.lf|.nd _ _ r=>r
def Tr.vH{α:Type}:Nat->Tr α->Nat->Option α->Tr α|0,t,_,_=>t|f+1,t,n,x=>match Nat.beq n 0with|true=>.nd x t.left t.right|false=>match Nat.beq (n%2) 1with|true=>.nd t.top (Tr.vH f t.left (n/2) x) t.right|false=>.nd t.top t.left (Tr.vH f t.right (n/2-1) x)
def Tr.set{α:Type}(t:Tr α)(n:Nat)(x:Option α):Tr α:=Tr.vH (n+1) t n x
structure St where
 slots:Tr AV
 mem:List (Tr bu)aI:Tr Unit
 nv:Nat deriving Inhabited
inductive cx where|t(n:Nat)|c(v:AV)deriving Inhabited
def kP:AV:=.fu []
def dW(s:Tr AV)(n:Nat):AV:=(s.get? n).getD kP
def cx.ev(s:Tr AV):cx->AV|.t n=>dW s n|.c v=>v
inductive cG where|JS(x:cx)|pick(c a b:cx)|alloc(zero:List AV)|box(x:cx)|build(zero:List AV)(parts:List (Nat×Nat×cx))|buildSlice(sz n:Nat)(zero:List D)(parts:List (Nat×cx))|load(sz:Nat)(agg:Bool)(x:cx)|store(sz:Nat)(x v:cx)|nilCheck(x:cx)|bin(op:BinOp)(x y:cx)|eqb(neg:Bool)(x y:cx)|Q8(neg:Bool)(sz:Nat)(cells:List (Nat×Nat))(x y:cx)|Az(neg:Bool)(x:cx)|un(op:UnOp)(x:cx)|conv(k:IntKind)(x:cx)|field(off sz:Nat)(agg:Bool)(x:cx)|fieldAddr(off:Nat)(x:cx)|indexAddr(sz:Nat)(x i:cx)|lG(n sz:Nat)(x i:cx)|rQ(n sz:Nat)(agg:Bool)(x i:cx)|rR(x i:cx)|slice(sz:Nat)(x:cx)(lo hi mx:Option cx)|rS(x:cx)(lo hi:Option cx)|extract(x:cx)(i:Nat)|len(x:cx)|HW(x:cx)|JT(x:cx)|b2s(x:cx)|s2b(x:cx)|mkSet|JU(m k:cx)|JV(m k:cx)|Ft(n:Nat)|HX(x y:cx)|HY(x y:cx)|append(sz bytes:Nat)(x y:cx)|qa(sz bytes:Nat)(z:List D)(x n:cx)|copy(sz:Nat)(x y:cx)|makeSlice(sz bytes:Nat)(zero:List D)(len cap:cx)|makeFunc(f:Nat)(cap:List cx)|sliceB(n sz:Nat)(x:cx)|tH(lo n sz:Nat)(x:cx)|clear(sz:Nat)(zero:List D)(x:cx)|grow(sz:Nat)(x n:cx)|clone(sz bytes:Nat)(x:cx)|sort(x:cx)|compact(x:cx)|bad|call(f:Nat)(args:List cx)|xu(f:Nat)(args:List cx)|AA(x:cx)(args:List cx)deriving Inhabited
structure bI where
 dst:Option Nat
 op:cG
 gd:Option (Nat×Bool)oV:Nat
 row:Nat deriving Inhabited
inductive AC where|skip|region(ops:List bI)(draw:Bool)|seq(a b:AC)|cond(c:cx)(a b:AC)|block(id:Nat)(c:AC)|loop(c:AC)|exit(id:Nat)|ret deriving Inhabited
inductive BR where|t(n:Nat)|cell(n sz:Nat)(agg:Bool)deriving Inhabited
structure qA where
 np:Nat
 nt:Nat
 res:List BR
 body:AC
 sh:Bool deriving Inhabited
def aG(m:List (Tr bu))(lv sl:Nat):Option bu:=(m[lv]?).bind λt=>t.get? sl
def bJ(m:List (Tr bu))(lv sl:Nat)(e:Option bu):List (Tr bu):=m.modify lv λt=>t.set sl e
def rowAt(m:List (Tr bu))(lv sl aq:Nat):Option (List (List D)):=match aG m lv sl with
 |some (.row v els)=>match Nat.beq v aq with|true=>some els|false=>none
 |_=>none
def j3(m:List (Tr bu))(lv sl aq:Nat):Option (List AV):=match aG m lv sl with
 |some (.box v cs)=>match Nat.beq v aq with|true=>some cs|false=>none
 |_=>none
def setAt(m:List (Tr bu))(lv sl aq:Nat):Option (List (List UInt8)):=match aG m lv sl with
 |some (.mp v ks)=>match Nat.beq v aq with|true=>some ks|false=>none
 |_=>none
def hasB(ks:List (List UInt8))(k:List UInt8):Bool:=ks.any λl=>decide (k=l)
def tI(ks:List (List UInt8))(k:List UInt8):List (List UInt8):=match hasB ks k with|true=>ks|false=>ks++[k]
def qQ(m:List (Tr bu))(lv sl aq:Nat):Option (List (List D)):=match aG m lv sl with
 |some (.row v els)=>match Nat.beq v aq with|true=>some els|false=>none
 |some (.Ni v els)=>match Nat.beq v aq with|true=>some els|false=>none
 |_=>none
def dJ(m:List (Tr bu)):AV->Option (List (List D))|.d (.sl els)=>some els|.own els _=>some els|.ref lv sl aq off len _=>(qQ m lv sl aq).bind λels=>if off+len<=els.length then some ((els.drop off).take len)else none|_=>none
def cellsOf:AV->Option (List AV)|.agg cs=>some cs|.fu _=>none|v=>some [v]
def BS(m:List (Tr bu)):AV->Option (D×List (Nat×Nat))|.d x=>some (x,[])|.own els .full=>some (.sl els,[])|.own els (.cU _ _)=>some (.sl els,[])|.ref lv sl aq off len sz=>(dJ m (.ref lv sl aq off len sz)).map λels=>(.sl els,[(lv,sl)])|_=>none
def Fu(m:List (Tr bu)):List AV->Option (List D×List (Nat×Nat))|[]=>some ([],[])|x::r=>match BS m x,Fu m r with|some (y,k),some (ys,ks)=>some (y::ys,k++ks)|_,_=>none
def FQ(m:List (Tr bu))(x:AV):Option (List D×List (Nat×Nat)):=(cellsOf x).bind (Fu m)
def splice{α:Type}(cs:List α)(off:Nat)(new:List α):List α:=cs.take off++new++cs.drop (off+new.length)
def FR(op:BinOp)(k:IntKind)(a b:Int):Option Int:=let x:=BitVec.ofInt k.bits a;let y:=BitVec.ofInt k.bits b;match op with|.and=>some (k.wrap (x&&&y).toNat)|.or=>some (k.wrap (x|||y).toNat)|.xor=>some (k.wrap (x^^^y).toNat)|.andNot=>some (k.wrap (x&&&~~~y).toNat)|_=>none
def HZ(op:BinOp)(k:IntKind)(a:Int)(k':IntKind)(b:Int):Option Value:=match op with|.shl=>if b<0then none else some (.int k (k.wrap (a*2^min b.toNat k.bits)))|.shr=>if b<0then none else some (.int k (a.fdiv (2^min b.toNat k.bits)))|op=>if k≠k' then none else match op with|.add=>some (.int k (k.wrap (a+b)))|.sub=>some (.int k (k.wrap (a-b)))|.mul=>some (.int k (k.wrap (a*b)))|.quo=>if b=0then none else some (.int k (k.wrap (a.tdiv b)))|.rem=>if b=0then none else some (.int k (a.tmod b))|.and|.or|.xor|.andNot=>(FR op k a b).map (.int k)|.eql=>some (.bool (a==b))|.neq=>some (.bool (a !=b))|.lss=>some (.bool (a<b))|.leq=>some (.bool (a<=b))|.gtr=>some (.bool (a>b))|.geq=>some (.bool (a>=b))|_=>none
def Np(op:BinOp)(x y:ByteArray):Option Value:=match op with|.add=>if((x.size+y.size:Nat):Int)>IntKind.i64.max then none else some (.string (x++y))|.eql=>some (.bool (x.toList==y.toList))|.neq=>some (.bool !(x.toList==y.toList))|.lss=>some (.bool (Op.bytesLess x.toList y.toList))|.leq=>some (.bool (Op.bytesLess x.toList y.toList||x.toList==y.toList))|.gtr=>some (.bool !(Op.bytesLess x.toList y.toList||x.toList==y.toList))|.geq=>some (.bool !(Op.bytesLess x.toList y.toList))|_=>none
def TQ(op:BinOp):AV->AV->Option Value|.d (.sc (.int k a)),.d (.sc (.int k' b))=>HZ op k a k' b|.d (.sc (.string a)),.d (.sc (.string b))=>Np op a b|_,_=>none
def JW(kd:Nat):AV->AV->Option Bool
 |.d (.sc (.bool a)),.d (.sc (.bool b))=>match kd with|0=>some (a==b)|_=>none
 |.d (.sc (.int k a)),.d (.sc (.int k' b))=>match kd with|1=>if k=k' then some (a==b)else none|_=>none
 |.d (.sc (.string a)),.d (.sc (.string b))=>match kd with|0=>none|1=>none|_=>some (a==b)
 |_,_=>none
def nB(xs ys:List AV):List (Nat×Nat)->Option Bool|[]=>some true|o::r=>match xs[o.1]?,ys[o.1]?with
 |some x,some y=>match JW o.2 x y with|some true=>nB xs ys r|some false=>some false|none=>none
 |_,_=>none
def unA(op:UnOp):AV->Option Value
 |.d (.sc (.bool b))=>match op with|.not=>some (.bool !b)|_=>none
 |.d (.sc (.int k n))=>match op with|.neg=>some (.int k (k.wrap (0-n)))|.xor=>(FR .xor k (if k.signed then-1 else k.max) n).map (.int k)|_=>none
 |_=>none
def tJ:AV->Option Int|.d (.sc (.int _ n))=>some n|_=>none
def gX(x:AV):Option Nat:=(tJ x).bind λn=>if 0<=n then some n.toNat else none
def jS:AV->Option Bool|.d (.sc (.bool b))=>some b|_=>none
def nC(v:Value):AV:=.d (.sc v)
def qR(n:Nat):AV:=.d (.sc (.int .i64 n))
def jT:AV->Bool|.agg _|.fu _|.fK _ _=>false|_=>true
structure fy where
 val:AV
 dx:List (Nat×Nat×Option bu)cU:List (Nat×Bool)rd:List (Nat×Nat×Nat)deriving Inhabited
inductive iu where|bZ(e:fy)|all(val:AV)(mem:List (Tr bu))(aI:Tr Unit)(nv:Nat)(kp kr:List (Nat×Nat))deriving Inhabited
def fy.pure(v:AV):Option iu:=some (.bZ {val:=v,dx:=[],cU:=[],rd:=[]})
def bX(lv sl:Nat):Nat×Nat×Nat:=(0,lv,sl)
def kq(v:Nat):Nat×Nat×Nat:=(1,v,0)
def fy.wr(e:fy):List (Nat×Nat×Nat):=e.dx.map (λu=>bX u.1 u.2.1)++e.cU.map λu=>kq u.1
def cX:AV->List (Nat×Nat×Nat)|.ref lv sl _ _ _ _=>[bX lv sl]|.ptr lv sl _ _ _=>[bX lv sl]|.dz lv sl _ _ _ _=>[bX lv sl]|.mp lv sl _=>[bX lv sl]|_=>[]
def fL:AV->List (Nat×Nat×Nat)|.agg cs=>cs.flatMap cX|v=>cX v
def aU(m:List (Tr bu)):List (Nat×Nat×Option bu)->List (Tr bu)|[]=>m|(lv,sl,e)::r=>aU (bJ m lv sl e) r
def eX(t:Tr Unit):List (Nat×Bool)->Tr Unit|[]=>t|(v,b)::r=>eX (t.set v (if b then some ()else none)) r
def n9(s:Tr AV)(dst:Option Nat)(v:AV):Tr AV:=match dst with|some n=>s.set n (some v)|none=>s
def j8(m:List (Tr bu))(kp:List (Nat×Nat)):List (Tr bu):=aU m (kp.map λk=>(k.1,k.2,none))
def fit(old m:List (Tr bu)):List (Tr bu):=(m++List.replicate old.length Tr.lf).take old.length
def back(old m:List (Tr bu)):List (Nat×Nat)->List (Tr bu)|[]=>m|k::r=>aU (fit old m) ((k::r).map λk=>(k.1,k.2,aG old k.1 k.2))
def St.app(s:St)(dst:Option Nat):iu->St|.bZ e=>{slots:=n9 s.slots dst e.val,mem:=aU s.mem e.dx,aI:=eX s.aI e.cU,nv:=s.nv}|.all v m t n kp kr=>{slots:=n9 s.slots dst v,mem:=back s.mem m (kp++kr),aI:=t,nv:=n}
abbrev Call:=Nat->List AV->List (Tr bu)->Tr Unit->Nat->Option (AV×List (Tr bu)×Tr Unit×Nat)
def dD(m:List (Tr bu)):AV->Option AV|.d x=>some (.d x)|.own els .bD=>some (.own els .bD)|.own els _=>some (.d (.sl els))|.ref lv sl aq off len sz=>(dJ m (.ref lv sl aq off len sz)).map λels=>.own els .bD|.fK f []=>some (.fK f [])|_=>none
def fB(m:List (Tr bu)):AV->Option (AV×List (Nat×Nat))|.own els .bD=>some (.own els .bD,[])|.fK f []=>some (.fK f [],[])|x=>(BS m x).map λ(y,k)=>(.d y,k)
def gn(m:List (Tr bu)):List AV->Option (List AV×List (Nat×Nat))|[]=>some ([],[])|x::r=>match fB m x,gn m r with|some (y,k),some (ys,ks)=>some (y::ys,k++ks)|_,_=>none
def zh(m:List (Tr bu)):AV->Option (AV×List (Nat×Nat))|.agg cs=>(gn m cs).map λ(ys,ks)=>(.agg ys,ks)|x=>(dD m x).map λy=>(y,[])
def sX(m:List (Tr bu)):List AV->Option (List AV×List (Nat×Nat))|[]=>some ([],[])|x::r=>match zh m x,sX m r with|some (y,k),some (ys,ks)=>some (y::ys,k++ks)|_,_=>none
def oE(top pk:Nat):Bool:=!Nat.beq pk 0&&!Nat.beq top 0
def bG(cm:List (Tr bu))(top pk k:Nat)(lv sl aq:Nat):AV->Option (AV×List (List (List D)))
 |.d x=>some (.d x,[])|.own els .full=>match !Nat.beq (pk/65536) 0&&Nat.beq k (pk%65536),els with|true,[]=>some (.ref lv sl aq 0 0 (pk/65536),[[]])|_,els=>match oE top pk||Nat.beq (pk%65536) 65535with|true=>some (.own els .full,[])|false=>some (.d (.sl els),[])
 |.own els (.cU v tz)=>match oE top pk with|true=>some (.own els (.cU v tz),[])|false=>some (.d (.sl els),[])
 |.ref cC cW gD off len sz=>match Nat.ble top cC with|false=>some (.ref cC cW gD off len sz,[])|true=>match dJ cm (.ref cC cW gD off len sz)with|none=>none|some els=>match Nat.beq pk 0with|true=>some (.d (.sl els),[])|false=>match Nat.beq k (pk%65536)with
  |true=>match rowAt cm cC cW gD with|some _=>some (.ref lv sl aq 0 len sz,[els])|none=>none
  |false=>match rowAt cm cC cW gD with|some _=>none|none=>some (.d (.sl els),[])
 |.fK f []=>some (.fK f [],[])|.dz cC cW gD off n sz=>match Nat.ble top cC with|false=>some (.dz cC cW gD off n sz,[])|true=>none
 |.ptr cC cW gD i off=>match Nat.ble top cC with|false=>some (.ptr cC cW gD i off,[])|true=>none
 |_=>none
def dN(cm:List (Tr bu))(top pk lv sl aq:Nat):Nat->List AV->Option (List AV×List (List (List D)))|_,[]=>some ([],[])|k,x::r=>match bG cm top pk k lv sl aq x,dN cm top pk lv sl aq (k+1) r with|some (y,u),some (ys,us)=>some (y::ys,u++us)|_,_=>none
def lH(cm:List (Tr bu))(top pk lv sl aq k:Nat):AV->Option (AV×List (List (List D)))|.agg cs=>(dN cm top pk lv sl aq k cs).map λ(vs,u)=>(.agg vs,u)|x=>bG cm top pk k lv sl aq x
def fX(cm:List (Tr bu))(top pk lv sl aq:Nat):Nat->List AV->Option (List AV×List (List (List D)))|_,[]=>some ([],[])|k,x::r=>match lH cm top pk lv sl aq k x,fX cm top pk lv sl aq (k+64) r with|some (y,u),some (ys,us)=>some (y::ys,u++us)|_,_=>none
def gY(cm:List (Tr bu))(top pk lv sl aq:Nat):AV->Option (AV×List (List (List D)))|.fu vs=>(fX cm top pk lv sl aq 1 vs).map λ(vs,u)=>(.fu vs,u)|x=>lH cm top pk lv sl aq 1 x
def kQ(lv sl aq:Nat):List (List (List D))->Option (List (Nat×Nat×Option bu))|[]=>some []|[els]=>some [(lv,sl,some (.row aq els))]|_=>none
def bu.nD:bu->Option bu|.row v els=>some (.Ni v els)|.box _ _=>none|.Ni v els=>some (.Ni v els)|.mp _ _=>none
def eY(m:List (Tr bu))(ks:List (Nat×Nat)):List (Nat×Nat×Option bu):=ks.map λk=>(k.1,k.2,(aG m k.1 k.2).bind bu.nD)
def jz(ks:List (Nat×Nat)):List (Nat×Nat×Nat):=ks.map λk=>bX k.1 k.2
def fY:AV->Bool|.fu _=>false|_=>true
def TT:AV->Bool|.d _=>true|_=>false
def H6:AV->Bool|.agg cs=>cs.all TT|x=>TT x
def aeH:AV->Bool|.fu vs=>vs.all H6|x=>H6 x
def gZ(call:Call)(shared:Bool)(row:Nat)(s:St)(lv sl aR:Nat)(f:Nat)(args:List AV):Option iu:=match shared with
 |false=>match sX s.mem args with|none=>none|some (aL,ks)=>match call f aL [.lf] .lf 0with|none=>none|some (r,cm,_,_)=>match gY cm 0 row lv sl aR r with|none=>none|some (v,us)=>match kQ lv sl aR us with|none=>none|some u=>some (.bZ {val:=v,dx:=eY s.mem ks++u,cU:=[],rd:=args.flatMap fL})
 |true=>match args.all fY with|false=>none|true=>match call f args (s.mem++[.lf]) s.aI s.nv with|none=>none|some (r,cm,ts,n)=>match gY cm s.mem.length row lv sl aR r with|none=>none|some (v,us)=>match kQ lv sl aR us with|none=>none|some u=>some (.all v (aU (cm.take s.mem.length) u) ts n [] [])
def zi(m:List (Tr bu)):AV->Option (AV×List (Nat×Nat))|.agg cs=>(gn m cs).map λ(ys,ks)=>(.agg ys,ks)|x=>fB m x
def sY(m:List (Tr bu)):List AV->Option (List AV×List (Nat×Nat))|[]=>some ([],[])|x::r=>match zi m x,sY m r with|some (y,k),some (ys,ks)=>some (y::ys,k++ks)|_,_=>none
def oW(call:Call)(s:St)(aR f:Nat)(args:List AV):Option iu:=match sY s.mem args with|none=>none|some (aL,ks)=>match call f aL [.lf] .lf 0with|none=>none|some (r,cm,_,_)=>match gY cm 0 0 0 0 aR r with|some (v,[])=>some (.bZ {val:=v,dx:=eY s.mem ks,cU:=[],rd:=args.flatMap fL})|_=>none
def qB(m:List (Tr bu)):List AV->Option (List AV)|[]=>some []|x::r=>match dD m x,qB m r with|some y,some ys=>some (y::ys)|_,_=>none
def sZ(m:List (Tr bu)):AV->Option AV|.agg cs=>(qB m cs).map .agg|x=>dD m x
def rT(m:List (Tr bu)):List AV->Option (List AV)|[]=>some []|x::r=>match sZ m x,rT m r with|some y,some ys=>some (y::ys)|_,_=>none
def oX(call:Call)(s:St)(aR f:Nat)(args:List AV):Option iu:=match rT s.mem args with|none=>none|some aL=>match call f aL [.lf] .lf 0with|none=>none|some (r,cm,_,_)=>match gY cm 0 0 0 0 aR r with|some (v,[])=>some (.bZ {val:=v,dx:=[],cU:=[],rd:=args.flatMap fL})|_=>none
def rU(call:Call)(s:St)(f:Nat)(args:List AV):Option iu:=match args.all fY with|false=>none|true=>match call f args (s.mem++[.lf]) s.aI s.nv with|none=>none|some (r,cm,ts,n)=>some (.all r cm ts n [] [])
def okC:AV->Bool|.own _ .bD=>false|.e9 _ _=>false|.fK _ cap=>cap.isEmpty|_=>true
def ok1:AV->Bool|.agg cs=>cs.all okC|x=>okC x
def CB:AV->Bool|.fu vs=>vs.all ok1|x=>ok1 x
def okE:bu->Bool|.box _ cs=>cs.all okC|_=>true
def okT:Tr bu->Bool|.lf=>true|.nd v l r=>(match v with|some e=>okE e|none=>true)&&(okT l&&okT r)
def sV(a b:Value):Bool:=match a,b with|.bool x,.bool y=>x==y|.int k x,.int k' y=>decide (k=k')&&decide (x=y)|.string x,.string y=>decide (x.data.toList=y.data.toList)|.nilIface,.nilIface=>true|_,_=>false
def sL{α:Type}(f:α->α->Bool):List α->List α->Bool|[],[]=>true|a::l,b::m=>f a b&&sL f l m|_,_=>false
def sD:Nat->D->D->Bool|0,_,_=>false|k+1,x,y=>match x,y with|.sc v,.sc w=>sV v w|.sl a,.sl b=>sL (sL (sD k)) a b|.er,.er=>true|_,_=>false
def sA(a b:AV):Bool:=match a,b with|.d x,.d y=>sD 9 x y|.own x .full,.own y .full=>sL (sL (sD 9)) x y|.ref a b c d e f,.ref a' b' c' d' e' f'=>Nat.beq a a'&&(Nat.beq b b'&&(Nat.beq c c'&&(Nat.beq d d'&&(Nat.beq e e'&&Nat.beq f f'))))|.dz a b c d e f,.dz a' b' c' d' e' f'=>Nat.beq a a'&&(Nat.beq b b'&&(Nat.beq c c'&&(Nat.beq d d'&&(Nat.beq e e'&&Nat.beq f f'))))|.ptr a b c d e,.ptr a' b' c' d' e'=>Nat.beq a a'&&(Nat.beq b b'&&(Nat.beq c c'&&(Nat.beq d d'&&Nat.beq e e')))|_,_=>false
def sE(a b:Option bu):Bool:=match a,b with|some (.box v cs),some (.box w ds)=>Nat.beq v w&&sL sA cs ds|none,none=>true|_,_=>false
def aas:List AV->List (Nat×Nat)|[]=>[]|.ptr lv sl _ _ _::r=>(lv,sl)::aas r|_::r=>aas r
def TU(top:Nat):Nat->Nat->List (Nat×Nat)|0,_=>[]|f+1,n=>match Nat.beq n 0with|true=>[]|false=>(top,n%1024)::TU top f (n/1024)
def qC(call:Call)(row:Nat)(kp kr:List (Nat×Nat))(s:St)(lv sl aR f:Nat)(args:List AV):Option iu:=match args.all fY with|false=>none|true=>match call f args (j8 s.mem kp++[.lf]) s.aI s.nv with|none=>none|some (r,cm,ts,n)=>match gY cm s.mem.length row lv sl aR r with|none=>none|some (v,us)=>match kQ lv sl aR us with|none=>none|some u=>match CB v&&((aU (cm.take s.mem.length) u).all okT&&kr.all λk=>sE (aG (aU (cm.take s.mem.length) u) k.1 k.2) (aG (j8 s.mem kp) k.1 k.2))with|true=>some (.all v (aU (cm.take s.mem.length) u) ts n kp kr)|false=>none
def jj(m:List (Tr bu)):AV->Option D|.d x=>some x|.own els _=>some (.sl els)|.ref lv sl aq off len sz=>(dJ m (.ref lv sl aq off len sz)).map .sl|_=>none
def chunk{α:Type}(sz:Nat):Nat->List α->List (List α)|0,_=>[]|n+1,l=>l.take sz::chunk sz n (l.drop sz)
def lI(f:AV->Option D):List AV->Option (List D)|[]=>some []|x::r=>match f x,lI f r with|some y,some ys=>some (y::ys)|_,_=>none
def lJ(m:List (Tr bu)):Nat->AV->Option D|0,x=>jj m x|k+1,x=>match x with
 |.dz lv sl aq off n sz=>match j3 m lv sl aq with|some cs=>if off+n*sz<=cs.length then(lI (lJ m k) ((cs.drop off).take (n*sz))).map λds=>.sl (chunk sz n ds)else none|none=>none
 |x=>jj m x
def qD(m:List (Tr bu)):Nat->AV->List (Nat×Nat×Nat)|0,x=>cX x|k+1,x=>match x with|.dz lv sl aq _ _ _=>bX lv sl::(match j3 m lv sl aq with|some cs=>cs.flatMap (qD m k)|none=>[])|x=>cX x
def ku(m:List (Tr bu)):AV->Option AV
 |.agg cs=>(lI (lJ m 2) cs).map λds=>.agg (ds.map .d)|.fK f []=>some (.fK f [])|.ptr lv sl aq i off=>match j3 m lv sl aq,Nat.beq i 0with|some cs,true=>(lI (lJ m 2) cs).map λds=>.e9 ds off|_,_=>none
 |.e9 e off=>some (.e9 e off)|x=>(lJ m 2 x).map .d
def xw(m:List (Tr bu)):List AV->Option (List AV)|[]=>some []|x::r=>match ku m x,xw m r with|some y,some ys=>some (y::ys)|_,_=>none
def nE(m:List (Tr bu)):AV->List (Nat×Nat×Nat)|.agg cs=>cs.flatMap (qD m 2)|.ptr lv sl aq _ _=>bX lv sl::(match j3 m lv sl aq with|some cs=>cs.flatMap (qD m 2)|none=>[])|x=>qD m 2 x
def CC:AV->Bool|.d (.sc _)=>true|.d (.sl [])=>true|_=>false
def FT:AV->Bool|.agg cs=>cs.all CC|x=>CC x
def TV:AV->Bool|.fu vs=>vs.all FT|x=>FT x
def lK(call:Call)(s:St)(f:Nat)(args:List AV):Option iu:=match xw s.mem args with|none=>none|some aL=>match call f aL [.lf] .lf 0with|none=>none|some (r,cm,_,_)=>match gY cm 0 0 0 0 0 r with
 |some (v,[])=>match TV v with|true=>some (.bZ {val:=v,dx:=[],cU:=[],rd:=args.flatMap (nE s.mem)})|false=>none
 |_=>none
def we(row top dst:Nat):Nat×Nat:=match Nat.beq (row%65536) 5with|true=>(0,1000000+row/65536)|false=>(top,dst)
def AB(s:Tr AV)(l:List cx):List AV:=l.map (·.ev s)
def qS(s:Tr AV):List AV->List (Nat×Nat×cx)->Option (List AV)|cs,[]=>some cs|cs,(off,sz,x)::r=>match cellsOf (x.ev s)with|some new=>if new.length=sz/\off+sz<=cs.length then qS s (splice cs off new) r else none|none=>none
def qT(m:List (Tr bu))(s:Tr AV)(sz:Nat):List (List D)->List (Nat×cx)->Option (List (List D)×List (Nat×Nat))|els,[]=>some (els,[])|els,(i,x)::r=>match FQ m (x.ev s)with|some (e,ks)=>if e.length=sz/\i<els.length then match qT m s sz (els.set i e) r with|some (els',ks')=>some (els',ks++ks')|none=>none else none|none=>none
def tc(m:List (Tr bu))(sz:Nat):AV->Option (List AV)
 |.ptr lv sl aq i off=>match aG m lv sl with
  |some (.box v cs)=>match Nat.beq v aq,Nat.beq i 0with|true,true=>if off+sz<=cs.length then some ((cs.drop off).take sz)else none|_,_=>none
  |some (.row v els)=>match Nat.beq v aq with
   |true=>match els[i]?with|some e=>if off+sz<=e.length then some (((e.drop off).take sz).map .d)else none|none=>none
   |false=>none
  |some (.Ni v els)=>match Nat.beq v aq with
   |true=>match els[i]?with|some e=>if off+sz<=e.length then some (((e.drop off).take sz).map .d)else none|none=>none
   |false=>none
  |some (.mp _ _)=>none|none=>none
 |.e9 e off=>if off+sz<=e.length then some (((e.drop off).take sz).map .d)else none|_=>none
def iJ(agg:Bool)(cs:List AV):Option AV:=match agg with|true=>some (.agg cs)|false=>match cs with|[v]=>some v|_=>none
def rV(m:List (Tr bu))(sz:Nat)(p v:AV):Option fy:=
 match p,cellsOf v with|.ptr lv sl aq i off,some new=>if new.length=sz then match aG m lv sl with
  |some (.box v cs)=>match Nat.beq v aq,Nat.beq i 0with|true,true=>if off+sz<=cs.length then some {val:=kP,dx:=[(lv,sl,some (.box v (splice cs off new)))],cU:=[],rd:=[bX lv sl]}else none|_,_=>none
  |some (.row v els)=>match Nat.beq v aq with
   |true=>match els[i]?,Fu m new with|some e,some (ds,ks)=>if off+sz<=e.length/\¬(lv,sl)∈ks then some {val:=kP,dx:=eY m ks++[(lv,sl,some (.row v (els.set i (splice e off ds))))],cU:=[],rd:=bX lv sl::jz ks}else none|_,_=>none
   |false=>none
  |some (.Ni _ _)=>none|some (.mp _ _)=>none|none=>none else none|_,_=>none
def hD(m:List (Tr bu)):AV->Option (List (List D))|.d (.sc (.string b))=>some (b.data.toList.map λc=>[.sc (.int .u8 c.toNat)])|x=>dJ m x
def eW:Nat:=9223372036854775807
def jA:Nat:=140737488355328
def ew(s:St)(row:Bool)(lv sl aR sz bytes:Nat)(x y:AV):Option fy:=match hD s.mem y with|none=>none|some news=>if news.all (λe=>e.length==sz)then match x with
 |.own els .full=>if els.all (λe=>e.length==sz)/\els.length+news.length<=eW/\(els.length+news.length)*bytes<=jA then match row with|false=>some {val:=.own (els++news) (.cU aR sz),dx:=[],cU:=[(aR,true)],rd:=cX y}|true=>if els.isEmpty=false/\news.isEmpty=true then none else some {val:=.ref lv sl aR 0 (els.length+news.length) sz,dx:=[(lv,sl,some (.row aR (els++news)))],cU:=[],rd:=cX y}else none|.own els (.cU v tz)=>if tz=sz/\els.length+news.length<=eW/\(els.length+news.length)*bytes<=jA/\(s.aI.get? v).isSome then some {val:=.own (els++news) (.cU aR sz),dx:=[],cU:=[(v,false),(aR,true)],rd:=kq v::cX y}else none|.ref cC cW aq off len sz'=>match rowAt s.mem cC cW aq with|some els=>if sz'=sz/\off+len<=els.length/\len+news.length<=eW/\(len+news.length)*bytes<=jA then some {val:=.ref cC cW aR 0 (len+news.length) sz,dx:=[(cC,cW,some (.row aR ((els.drop off).take len++news)))],cU:=[],rd:=bX cC cW::cX y}else none|none=>none
 |_=>none else none
def oa(m:List (Tr bu))(sz:Nat)(x:AV):Option (List AV):=match x with
 |.dz lv sl aq off n sz'=>match j3 m lv sl aq with|some cs=>if sz'=sz/\off+n*sz<=cs.length then some ((cs.drop off).take (n*sz))else none|none=>none
 |x=>match dJ m x with|some els=>if els.all (λe=>e.length==sz)then some (els.flatten.map .d)else none|none=>none
def kH(s:St)(lv sl aR sz bytes:Nat)(x y:AV):Option fy:=match oa s.mem sz y with|none=>none|some new=>match Nat.beq (new.length/sz) 0with|true=>none|false=>match x with
 |.own [] .full=>if new.length/sz<=eW/\new.length/sz*bytes<=jA then some {val:=.dz lv sl aR 0 (new.length/sz) sz,dx:=[(lv,sl,some (.box aR new))],cU:=[],rd:=cX y}else none|.dz cC cW aq off n sz'=>match j3 s.mem cC cW aq with|some cs=>if sz'=sz/\off+n*sz<=cs.length/\n+new.length/sz<=eW/\(n+new.length/sz)*bytes<=jA then some {val:=.dz cC cW aR 0 (n+new.length/sz) sz,dx:=[(cC,cW,some (.box aR ((cs.drop off).take (n*sz)++new)))],cU:=[],rd:=bX cC cW::cX y}else none|none=>none
 |_=>none
def bytesOf:List (List D)->Option (List UInt8)|[]=>some []|[.sc (.int .u8 n)]::r=>(bytesOf r).map (UInt8.ofNat n.toNat::·)|_=>none
def od(l:List UInt8):ByteArray:=⟨l.toArray⟩
def JX(s:St)(aR sz:Nat)(x:AV)(l:Nat)(hi:Option Nat):Option fy:=match x with
 |.ref lv sl aq off len sz'=>match rowAt s.mem lv sl aq with|some els=>if sz'=sz/\l<=hi.getD len/\hi.getD len<=len/\off+len<=els.length then some {val:=.ref lv sl aR 0 (hi.getD len-l) sz,dx:=[(lv,sl,some (.row aR ((els.drop (off+l)).take (hi.getD len-l))))],cU:=[],rd:=[bX lv sl]}else none|none=>none
 |_=>none
def ot:AV->Bool|.ref ..=>true|_=>false
def JY(s:St)(lv dst aR:Nat)(x:AV):Option fy:=match x with
 |.ref cC cW aq off len sz=>match rowAt s.mem cC cW aq with
  |some els=>match Nat.ble (off+len) els.length with|true=>some {val:=.ref lv dst aR 0 len sz,dx:=[(cC,cW,none),(lv,dst,some (.row aR ((els.drop off).take len)))],cU:=[],rd:=[bX cC cW]}|false=>none
  |none=>none
 |_=>none
def tK:List (List D)->Option (List Int)|[]=>some []|[.sc (.int .i64 z)]::r=>(tK r).map (z::·)|_=>none
def jt(l:List Int):List (List D):=l.map λz=>[.sc (.int .i64 z)]
def CD(x:Int):List Int->List Int|[]=>[x]|y::r=>match decide (x<=y)with|true=>x::y::r|false=>y::CD x r
def j4:List Int->List Int|[]=>[]|x::r=>CD x (j4 r)
def AD(s:St)(x:AV):Option fy:=match x with
 |.own [] .full=>some {val:=kP,dx:=[],cU:=[],rd:=[]}|.ref lv sl aq off len sz=>match rowAt s.mem lv sl aq with|some els=>(tK els).bind λzs=>if off=0/\len=els.length/\sz=1/\els.length<4611686018427387904then some {val:=kP,dx:=[(lv,sl,some (.row aq (jt (j4 zs))))],cU:=[],rd:=[bX lv sl]}else none|none=>none
 |_=>none
def j5:List Int->List Int|[]=>[]|x::r=>match r with|[]=>[x]|y::_=>match decide (x=y)with|true=>j5 r|false=>x::j5 r
def nF(s:St)(aR:Nat)(x:AV):Option fy:=match x with
 |.own [] .full=>some {val:=.own [] .full,dx:=[],cU:=[],rd:=[]}|.ref lv sl aq off len sz=>match rowAt s.mem lv sl aq with|some els=>(tK els).bind λzs=>if off=0/\len=els.length/\sz=1/\els.length<4611686018427387904then some {val:=.ref lv sl aR 0 (j5 zs).length 1,dx:=[(lv,sl,some (.row aR (jt (j5 zs))))],cU:=[],rd:=[bX lv sl]}else none|none=>none
 |_=>none
def TX(row:Nat):Bool:=Nat.beq (row%65536) 4||(Nat.beq (row%65536) 6&&!Nat.beq (row/65536) 0)
def BT(row lv dst aR:Nat)(x:AV):fy:=match TX row,x with|true,.own [] .full=>{val:=.ref lv dst aR 0 0 (row/65536),dx:=[(lv,dst,some (.row aR []))],cU:=[],rd:=[]}|_,v=>{val:=v,dx:=[],cU:=[],rd:=[]}
def gr(x:Option cx)(s:Tr AV)(dflt:Nat):Option Nat:=match x with|none=>some dflt|some o=>gX (o.ev s)
def fZ(sz:Nat)(x:AV)(lo:Nat)(hi mx:Option Nat):Option AV:=match x with
 |.d (.sl els)=>let h:=hi.getD els.length;match mx with|none=>if lo<=h/\h<=els.length/\els.all (λe=>e.length==sz)then some (.d (.sl ((els.drop lo).take (h-lo))))else none|some k=>if lo<=h/\h=k/\h<=els.length/\els.all (λe=>e.length==sz)then some (.own ((els.drop lo).take (h-lo)) .full)else none
 |.own els o=>let h:=hi.getD els.length;match mx with|none=>if lo<=h/\h<=els.length/\els.all (λe=>e.length==sz)then match o with|.bD=>some (.own ((els.drop lo).take (h-lo)) .bD)|.full=>if h=els.length then some (.own (els.drop lo) .full)else some (.d (.sl ((els.drop lo).take (h-lo))))|.cU _ _=>some (.d (.sl ((els.drop lo).take (h-lo))))else none|some k=>if lo<=h/\h=k/\h<=els.length/\els.all (λe=>e.length==sz)then match o with|.bD=>if h=lo then some (.own [] .full)else none|_=>some (.own ((els.drop lo).take (h-lo)) .full)else none
 |.ref lv sl aq off len sz'=>let h:=hi.getD len;match mx with|none=>if lo<=h/\h<=len/\sz'=sz then some (.ref lv sl aq (off+lo) (h-lo) sz)else none|some k=>if lo=h/\h=k/\h<=len then some (.own [] .full)else if lo<=h/\h=k/\h<=len/\sz'=sz then some (.ref lv sl aq (off+lo) (h-lo) sz)else none
 |_=>none
def H7(k:Nat):Nat->Nat->Bool|0,_=>false|f+1,n=>match Nat.beq n 0with|true=>false|false=>Nat.beq (n%1024) k||H7 k f (n/1024)
def ij(top dst:Nat):Nat:=match Nat.ble 1048576 dst with|true=>0|false=>top-1
def wg:List AV->Option (List D)|[]=>some []|.d x::r=>(wg r).map (x::·)|_=>none
def cG.run(call:Call)(sh:Nat->Bool)(s:St)(row:Nat)(dst aR:Nat):cG->Option iu
 |.JS x=>match Nat.beq (row%65536) 6&&ot (x.ev s.slots)with|true=>(JY s (ij s.mem.length dst) dst aR (x.ev s.slots)).map .bZ|false=>some (.bZ (BT row (ij s.mem.length dst) dst aR (x.ev s.slots)))
 |.pick c a b=>(jS (c.ev s.slots)).bind λt=>fy.pure (if t then a.ev s.slots else b.ev s.slots)|.alloc z=>some (.bZ {val:=.ptr (ij s.mem.length dst) dst aR 0 0,dx:=[(ij s.mem.length dst,dst,some (.box aR z))],cU:=[],rd:=[]})|.box x=>match Nat.beq row 14with|true=>(cellsOf (x.ev s.slots)).map λcs=>.bZ {val:=.ptr (s.mem.length-2) (1048576+dst) aR 0 0,dx:=[(s.mem.length-2,1048576+dst,some (.box aR cs))],cU:=[],rd:=[]}|false=>match Nat.beq row 13with|true=>(cellsOf (x.ev s.slots)).bind λcs=>(wg cs).bind λds=>fy.pure (.e9 ds 0)|false=>(cellsOf (x.ev s.slots)).map λcs=>.bZ {val:=.ptr (ij s.mem.length dst) dst aR 0 0,dx:=[(ij s.mem.length dst,dst,some (.box aR cs))],cU:=[],rd:=[]}
 |.build z ps=>(qS s.slots z ps).bind λcs=>fy.pure (.agg cs)|.buildSlice sz n z ps=>match Nat.beq row 2with
  |true=>match Nat.beq n 0with|true=>none|false=>(qS s.slots ((List.replicate n z).flatten.map .d) (ps.map λp=>(p.1*sz,sz,p.2))).map λcs=>.bZ {val:=.dz (ij s.mem.length dst) dst aR 0 n sz,dx:=[(ij s.mem.length dst,dst,some (.box aR cs))],cU:=[],rd:=[]}
  |false=>match qT s.mem s.slots sz (List.replicate n z) ps with|none=>none|some (els,ks)=>match Nat.beq row 0with|true=>some (.bZ {val:=.own els .full,dx:=eY s.mem ks,cU:=[],rd:=jz ks})|false=>if(ij s.mem.length dst,dst)∈ks then none else some (.bZ {val:=.ref (ij s.mem.length dst) dst aR 0 n sz,dx:=eY s.mem ks++[(ij s.mem.length dst,dst,some (.row aR els))],cU:=[],rd:=jz ks})
 |.load sz agg x=>(tc s.mem sz (x.ev s.slots)).bind λcs=>(iJ agg cs).map λv=>.bZ {val:=v,dx:=[],cU:=[],rd:=cX (x.ev s.slots)}|.store sz x v=>(rV s.mem sz (x.ev s.slots) (v.ev s.slots)).map .bZ|.nilCheck x=>match x.ev s.slots with|.ptr lv sl aq i off=>fy.pure (.ptr lv sl aq i off)|.e9 e off=>fy.pure (.e9 e off)|.fK f cs=>fy.pure (.fK f cs)|_=>none
 |.bin op x y=>(TQ op (x.ev s.slots) (y.ev s.slots)).bind λv=>fy.pure (nC v)|.eqb neg x y=>match jS (x.ev s.slots),jS (y.ev s.slots)with|some a,some b=>fy.pure (nC (.bool (if neg then !(a==b)else a==b)))|_,_=>none
 |.Q8 neg sz cells x y=>match x.ev s.slots,y.ev s.slots with|.agg xs,.agg ys=>if xs.length≠sz\/ys.length≠sz then none else(nB xs ys cells).bind λb=>fy.pure (nC (.bool (if neg then !b else b)))|_,_=>none
 |.Az neg x=>match x.ev s.slots with|.d .er=>fy.pure (nC (.bool neg))|.d (.sc .nilIface)=>fy.pure (nC (.bool !neg))|_=>none
 |.un op x=>(unA op (x.ev s.slots)).bind λv=>fy.pure (nC v)|.conv k x=>(tJ (x.ev s.slots)).bind λn=>fy.pure (nC (.int k (k.wrap n)))|.field off sz agg x=>match x.ev s.slots with|.agg cs=>if off+sz<=cs.length then(iJ agg ((cs.drop off).take sz)).bind fy.pure else none|_=>none
 |.fieldAddr off x=>match x.ev s.slots with|.ptr lv sl aq i o=>fy.pure (.ptr lv sl aq i (o+off))|.e9 e o=>fy.pure (.e9 e (o+off))|_=>none
 |.indexAddr sz x i=>(gX (i.ev s.slots)).bind λn=>match x.ev s.slots with
  |.d (.sl els)=>match els[n]?with|some e=>if e.length=sz then fy.pure (.e9 e 0)else none|none=>none
  |.own els _=>match els[n]?with|some e=>if e.length=sz then fy.pure (.e9 e 0)else none|none=>none
  |.ref lv sl aq off ln sz'=>if n<ln/\sz'=sz then fy.pure (.ptr lv sl aq (off+n) 0)else none|.dz lv sl aq off ln sz'=>if n<ln/\sz'=sz then fy.pure (.ptr lv sl aq 0 (off+n*sz))else none|_=>none
 |.lG n sz x i=>(gX (i.ev s.slots)).bind λk=>if k<n then match x.ev s.slots with|.ptr lv sl aq j o=>fy.pure (.ptr lv sl aq j (o+k*sz))|.e9 e o=>fy.pure (.e9 e (o+k*sz))|_=>none else none|.rQ n sz agg x i=>(gX (i.ev s.slots)).bind λk=>match x.ev s.slots with|.agg cs=>if k<n/\k*sz+sz<=cs.length then(iJ agg ((cs.drop (k*sz)).take sz)).bind fy.pure else none|_=>none
 |.rR x i=>(gX (i.ev s.slots)).bind λk=>match x.ev s.slots with
  |.d (.sc (.string b))=>match b.data.toList[k]?with|some c=>fy.pure (nC (.int .u8 c.toNat))|none=>none
  |_=>none
 |.slice sz x lo hi mx=>match gr lo s.slots 0,gr hi s.slots 0,gr mx s.slots 0with
  |some l,some h,some k=>match Nat.beq row 3&&(mx.isNone&&ot (x.ev s.slots))with|true=>(JX s aR sz (x.ev s.slots) l (hi.map λ_=>h)).map .bZ|false=>(fZ sz (x.ev s.slots) l (hi.map λ_=>h) (mx.map λ_=>k)).bind fy.pure
  |_,_,_=>none
 |.rS x lo hi=>match x.ev s.slots with
  |.d (.sc (.string b))=>match gr lo s.slots 0,gr hi s.slots b.size with|some l,some h=>if l<=h/\h<=b.size then fy.pure (nC (.string (b.extract l h)))else none|_,_=>none
  |_=>none
 |.extract x i=>match x.ev s.slots with|.fu vs=>(vs[i]?).bind fy.pure|_=>none
 |.len x=>match x.ev s.slots with|.d (.sl els)=>fy.pure (qR els.length)|.own els _=>fy.pure (qR els.length)|.ref _ _ _ _ n _=>fy.pure (qR n)|.dz _ _ _ _ n _=>fy.pure (qR n)|_=>none
 |.JT x=>match x.ev s.slots with|.own els .full=>fy.pure (qR els.length)|_=>none
 |.HW x=>match x.ev s.slots with|.d (.sc (.string b))=>fy.pure (qR b.size)|_=>none
 |.Ft n=>fy.pure (qR n)|.s2b x=>match x.ev s.slots with|.d (.sc (.string b))=>fy.pure (.d (.sl (b.data.toList.map λc=>[.sc (.int .u8 c.toNat)])))|_=>none
 |.b2s x=>(dJ s.mem (x.ev s.slots)).bind λels=>(bytesOf els).map λl=>.bZ {val:=nC (.string (od l)),dx:=[],cU:=[],rd:=cX (x.ev s.slots)}|.HX x y=>match x.ev s.slots,y.ev s.slots with|.d (.sc (.int k a)),.d (.sc (.int k' b))=>if k=k' then fy.pure (nC (.int k (min a b)))else none|_,_=>none
 |.HY x y=>match x.ev s.slots,y.ev s.slots with|.d (.sc (.int k a)),.d (.sc (.int k' b))=>if k=k' then fy.pure (nC (.int k (max a b)))else none|_,_=>none
 |.append sz bytes x y=>match Nat.beq row 11with|true=>(kH s (ij s.mem.length dst) dst aR sz bytes (x.ev s.slots) (y.ev s.slots)).map .bZ|false=>(ew s (!Nat.beq row 0) (we row (ij s.mem.length dst) dst).1 (we row (ij s.mem.length dst) dst).2 aR sz bytes (x.ev s.slots) (y.ev s.slots)).map .bZ
 |.qa sz bytes z x n=>(gX (n.ev s.slots)).bind λk=>if z.length=sz/\k<=eW/\k*bytes<=jA then(ew s (!Nat.beq row 0) (ij s.mem.length dst) dst aR sz bytes (x.ev s.slots) (.d (.sl (List.replicate k z)))).map .bZ else none|.sliceB n sz x=>match x.ev s.slots with
  |.ptr lv sl aq i off=>match Nat.beq i 0with|true=>fy.pure (.dz lv sl aq off n sz)|false=>none
  |_=>none
 |.tH lo n sz x=>match x.ev s.slots with
  |.ptr lv sl aq i off=>match Nat.beq i 0&&Nat.blt lo n with|true=>fy.pure (.dz lv sl aq (off+lo*sz) (n-lo) sz)|false=>none
  |_=>none
 |.clear sz z x=>match x.ev s.slots with
  |.ref lv sl aq off ln sz'=>match rowAt s.mem lv sl aq with|some els=>if sz'=sz/\off+ln<=els.length/\z.length=sz then some (.bZ {val:=kP,dx:=[(lv,sl,some (.row aq (splice els off (List.replicate ln z))))],cU:=[],rd:=[bX lv sl]})else none|none=>none
  |_=>none
 |.grow sz x n=>match x.ev s.slots,gX (n.ev s.slots)with|.own [] .full,some _=>some (.bZ {val:=.own [] (.cU aR sz),dx:=[],cU:=[(aR,true)],rd:=[]})|_,_=>none
 |.clone sz bytes x=>match Nat.beq row 11with|true=>(kH s (ij s.mem.length dst) dst aR sz bytes (.own [] .full) (x.ev s.slots)).map .bZ|false=>match dJ s.mem (x.ev s.slots)with|some _=>(ew s (!Nat.beq row 0) (ij s.mem.length dst) dst aR sz bytes (.own [] .full) (x.ev s.slots)).map .bZ|none=>none
 |.mkSet=>some (.bZ {val:=.mp (ij s.mem.length dst) dst aR,dx:=[(ij s.mem.length dst,dst,some (.mp aR []))],cU:=[],rd:=[]})|.JU m k=>match m.ev s.slots,k.ev s.slots with|.mp lv sl aq,.d (.sc (.string b))=>(setAt s.mem lv sl aq).map λks=>.bZ {val:=nC (.bool (hasB ks b.data.toList)),dx:=[],cU:=[],rd:=[bX lv sl]}|_,_=>none
 |.JV m k=>match m.ev s.slots,k.ev s.slots with|.mp lv sl aq,.d (.sc (.string b))=>(setAt s.mem lv sl aq).map λks=>.bZ {val:=kP,dx:=[(lv,sl,some (.mp aq (tI ks b.data.toList)))],cU:=[],rd:=[bX lv sl]}|_,_=>none
 |.sort x=>(AD s (x.ev s.slots)).map .bZ|.compact x=>(nF s aR (x.ev s.slots)).map .bZ|.bad=>none|.copy sz x y=>match x.ev s.slots,hD s.mem (y.ev s.slots)with
  |.dz lv sl aq off n sz',some news=>match j3 s.mem lv sl aq with|some cs=>if sz'=sz/\off+n*sz<=cs.length/\news.all (λe=>e.length==sz)then some (.bZ {val:=qR (min news.length n),dx:=[(lv,sl,some (.box aq (splice cs off ((news.take (min news.length n)).flatten.map .d))))],cU:=[],rd:=bX lv sl::cX (y.ev s.slots)})else none|none=>none
  |.ref lv sl aq off ln sz',some news=>match rowAt s.mem lv sl aq with|some els=>if sz'=sz/\off+ln<=els.length/\news.all (λe=>e.length==sz)then some (.bZ {val:=qR (min news.length ln),dx:=[(lv,sl,some (.row aq (splice els off (news.take (min news.length ln)))))],cU:=[],rd:=bX lv sl::cX (y.ev s.slots)})else none|none=>none
  |_,_=>none
 |.makeSlice sz bytes z l c=>match gX (l.ev s.slots),gX (c.ev s.slots)with|some l,some c=>if l<=c/\bytes*c<=jA/\c<=eW/\z.length=sz then some (.bZ {val:=.ref (ij s.mem.length dst) dst aR 0 l sz,dx:=[(ij s.mem.length dst,dst,some (.row aR (List.replicate l z)))],cU:=[],rd:=[]})else none|_,_=>none
 |.makeFunc f cap=>if(AB s.slots cap).all jT then fy.pure (.fK f (AB s.slots cap))else none|.call f args=>match Nat.ble 1099511627776 row with|true=>qC call (row%4294967296) (TU (s.mem.length-1) 4 (row/1099511627776)) (if H7 1023 4 (row/1099511627776)then aas (AB s.slots args)else[]) s (ij s.mem.length dst) dst aR f (AB s.slots args)|false=>match Nat.beq row 7with|true=>lK call s f (AB s.slots args)|false=>match Nat.beq row 8with|true=>rU call s f (AB s.slots args)|false=>match Nat.beq row 9with|true=>oW call s aR f (AB s.slots args)|false=>match Nat.beq row 10with|true=>oX call s aR f (AB s.slots args)|false=>gZ call (sh f) row s (ij s.mem.length dst) dst aR f (AB s.slots args)
 |.xu f args=>match Nat.ble 1099511627776 row with|true=>qC call (row%4294967296) (TU (s.mem.length-1) 4 (row/1099511627776)) (if H7 1023 4 (row/1099511627776)then aas (AB s.slots args)else[]) s (ij s.mem.length dst) dst aR f (AB s.slots args)|false=>match sh f with|true=>gZ call true row s (ij s.mem.length dst) dst aR f (AB s.slots args)|false=>lK call s f (AB s.slots args)
 |.AA x args=>match x.ev s.slots with|.fK f cap=>gZ call (sh f) row s (ij s.mem.length dst) dst aR f (AB s.slots args++cap)|_=>none
def ju(s:Tr AV)(o:bI):Option Bool:=match o.gd with|none=>some true|some (g,b)=>match dW s g with|.d (.sc (.bool t))=>some (t==b)|.fu _=>some false|_=>none
def aeJ(row:Nat):Nat:=row%4294967296+row/1099511627776*1099511627776
def aeK(row d aR:Nat):Nat:=match Nat.ble 4294967296 (row%1099511627776)with|true=>1048576+aR|false=>d
def bI.step(call:Call)(sh:Nat->Bool)(s:St)(aR:Nat)(o:bI):Option iu:=match ju s.slots o with|none=>none|some true=>o.op.run call sh s (aeJ o.row) (aeK o.row (o.dst.getD 0) aR) aR|some false=>fy.pure kP
def jB(call:Call)(sh:Nat->Bool)(mE:Nat):Nat->List bI->St->Option St|_,[],s=>some s|i,o::r,s=>match o.step call sh s (mE+i)with|none=>none|some e=>jB call sh mE (i+1) r (s.app o.dst e)
def meets(a b:List (Nat×Nat×Nat)):Bool:=a.any λk=>b.contains k
def xx:iu->Bool|.bZ e=>!(e.rd.isEmpty&&e.dx.isEmpty&&e.cU.isEmpty)|.all ..=>true
def within(kp kr:List (Nat×Nat))(e:fy):Bool:=(e.rd.all λk=>(kp++kr).any λp=>k==bX p.1 p.2)&&e.wr.all λk=>kp.any λp=>k==bX p.1 p.2
def tL:iu->iu->Bool|.bZ a,.bZ b=>meets a.rd b.wr||meets a.wr b.rd||meets a.wr b.wr|.all _ _ _ _ kp kr,.bZ b=>!within kp kr b|.bZ a,.all _ _ _ _ kp kr=>!within kp kr a|.all ..,.all ..=>true
def clear(oV:Nat)(e:iu):List (Nat×iu)->Bool|[]=>true|(i,x)::r=>(oV.testBit i||!tL x e)&&clear oV e r
def j9(call:Call)(sh:Nat->Bool)(mE:Nat):Nat->List bI->List (Nat×iu)->St->Option St|_,[],_,s=>some s|i,o::r,eT,s=>match o.step call sh s (mE+i)with|none=>none|some e=>match clear o.oV e eT with|true=>j9 call sh mE (i+1) r ((i,e)::eT) (s.app o.dst e)|false=>none
def gF(call:Call)(sh:Nat->Bool)(ops:List bI)(draw:Bool)(s:St):Option St:=let s':={s with nv:=s.nv+ops.length};match draw with|false=>jB call sh s.nv 0 ops s'|true=>j9 call sh s.nv 0 ops [] s'
inductive AX where|normal|exit(id:Nat)|ret deriving Inhabited
def exec(call:Call)(sh:Nat->Bool):Nat->AC->St->Option (AX×St)|0,_,_=>none|n+1,c,s=>match c with
 |.skip=>some (.normal,s)|.region ops draw=>(gF call sh ops draw s).map λs'=>(.normal,s')|.seq a b=>match exec call sh n a s with|some (.normal,s')=>exec call sh n b s'|r=>r
 |.cond c a b=>match jS (c.ev s.slots)with|some true=>exec call sh n a s|some false=>exec call sh n b s|none=>none
 |.block id c=>match exec call sh n c s with
  |some (.exit id',s')=>match Nat.beq id' id with|true=>some (.normal,s')|false=>some (.exit id',s')
  |r=>r
 |.loop c=>match exec call sh n c s with|some (.normal,s')=>exec call sh n (.loop c) s'|r=>r
 |.exit id=>some (.exit id,s)|.ret=>some (.ret,s)
def JZ(s:St):BR->Option AV
 |.t n=>match fY (dW s.slots n)with|true=>some (dW s.slots n)|false=>none
 |.cell n sz agg=>(tc s.mem sz (dW s.slots n)).bind (iJ agg)
def ke(s:St):List BR->Option (List AV)|[]=>some []|x::r=>match JZ s x,ke s r with|some y,some ys=>some (y::ys)|_,_=>none
def jv:List AV->AV|[v]=>v|vs=>.fu vs
def eA:Nat->List AV->Tr AV->Tr AV|_,[],t=>t|i,x::r,t=>eA (i+1) r (t.set i (some x))
def aat(Fs:Nat->Option qA):Nat->Call|0,_,_,_,_,_=>none|n+1,f,args,mem,aI,nv=>match Fs f with|none=>none|some fn=>match Nat.beq args.length fn.np with|false=>none|true=>match exec (aat Fs n) (λg=>((Fs g).map (·.sh)).getD false) n fn.body {slots:=eA 0 args .lf,mem,aI,nv}with|some (.normal,s)|some (.ret,s)=>(ke s fn.res).map λvs=>(jv vs,s.mem,s.aI,s.nv)|_=>none
def jl:Value->Option AV
 |.slice none 0 0=>some (.own [] .full)|.slice _ _ _=>none|.agg _=>none|.tuple _=>none|.func fn first cap=>match fn with|.func f=>if first.size=0/\cap.size=0then some (.fK f [])else none|_=>none
 |v=>some (.d (.sc v))
def gu:List Value->Option (List AV)|[]=>some []|v::r=>match jl v,gu r with|some x,some xs=>some (x::xs)|_,_=>none
def wh:Value->Option AV|.agg cs=>(gu cs.toList).map .agg|.tuple vs=>if vs.size=0then some (.fu [])else none|v=>jl v
def wj:Value->Option D|.slice none 0 0=>some (.sl [])|.slice _ _ _=>none|.agg _=>none|.tuple _=>none|.func _ _ _=>none|v=>some (.sc v)
def jU:List Value->Option (List D)|[]=>some []|v::r=>match wj v,jU r with|some x,some xs=>some (x::xs)|_,_=>none
def dH:Operand->Option cx|.tmp t=>some (.t t)|.const v=>(wh v).map .c|.func f=>some (.c (.fK f []))|.global _=>none
def jy:List Operand->Option (List cx)|[]=>some []|x::r=>match dH x,jy r with|some y,some ys=>some (y::ys)|_,_=>none
def rW:Option Operand->Option (Option cx)|none=>some none|some x=>(dH x).map some
def oY(P:Program)(t:TypeId):Option Bool:=match P.underlying t with|some (.struct _)|some (.array _ _)=>some true|some _=>some false|none=>none
def oZ(P:Program)(t:TypeId):Option (List Value):=(P.info? t).bind λi=>i.zero.map λv=>v.cells.toList
def ec(P:Program)(t:TypeId):Option Nat:=(P.info? t).map (·.size)
def qb(P:Program):Nat->TypeId->Nat->Option (List (Nat×Nat))|0,_,_=>none|n+1,t,off=>match ec P t,P.underlying t with|some 1,some .bool=>some [(off,0)]|some 1,some (.int _)=>some [(off,1)]|some 1,some .string=>some [(off,2)]|some sz,some (.struct fs)=>if P.stoodInHeld t then none else fs.toList.foldr (λf acc=>match acc,ec P f.type with|some l,some fz=>if f.name= "_"\/sz<f.offset+fz then none else(qb P n f.type (off+f.offset)).map (·++l)|_,_=>none) (some [])|_,_=>none
def tM(place:Nat->Option (Nat×Nat)):List (Nat×Operand)->Option (List (Nat×Nat×cx))|[]=>some []|(i,x)::r=>match place i,dH x,tM place r with|some (off,sz),some y,some ys=>some ((off,sz,y)::ys)|_,_,_=>none
def H8(P:Program)(fs:Array Field):Option (List (Nat×Nat)):=fs.toList.mapM λf=>(P.info? f.type).map λi=>(f.offset,i.size)
def qc:List (Nat×Operand)->Option (List (Nat×cx))|[]=>some []|(i,x)::r=>match dH x,qc r with|some y,some ys=>some ((i,y)::ys)|_,_=>none
def PC(P:Program)(op:BinOp)(neg:Bool)(t:TypeId)(x y:cx):Option cG:=match P.underlying t with
 |some .bool=>some (.eqb neg x y)|some (.int _)|some .string=>some (.bin op x y)|some (.slice _)=>some .bad|some (.interface _)=>match y with|.c (.d (.sc .nilIface))=>some (.Az neg x)|_=>none
 |some (.struct _)=>if P.eqGuardType P.depth t then none else match qb P 20 t 0,ec P t with|some l,some sz=>some (.Q8 neg sz l x y)|_,_=>none
 |_=>none
def tN(P:Program)(t:TypeId):Option (Nat×Nat):=match P.underlying t with
 |some (.slice e)=>match P.info? e,oZ P e with|some i,some z=>if 0<i.size/\z.length=i.size then some (i.size,i.bytes)else none|_,_=>none
 |_=>none
def TY(P:Program):Nat->TypeId->Bool|0,_=>false|n+1,t=>match P.underlying t with|some .bool|some (.int _)|some .string=>true|some (.struct fs)=>fs.toList.all λf=>TY P n f.type|some (.array _ e)=>TY P n e|_=>false
def aj1(P:Program)(f:Nat):Bool:=match P.funcs[f]?with|some fn=>fn.resultTypes.toList.all (TY P 20)|none=>false
def ash(P:Program)(f:Nat):Bool:=match P.funcs[f]?with
 |some fn=>match fn.params.toList with
  |t::_=>match P.underlying t with|some (.pointer _)=>true|_=>false
  |[]=>false
 |none=>false
def TZ(P:Program)(dy:Nat->Option TypeId)(c:Go.Call):Option cG:=match c.callee with
 |.value (.func f)=>match dy f,c.args.toList with
  |some t,[x]=>match Nat.beq t 1000000with|true=>(dH x).map .sort|false=>match Nat.beq t 1000001with|true=>(dH x).map .compact|false=>match tN P t,dH x with|some (sz,xp),some x=>some (.clone sz xp x)|_,_=>none
  |some _,_=>none|none,_=>match aj1 P f&&!ash P f with|true=>(jy c.args.toList).map (.xu f)|false=>(jy c.args.toList).map (.call f)
 |.value (.tmp t)=>(jy c.args.toList).map (.AA (.t t))|.value _=>none|.invoke _ _=>none|.builtin b=>match b,c.args.toList,c.argTypes.toList with
  |.len,[x],[t]=>match P.underlying t with
   |some (.slice _)=>(dH x).map .len|some .string=>(dH x).map .HW|some (.array n _)=>some (.Ft n)|some (.pointer e)=>match P.underlying e with|some (.array n _)=>some (.Ft n)|_=>none
   |_=>none
  |.append,[x,y],[t,u]=>match P.underlying t,P.underlying u with|some (.slice e),some (.int _)=>(match tN P t,(oZ P e).bind jU,dH x,dH y with|some (sz,xp),some z,some x,some y=>if z.length=sz then some (.qa sz xp z x y)else none|_,_,_,_=>none)|_,some (.int _)=>none|_,some (.slice _)=>(match tN P t,dH x,dH y with|some (sz,xp),some x,some y=>some (.append sz xp x y)|_,_,_=>none)|_,some .string=>(match tN P t,dH x,dH y with|some (sz,xp),some x,some y=>some (.append sz xp x y)|_,_,_=>none)|_,_=>none
  |.copy,[x,y],[t,_]=>match P.underlying t with
   |some (.slice e)=>match P.info? e,dH x,dH y with|some i,some x,some y=>if 0<i.size then some (.copy i.size x y)else none|_,_,_=>none
   |_=>none
  |.clear,[x],[t]=>match P.underlying t with
   |some (.slice e)=>match ec P e,(oZ P e).bind jU,dH x with|some sz,some z,some x=>if z.length=sz/\0<sz then some (.clear sz z x)else none|_,_,_=>none
   |_=>none
  |.cap,[x],[t]=>match P.underlying t with|some (.slice _)=>(dH x).map .JT|_=>none
  |.min,[x,y],_=>match dH x,dH y with|some x,some y=>some (.HX x y)|_,_=>none
  |.max,[x,y],_=>match dH x,dH y with|some x,some y=>some (.HY x y)|_,_=>none
  |_,_,_=>none
def Fk(P:Program)(dy:Nat->Option TypeId):Go.Op->Option cG
 |.move x|.assign x=>(dH x).map .JS|.pick c a b=>match dH c,dH a,dH b with|some c,some a,some b=>some (.pick c a b)|_,_,_=>none
 |.alloc t=>(oZ P t).bind λz=>(gu z).map .alloc|.box _ x=>(dH x).map .box|.build t ps=>match oZ P t,P.underlying t with
  |some z,some (.struct fs)=>match gu z,H8 P fs with|some z,some pl=>(tM (pl.toArray[·]?) ps.toList).map (.build z)|_,_=>none
  |some z,some (.array _ e)=>match gu z,ec P e with|some z,some sz=>(tM (λi=>some (i*sz,sz)) ps.toList).map (.build z)|_,_=>none
  |_,_=>none
 |.buildSlice t n ps=>match P.underlying t with
  |some (.slice e)=>match ec P e,(oZ P e).bind jU,qc ps.toList with|some sz,some z,some l=>if n*sz<=16777216/\z.length=sz/\0<sz then some (.buildSlice sz n z l)else none|_,_,_=>none
  |_=>none
 |.load t x=>match ec P t,oY P t,dH x with|some sz,some agg,some x=>if agg\/sz=1then some (.load sz agg x)else none|_,_,_=>none
 |.store t x v=>match ec P t,dH x,dH v with|some sz,some x,some v=>some (.store sz x v)|_,_,_=>none
 |.nilCheck x=>(dH x).map .nilCheck|.binOp op t x y _=>match dH x,dH y with
  |some x,some y=>match op with|.eql=>PC P op false t x y|.neq=>PC P op true t x y|op=>some (.bin op x y)
  |_,_=>none
 |.unOp op _ x=>(dH x).map (.un op)|.convert src dst x=>match P.underlying src,P.underlying dst with
  |some _,some (.int k)=>(dH x).map (.conv k)|some (.slice e),some .string=>match P.underlying e with|some (.int .u8)=>(dH x).map .b2s|_=>none
  |some .string,some (.slice e)=>match P.underlying e with|some (.int .u8)=>(dH x).map .s2b|_=>none
  |_,_=>none
 |.field t x f=>match P.underlying t with
  |some (.struct fs)=>match fs[f]?with
   |some f=>match ec P f.type,oY P f.type,dH x with|some sz,some agg,some x=>if agg\/sz=1then some (.field f.offset sz agg x)else none|_,_,_=>none
   |none=>none
  |_=>none
 |.fieldAddr t x f=>match P.underlying t with
  |some (.struct fs)=>match fs[f]?with
   |some f=>match ec P f.type,dH x with|some sz,some x=>if sz=0then none else some (.fieldAddr f.offset x)|_,_=>none
   |none=>none
  |_=>none
 |.indexAddr t x i=>match P.underlying t with
  |some (.slice e)=>match ec P e,dH x,dH i with|some sz,some x,some i=>if sz=0then none else some (.indexAddr sz x i)|_,_,_=>none
  |some (.array n e)=>match ec P e,dH x,dH i with|some sz,some x,some i=>some (.lG n sz x i)|_,_,_=>none
  |_=>none
 |.index t x i=>match P.underlying t with
  |some (.array n e)=>match ec P e,oY P e,dH x,dH i with|some sz,some agg,some x,some i=>if agg\/sz=1then some (.rQ n sz agg x i)else none|_,_,_,_=>none
  |some .string=>match dH x,dH i with|some x,some i=>some (.rR x i)|_,_=>none
  |_=>none
 |.slice t x lo hi mx=>match P.underlying t with
  |some (.slice e)=>match ec P e,dH x,rW lo,rW hi,rW mx with|some sz,some x,some lo,some hi,some mx=>if sz=0\/(mx.isSome/\hi.isNone)then none else some (.slice sz x lo hi mx)|_,_,_,_,_=>none
  |some (.array n e)=>match lo,hi,mx,ec P e,dH x with|none,none,none,some sz,some x=>if n=0then none else some (.sliceB n sz x)|some (.const (.int .i64 k)),none,none,some sz,some x=>if 0<=k then some (.tH k.toNat n sz x)else none|_,_,_,_,_=>none
  |some .string=>match dH x,rW lo,rW hi,mx with|some x,some lo,some hi,none=>some (.rS x lo hi)|_,_,_,_=>none
  |_=>none
 |.extract x i=>(dH x).map λx=>.extract x i|.makeFunc fn first cap=>match fn with|.func f=>if first.size=0then(jy cap.toList).map (.makeFunc f)else none|_=>none
 |.makeSlice t l c=>match P.underlying t with
  |some (.slice e)=>match P.info? e,(oZ P e).bind jU,dH l,dH c with|some i,some z,some l,some c=>if 0<i.size then some (.makeSlice i.size i.bytes z l c)else none|_,_,_,_=>none
  |_=>none
 |.makeMap t none=>match P.underlying t with
  |some (.map k e)=>match P.underlying k,P.underlying e with|some .string,some .bool=>some .mkSet|_,_=>none
  |_=>none
 |.lookup t m x false=>match P.underlying t with
  |some (.map k e)=>match P.underlying k,(P.info? e).bind (·.zero),dH m,dH x with|some .string,some (.bool false),some m,some x=>some (.JU m x)|_,_,_,_=>none
  |_=>none
 |.mapUpdate t m x v=>match v,P.underlying t with
  |.const (.bool true),some (.map k _)=>match P.underlying k,dH m,dH x with|some .string,some m,some x=>some (.JV m x)|_,_,_=>none
  |_,_=>none
 |.call c=>TZ P dy c|.panic _=>some .bad|.makeInterface _ _=>some .bad|_=>none
def gdP(ops:Array Oper):Option (Nat×Bool)->Option (Option (Nat×Bool))|none=>some none|some (j,b)=>((ops[j]?).bind (·.dst)).map λd=>some (d,b)
def adh(P:Program)(dy:Nat->Option TypeId)(nt:Nat)(rows:List (Nat×Nat))(ops:Array Oper)(oV:Nat)(o:Oper):Option bI:=match Fk P dy o.op,gdP ops o.guard with|some a,some g=>if(o.dst.getD 0)<nt then some {dst:=o.dst,op:=a,gd:=g,oV:=oV,row:=(rows.lookup (o.dst.getD 0)).getD 0}else none|_,_=>none
def zj(P:Program)(dy:Nat->Option TypeId)(nt:Nat)(rows:List (Nat×Nat))(ops:Array Oper):List (Oper×Nat)->Option (List bI)|[]=>some []|(o,b)::r=>match adh P dy nt rows ops b o,zj P dy nt rows ops r with|some a,some aL=>some (a::aL)|_,_=>none
def cG.jy:cG->List cx|.JS x|.box x|.Az _ x|.nilCheck x|.un _ x|.conv _ x|.field _ _ _ x|.fieldAddr _ x|.extract x _|.len x|.HW x|.JT x|.b2s x|.s2b x|.sliceB _ _ x|.tH _ _ _ x|.clear _ _ x|.clone _ _ x|.sort x|.compact x|.load _ _ x=>[x]|.pick a b c=>[a,b,c]|.build _ ps=>ps.map (·.2.2)|.buildSlice _ _ _ ps=>ps.map (·.2)|.store _ x y|.bin _ x y|.eqb _ x y|.Q8 _ _ _ x y|.indexAddr _ x y|.lG _ _ x y|.rQ _ _ _ x y|.rR x y|.HX x y|.HY x y|.append _ _ x y|.qa _ _ _ x y|.copy _ x y|.makeSlice _ _ _ x y|.grow _ x y|.JU x y|.JV x y=>[x,y]|.slice _ x a b c=>x::(a.toList++b.toList++c.toList)|.rS x a b=>x::(a.toList++b.toList)|.makeFunc _ l|.call _ l|.xu _ l=>l|.AA x l=>x::l|.alloc _|.Ft _|.mkSet|.bad=>[]
def cx.slot:cx->List Nat|.t n=>[n]|.c _=>[]
def bI.looks(o:bI):List Nat:=o.op.jy.flatMap cx.slot++(match o.gd with|some (g,_)=>[g]|none=>[])
def Nq(l:List Nat)(n:Nat):Bool:=l.any λm=>Nat.beq m n
def CE(d:Option Nat)(y:bI):Bool:=match d with|some d=>!Nq y.looks d|none=>true
def PD(d e:Option Nat):Bool:=match d,e with|some d,some e=>!Nat.beq d e|_,_=>true
def bI.apart(x y:bI):Bool:=CE x.dst y&&CE y.dst x&&PD x.dst y.dst
def B6(y:bI):Nat->List bI->Bool|_,[]=>true|i,x::r=>(y.oV.testBit i||x.apart y)&&B6 y (i+1) r
def nG(eT:List bI):List bI->Bool|[]=>true|y::r=>B6 y 0 eT&&nG (eT++[y]) r
def Edge.H9(e:Edge):Bool:=Region.binds .any e
def aj2(eT:List Nat)(o:Oper):Nat:=o.after.toList.foldl (λb e=>if Edge.H9 e then(b|||(1<<<e.on))|||eT.getD e.on 0 else b) 0
def aj3(eT:List Nat):List Oper->List Nat|[]=>eT|o::r=>aj3 (eT++[aj2 eT o]) r
def Ia(oV:List Nat)(i:Nat)(o:Oper)(b:Nat):Bool:=(o.after.toList.all λe=>!Edge.H9 e||Nat.blt e.on i)&&(List.range i).all λj=>!b.testBit j||o.after.toList.any λe=>Edge.H9 e&&(Nat.beq e.on j||(Nat.blt j e.on&&(oV.getD e.on 0).testBit j))
def FU(oV:List Nat):Nat->List Oper->List Nat->Bool|_,[],_=>true|i,o::r,b::bs=>Ia oV i o b&&FU oV (i+1) r bs|_,_::_,[]=>false
def aau(P:Program)(dy:Nat->Option TypeId)(nt:Nat)(rows:List (Nat×Nat))(ops:Array Oper)(draw:Bool):Option AC:=match draw with|false=>(zj P dy nt rows ops (ops.toList.map λo=>(o,0))).map λl=>.region l false|true=>let b:=aj3 [] ops.toList;match b.length==ops.size&&FU b 0 ops.toList b,zj P dy nt rows ops (ops.toList.zip b)with|true,some l=>if nG [] l then some (.region l true)else none|_,_=>none
def gb:Nat:=4294967296
def gid(l:Nat):Nat:=gb+2*l
def BU(l:Nat):Nat:=gb+2*l+1
def leaves(p:Nat->Bool):AC->Bool|.seq a b=>leaves p a&&leaves p b|.cond _ a b=>leaves p a&&leaves p b|.block _ c=>leaves p c|.loop c=>leaves p c|.exit id=>p id|_=>true
def aeL:Code->Option Nat|.label l=>some l|_=>none
def adi:Code->Option Nat
 |.seq a b=>match aeL a with|some l=>some l|none=>adi b
 |_=>none
def T0(l:Nat)(c:AC):Option AC:=match leaves (λid=>Nat.blt id gb||Nat.beq id (gid l)) c with|true=>some (.block (BU l) (.loop (.block (gid l) (.seq c (.exit (BU l))))))|false=>none
def eB(P:Program)(dy:Nat->Option TypeId)(nt:Nat)(rows:List (Nat×Nat)):Code->Option Nat->Option AC
 |.seq a b,some l=>match aeL a with
  |some l'=>match Nat.beq l' l,eB P dy nt rows b none with|true,some c=>T0 l c|_,_=>none
  |none=>match findLabel a l,eB P dy nt rows a none,eB P dy nt rows b (some l)with|none,some a,some b=>if leaves (λid=>Nat.blt id gb) a then some (.seq a b)else none|_,_,_=>none
 |.skip,none=>some .skip|.region _ ops draw,none=>aau P dy nt rows ops draw|.seq a b,none=>match eB P dy nt rows a none,eB P dy nt rows b none with|some a,some b=>some (.seq a b)|_,_=>none
 |.cond c a b,none=>match dH c,eB P dy nt rows a none,eB P dy nt rows b none with|some c,some a,some b=>some (.cond c a b)|_,_,_=>none
 |.block id c,none=>match Nat.blt id gb with|true=>(eB P dy nt rows c none).map (.block id)|false=>none
 |.loop c,none=>(eB P dy nt rows c none).map .loop|.exit id,none=>match Nat.blt id gb with|true=>some (.exit id)|false=>none
 |.goto l,none=>some (.exit (gid l))|.scope c,none=>match adi c with|some l=>eB P dy nt rows c (some l)|none=>none
 |.ret,none=>some .ret|_,_=>none
def T1(P:Program)(dy:Nat->Option TypeId)(nt:Nat)(rows:List (Nat×Nat))(c:Code):Option AC:=eB P dy nt rows c none
def aeM(P:Program):ResultVar->Option BR|.tmp t=>some (.t t)|.cell a t=>match ec P t,oY P t with|some sz,some agg=>if agg\/sz=1then some (.cell a sz agg)else none|_,_=>none
def FV(P:Program):List ResultVar->Option (List BR)|[]=>some []|x::r=>match aeM P x,FV P r with|some y,some ys=>some (y::ys)|_,_=>none
structure Mode where rows:List (Nat×Nat)sh:Bool deriving Inhabited
def Q9(P:Program)(dy:Nat->Option TypeId)(md:Nat->Mode)(f:Nat):Option qA:=match P.funcs[f]?with|none=>none|some fn=>match fn.body with|none=>none|some c=>if fn.name== "runtime.NumGoroutine"then none else match T1 P dy fn.ntmps (md f).rows c,FV P fn.results.toList with|some b,some rs=>let np:=fn.params.size+fn.nfree;if np<=fn.ntmps then some {np,nt:=fn.ntmps,res:=rs,body:=b,sh:=(md f).sh}else none|_,_=>none
def Nr(_:Nat):Prop:=False
def gok(_:World):Prop:=True
def FX{w w':World}(_:∀b,Nr b->w'.heap[b]?=w.heap[b]?)(_:gok w):gok w':=trivial
end Go.bL
namespace Go.bL
open Go Go.RowKit
def beq_true{a b:Nat}:Nat.beq a b=true↔a=b:=by simp_all
def beq_false{a b:Nat}:Nat.beq a b=false↔a≠b:=by rw[<-rb,beq_true]
def Tr.T3{α:Type}:∀(f:Nat)(t:Tr α)(n m:Nat)(x:Option α),n<f->(Tr.vH f t n x).get? m=if n=m then x else t.get? m:=by intro f;induction f with|zero=>omega|succ f ih=>
 intro t n m x h;have aAf:∀k,t.get? k=if k=0then t.top else if k%2=1then t.left.get? (k/2)else t.right.get? (k/2-1):=by intro k;cases t with|lf=>simp[Tr.get?,Tr.top,Tr.left,Tr.right]|nd v l r=>simp[Tr.get?,Tr.top,Tr.left,Tr.right];cases h0:Nat.beq k 0with|true=>simp_all|false=>have:=beq_false.1 h0;cases h1:Nat.beq (k%2) 1with|true=>simp_all|false=>simp[this,beq_false.1 h1]
 have aAg:∀(v:Option α)(l r:Tr α)k,(Tr.nd v l r).get? k=if k=0then v else if k%2=1then l.get? (k/2)else r.get? (k/2-1):=by intro v l r k;simp[Tr.get?];cases h0:Nat.beq k 0with|true=>simp_all|false=>have:=beq_false.1 h0;cases h1:Nat.beq (k%2) 1with|true=>simp_all|false=>simp[this,beq_false.1 h1]
 simp[Tr.vH];cases h0:Nat.beq n 0with|true=>have h0:=beq_true.1 h0<;>grind|false=>have h0:=beq_false.1 h0;cases h1:Nat.beq (n%2) 1with|true=>have h1:=beq_true.1 h1<;>grind|false=>have h1:=beq_false.1 h1<;>grind
def Tr.cL{α:Type}(t:Tr α)(n m:Nat)(x:Option α):(t.set n x).get? m=if n=m then x else t.get? m:=Tr.T3 _ _ _ _ _ (by omega)
@[simp]theorem Tr.asi{α:Type}(n:Nat):(Tr.lf:Tr α).get? n=none:=rfl
theorem cQ(m:List (Tr bu))(lv sl cC cW:Nat)(e:Option bu):aG (bJ m lv sl e) cC cW=if lv=cC/\sl=cW/\lv<m.length then e else aG m cC cW:=by
 unfold aG bJ;rw[List.getElem?_modify];by_cases h:lv=cC;.subst h;cases hm:m[lv]?with|none=>grind|some t=>
  have:lv<m.length:=by grind
  simp[Tr.cL,this]
 grind
structure Loc where
 b:Nat
 o:Nat
 sz:Nat
 cap:Nat
structure Cx where
 w:World
 F:Nat->Nat->Prop
 ρ:Nat->Option Loc
 old:Nat->Prop
inductive DR(w:World)(F:Nat->Nat->Prop):D->Value->Prop|sc(v:Value)(h1:v.oneCell'=true):DR w F (.sc v) v|er(v:Value)(h1:∃t p,v=.iface t p):DR w F .er v|sl(els:List (List D))(a:Option Addr)(n cap sz b o:Nat)(g:Nat->Nat->Value)(hn:els.length=n)(hcap:n<=cap)(hsz:∀e∈els,e.length=sz)(ha:0<n->a=some ⟨b,o,none⟩)(hF:∀i e j x,els[i]?=some e->e[j]?=some x->F b (o+i*sz+j))(hc:∀i e j x,els[i]?=some e->e[j]?=some x->w.cell? ⟨b,o+i*sz+j,none⟩=some (g i j))(hr:∀i e j x,els[i]?=some e->e[j]?=some x->DR w F x (g i j)):DR w F (.sl els) (.slice a n cap)
def DR.one{w:World}{F:Nat->Nat->Prop}{x:D}{v:Value}(h:DR w F x v):v.oneCell'=true:=by cases h with|sc _ h1=>exact h1|er _ h1=>obtain⟨_,_,rfl⟩:=h1;rfl|sl=>rfl
def eO(w:World)(F R:Nat->Nat->Prop)(els:List (List D))(b o sz:Nat):Prop:=(∀e∈els,e.length=sz)/\∀i e j x,els[i]?=some e->e[j]?=some x->R b (o+i*sz+j)/\∃v,w.cell? ⟨b,o+i*sz+j,none⟩=some v/\DR w F x v
def DR.gI{w:World}{F:Nat->Nat->Prop}{els:List (List D)}{b o sz n cap:Nat}{a:Option Addr}(h:eO w F F els b o sz)(hn:els.length=n)(hcap:n<=cap)(ha:0<n->a=some ⟨b,o,none⟩):DR w F (.sl els) (.slice a n cap):=by classical let g:Nat->Nat->Value:=λi j=>(w.cell? ⟨b,o+i*sz+j,none⟩).getD (.bool false);refine .sl els a n cap sz b o g hn hcap h.1 ha (λi e j x h1 h2=>(h.2 i e j x h1 h2).1) (λi e j x h1 h2=>?_) (λi e j x h1 h2=>?_)<;>grind[eO]
def DR.aav{w:World}{F:Nat->Nat->Prop}{els:List (List D)}{v:Value}(h:DR w F (.sl els) v):∃a cap sz b o,v=.slice a els.length cap/\els.length<=cap/\(0<els.length->a=some ⟨b,o,none⟩)/\eO w F F els b o sz:=by cases h with|sl _ a n cap sz b o g hn hcap hsz ha hF hc hr=>subst hn;exact⟨a,cap,sz,b,o,rfl,hcap,ha,hsz,λi e j x h1 h2=>⟨hF i e j x h1 h2,_,hc i e j x h1 h2,hr i e j x h1 h2⟩⟩
def aD{α β:Type}(R:α->β->Prop):List α->List β->Prop|[],[]=>True|a::l,b::m=>R a b/\aD R l m|_,_=>False
def aD.length{α β:Type}{R:α->β->Prop}:∀{l:List α}{m:List β},aD R l m->l.length=m.length|[],[],_=>rfl|_::_,_::_,h=>by simp[aD.length h.2]|[],_::_,h=>h.elim|_::_,[],h=>h.elim
def aD.get{α β:Type}{R:α->β->Prop}:∀{l:List α}{m:List β},aD R l m->∀(i:Nat)(a:α),l[i]?=some a->∃b,m[i]?=some b/\R a b|[],[],_,i,a,h=>by simp at h|a::l,b::m,h,0,x,hx=>⟨b,rfl,by grind[aD]⟩|a::l,b::m,h,i+1,x,hx=>by simpa using aD.get h.2 i x (by simpa using hx)|[],_::_,h,_,_,_=>h.elim|_::_,[],h,_,_,_=>h.elim
def aD.mono{α β:Type}{R S:α->β->Prop}(TF:∀a b,R a b->S a b):∀{l:List α}{m:List β},aD R l m->aD S l m|[],[],_=>trivial|_::_,_::_,h=>⟨TF _ _ h.1,aD.mono TF h.2⟩|[],_::_,h=>h.elim|_::_,[],h=>h.elim
def aD.tO{α β:Type}{R:α->β->Prop}:∀{l:List α}{m:List β},l.length=m.length->(∀(i:Nat)(a:α)(b:β),l[i]?=some a->m[i]?=some b->R a b)->aD R l m|[],[],_,_=>trivial|a::l,b::m,hl,h=>⟨h 0 a b rfl rfl,aD.tO (by grind) λi x y hx hy=>h (i+1) x y (by grind) (by grind)⟩|[],_::_,hl,_=>by grind|_::_,[],hl,_=>by grind
def aD.take{α β:Type}{R:α->β->Prop}{l:List α}{m:List β}(h:aD R l m)(k:Nat):aD R (l.take k) (m.take k):=by
 refine .tO (by simp[h.length]) λi a b ha hb=>?_;rw[fx]at ha hb;split at ha;.obtain⟨b',hb',hr⟩:=h.get i a ha<;>grind
 grind
def aD.drop{α β:Type}{R:α->β->Prop}{l:List α}{m:List β}(h:aD R l m)(k:Nat):aD R (l.drop k) (m.drop k):=by refine .tO (by simp[h.length]) λi a b ha hb=>?_;rw[pd]at ha hb;obtain⟨b',hb',hr⟩:=h.get _ a ha<;>grind
def aD.append{α β:Type}{R:α->β->Prop}:∀{l l':List α}{m m':List β},aD R l m->aD R l' m'->aD R (l++l') (m++m')|[],_,[],_,_,h=>h|_::_,_,_::_,_,h,h'=>⟨h.1,aD.append h.2 h'⟩|[],_,_::_,_,h,_=>h.elim|_::_,_,[],_,h,_=>h.elim
def CF(X:Cx):AV->Value->Prop|.d x,v=>DR X.w X.F x v|.own els .full,v=>∃a b o sz,v=.slice a els.length els.length/\(0<els.length->a=some ⟨b,o,none⟩)/\eO X.w X.F X.F els b o sz|.own els (.cU aq tz),v=>∃a b o sz cap,v=.slice a els.length cap/\els.length<=cap/\(0<cap->a=some ⟨b,o,none⟩)/\eO X.w X.F X.F els b o sz/\X.ρ aq=some ⟨b,o+els.length*sz,sz,cap-els.length⟩/\sz=tz|.own els .bD,v=>∃a b o sz cap,v=.slice a els.length cap/\els.length<=cap/\(0<els.length->a=some ⟨b,o,none⟩)/\eO X.w X.F (λb _=>X.old b) els b o sz|.ref _ _ aq off n sz,v=>∃L a cap,X.ρ aq=some L/\L.sz=sz/\v=.slice a n cap/\n<=cap/\(0<cap->a=some ⟨L.b,L.o+off*sz,none⟩/\off+cap<=L.cap)|.ptr _ _ aq i off,v=>∃L,X.ρ aq=some L/\v=.pointer (some ⟨L.b,L.o+i*L.sz+off,none⟩)|.dz _ _ aq off n sz,v=>∃L cap,X.ρ aq=some L/\v=.slice (some ⟨L.b,L.o+off,none⟩) n cap/\n<=cap/\0<n/\(n<cap->off+cap*sz<=L.sz)|.e9 e off,v=>∃b o,v=.pointer (some ⟨b,o+off,none⟩)/\∀j x,e[j]?=some x->(X.F b (o+j)\/X.old b)/\∃u,X.w.cell? ⟨b,o+j,none⟩=some u/\DR X.w X.F x u|.mp _ _ aq,v=>∃L,X.ρ aq=some L/\v=.map (some L.b)|_,_=>False
def VC(X:Cx):AV->Value->Prop|.fK f cap,v=>∃vs,v=.func (.func f) #[] vs/\aD (CF X) cap vs.toList|x,v=>CF X x v
def V1(X:Cx):AV->Value->Prop|.agg cs,v=>∃vs,v=.agg vs/\aD (VC X) cs vs.toList|x,v=>VC X x v
def VR(X:Cx):AV->Value->Prop|.fu xs,v=>∃vs,v=.tuple vs/\aD (V1 X) xs vs.toList|x,v=>V1 X x v
def CF.one{X:Cx}{x:AV}{v:Value}(h:CF X x v):v.oneCell'=true:=by cases x with
 |d x=>exact DR.one h|own els o=>cases o<;>(obtain⟨_,_,_,_,h⟩:=h)<;>first|(obtain⟨rfl,_⟩:=h;rfl)|(obtain⟨_,rfl,_⟩:=h;rfl)
 |ref=>obtain⟨_,_,_,_,_,rfl,_⟩:=h;rfl|ptr=>obtain⟨_,_,rfl⟩:=h;rfl|dz=>obtain⟨_,_,_,rfl,_⟩:=h;rfl|e9=>obtain⟨_,_,rfl,_⟩:=h;rfl|mp=>obtain⟨_,_,rfl⟩:=h;rfl|_=>exact h.elim
def VC.one{X:Cx}{x:AV}{v:Value}(h:VC X x v):v.oneCell'=true:=by cases x with|fK f c=>obtain⟨_,rfl,_⟩:=h;rfl|_=>simp only[VC]at h;exact CF.one h
structure fC(old:Nat->Prop)(w w':World):Prop where
 os:w'.os=w.os
 tape:w'.tape=w.tape
 output:w'.output=w.output
 size:w.heap.size<=w'.heap.size
 block:∀k,old k->w'.heap[k]?=w.heap[k]?
def fC.toBelow{n:Nat}{w w':World}(h:fC (λb=>b<n) w w'):Below n w w':=⟨h.os,h.tape,h.output,h.size,h.block⟩
def fC.refl(old:Nat->Prop)(w:World):fC old w w:=⟨rfl,rfl,rfl,bc _,λ_ _=>rfl⟩
def fC.trans{old:Nat->Prop}{a b c:World}(h:fC old a b)(k:fC old b c):fC old a c:=⟨k.os.trans h.os,k.tape.trans h.tape,k.output.trans h.output,m9 h.size k.size,λi hi=>(k.block i hi).trans (h.block i hi)⟩
def fC.mono{old old':Nat->Prop}{w w':World}(h:fC old w w')(ho:∀b,old' b->old b):fC old' w w':=⟨h.os,h.tape,h.output,h.size,λk hk=>h.block k (ho k hk)⟩
def fC.drew{old:Nat->Prop}{a w:World}(h:fC old a w):fC old a w.drew:=⟨h.os,h.tape,h.output,h.size,h.block⟩
def fC.alloc{old:Nat->Prop}{a w:World}(h:fC old a w)(hB:∀b,old b->b<w.heap.size)(o:Obj):fC old a (w.alloc o):=h.trans ⟨rfl,rfl,rfl,by simp,λk hk=>Go.RowKit.Below.heap_alloc _ _ _ (hB k hk)⟩
def fC.cell{old:Nat->Prop}{w w':World}(h:fC old w w'){p:Addr}(hp:old p.block):w'.cell? p=w.cell? p:=World.cell?_of_block (w:=w) (h.block p.block hp)
def fC.setRow{old:Nat->Prop}{g:Nat}{w0 w:World}(hb:fC old w0 w)(hg:¬old g)(cs:Array Value):fC old w0 (w.setRow g cs):=hb.trans ⟨rfl,rfl,rfl,by simp_all,λk hk=>setRow_other w g k cs (λe=>hg (e▸hk))⟩
structure Ext(X Y:Cx):Prop where
 base:Y.old=X.old
 below:fC X.old X.w Y.w
 T4:∀b o,X.F b o->Y.F b o
 keep:∀b o,X.F b o->Y.w.cell? ⟨b,o,none⟩=X.w.cell? ⟨b,o,none⟩loc:∀v L,X.ρ v=some L->Y.ρ v=some L
 new:∀b o,Y.F b o->X.F b o\/¬X.old b
def Ext.refl(X:Cx):Ext X X:=⟨rfl,fC.refl _ _,λ_ _ h=>h,λ_ _ _=>rfl,λ_ _ h=>h,λ_ _ h=>.inl h⟩
def Ext.trans{X Y Z:Cx}(h:Ext X Y)(k:Ext Y Z):Ext X Z:=⟨k.base.trans h.base,h.below.trans (h.base▸k.below),λb o hb=>k.T4 b o (h.T4 b o hb),λb o hb=>(k.keep b o (h.T4 b o hb)).trans (h.keep b o hb),λv L hv=>k.loc v L (h.loc v L hv),λb o hb=>(k.new b o hb).elim (h.new b o) λhb=>.inr (h.base▸hb)⟩
def DR.ext{X Y:Cx}(hx:Ext X Y){x:D}{v:Value}(h:DR X.w X.F x v):DR Y.w Y.F x v:=by induction h with|sc v h1=>exact .sc v h1|er v h1=>exact .er v h1|sl els a n cap sz b o g hn hcap hsz ha hF hc _ ih=>exact .sl els a n cap sz b o g hn hcap hsz ha (λi e j x h1 h2=>hx.T4 _ _ (hF i e j x h1 h2)) (λi e j x h1 h2=>(hx.keep _ _ (hF i e j x h1 h2)).trans (hc i e j x h1 h2)) ih
def eO.ext{X Y:Cx}(hx:Ext X Y){els:List (List D)}{b o sz:Nat}(h:eO X.w X.F X.F els b o sz):eO Y.w Y.F Y.F els b o sz:=⟨h.1,λi e j x h1 h2=>by obtain⟨hF,v,hv,hd⟩:=h.2 i e j x h1 h2;exact⟨hx.T4 _ _ hF,v,(hx.keep _ _ hF).trans hv,hd.ext hx⟩⟩
def Ext.FY{X Y:Cx}(hx:Ext X Y){b:Nat}(h:X.old b)(o:Nat):Y.w.cell? ⟨b,o,none⟩=X.w.cell? ⟨b,o,none⟩:=hx.below.cell (p:=⟨b,o,none⟩) h
def CF.ext{X Y:Cx}(hx:Ext X Y){x:AV}{v:Value}(h:CF X x v):CF Y x v:=by cases x with
 |d x=>exact DR.ext hx h|own els o=>cases o with|full=>obtain⟨a,b,o,sz,hv,ha,hl⟩:=h;exact⟨a,b,o,sz,hv,ha,hl.ext hx⟩|cU aq tz=>obtain⟨a,b,o,sz,cap,hv,hc,ha,hl,hr,hz⟩:=h;exact⟨a,b,o,sz,cap,hv,hc,ha,hl.ext hx,hx.loc _ _ hr,hz⟩|bD=>obtain⟨a,b,o,sz,cap,hv,hc,ha,hl⟩:=h;refine⟨a,b,o,sz,cap,hv,hc,ha,hl.1,λi e j x h1 h2=>?_⟩;obtain⟨hF,v,hv,hd⟩:=hl.2 i e j x h1 h2;exact⟨by simpa[hx.base]using hF,v,(hx.FY hF _).trans hv,hd.ext hx⟩
 |ref lv sl aq off n sz=>obtain⟨L,a,cap,hr,h⟩:=h;exact⟨L,a,cap,hx.loc _ _ hr,h⟩|ptr lv sl aq i off=>obtain⟨L,hr,h⟩:=h;exact⟨L,hx.loc _ _ hr,h⟩|dz lv sl aq off n sz=>obtain⟨L,cap,hr,h⟩:=h;exact⟨L,cap,hx.loc _ _ hr,h⟩|mp lv sl aq=>obtain⟨L,hr,h⟩:=h;exact⟨L,hx.loc _ _ hr,h⟩|e9 e off=>
  obtain⟨b,o,hv,h⟩:=h;refine⟨b,o,hv,λj x hj=>?_⟩;obtain⟨hF,u,hu,hd⟩:=h j x hj;refine⟨hF.imp (hx.T4 _ _) (λh=>by simpa[hx.base]using h),u,?_,hd.ext hx⟩;rcases hF with hF|hF;.exact(hx.keep _ _ hF).trans hu
  .exact(hx.FY hF _).trans hu|_=>exact h
def VC.ext{X Y:Cx}(hx:Ext X Y){x:AV}{v:Value}(h:VC X x v):VC Y x v:=by cases x with|fK f c=>obtain⟨vs,hv,h⟩:=h;exact⟨vs,hv,h.mono λ_ _=>CF.ext hx⟩|_=>simp only[VC]at h⊢;exact CF.ext hx h
def V1.ext{X Y:Cx}(hx:Ext X Y){x:AV}{v:Value}(h:V1 X x v):V1 Y x v:=by cases x with|agg cs=>obtain⟨vs,hv,h⟩:=h;exact⟨vs,hv,h.mono λ_ _=>VC.ext hx⟩|_=>simp only[V1]at h⊢;exact VC.ext hx h
def VR.ext{X Y:Cx}(hx:Ext X Y){x:AV}{v:Value}(h:VR X x v):VR Y x v:=by cases x with|fu cs=>obtain⟨vs,hv,h⟩:=h;exact⟨vs,hv,h.mono λ_ _=>V1.ext hx⟩|_=>simp only[VR]at h⊢;exact V1.ext hx h
def bu.aq:bu->Nat|.row v _=>v|.box v _=>v|.Ni v _=>v|.mp v _=>v
def bu.fz:bu->Bool|.Ni _ _=>true|_=>false
def Block(X:Cx)(b n:Nat):Prop:=¬X.old b/\∃c e,X.w.heap[b]?=some (.cells c e (0,0))/\n<=c.size
def Ib(es:Array MapEntry)(ks:List (List UInt8)):Prop:=es.toList.map (λe=>(e.key,e.val))=ks.map λl=>(Value.string (od l),Value.bool true)
def ou(X:Cx):bu->Loc->Prop|.row _ els,L=>els.length<=L.cap/\(∀e∈els,e.length=L.sz)/\(0<L.cap->Block X L.b (L.o+L.cap*L.sz)/\(∀o,¬X.F L.b o))/\∀i e j x,els[i]?=some e->e[j]?=some x->∃v,X.w.cell? ⟨L.b,L.o+i*L.sz+j,none⟩=some v/\DR X.w X.F x v|.box _ cells,L=>L.cap=1/\Block X L.b (L.o+max cells.length L.sz)/\(∀o,¬X.F L.b o)/\∀j x,cells[j]?=some x->∃v,X.w.cell? ⟨L.b,L.o+j,none⟩=some v/\VC X x v|.Ni _ els,L=>els.length<=L.cap/\eO X.w X.F X.F els L.b L.o L.sz|.mp _ ks,L=>L.cap=1/\¬X.old L.b/\(∀o,¬X.F L.b o)/\∃es clock,X.w.heap[L.b]?=some (.map es clock)/\Ib es ks
def T5(X:Cx)(L:Loc):Prop:=0<L.cap->Block X L.b (L.o+L.cap*L.sz)/\∀o,L.o<=o->¬X.F L.b o
def Holds(m:List (Tr bu))(t:Tr Unit)(k:Nat×Nat×Nat)(v:Nat):Prop:=(∃lv sl e,k=bX lv sl/\aG m lv sl=some e/\e.aq=v/\e.fz=false)\/(k=kq v/\t.get? v=some ())
structure Low(X:Cx):Prop where
 lt:∀b,X.old b->b<X.w.heap.size
 gb:∀b,Nr b->X.old b
 gk:gok X.w
def Low.ext{X Y:Cx}(h:Low X)(hx:Ext X Y):Low Y:=⟨by rw[hx.base];exactλb hb=>iv (h.lt b hb) hx.below.size,λb hb=>by rw[hx.base];exact h.gb b hb,FX (λb hb=>hx.below.block b (h.gb b hb)) h.gk⟩
structure aH(X:Cx)(m:List (Tr bu))(t:Tr Unit):Prop where
 fI:∀lv sl e,aG m lv sl=some e->∃L,X.ρ e.aq=some L/\ou X e L
 aI:∀v,t.get? v=some ()->∃L,X.ρ v=some L/\T5 X L
 apart:∀k k' v v' L L',Holds m t k v->Holds m t k' v'->k≠k'->X.ρ v=some L->X.ρ v'=some L'->0<L.cap->0<L'.cap->L.b≠L'.b
 nH:∀b o,X.F b o->b<X.w.heap.size
 p8:Low X
def aH.low{X:Cx}{m:List (Tr bu)}{t:Tr Unit}(h:aH X m t):∀b,X.old b->b<X.w.heap.size:=h.p8.lt
def aH.fresh{X:Cx}{m:List (Tr bu)}{t:Tr Unit}(h:aH X m t):¬X.old X.w.heap.size:=λq=>mn _ (h.low _ q)
def Block.lt{X:Cx}{b n:Nat}(h:Block X b n):b<X.w.heap.size:=by grind[Block]
def Block.cell{X:Cx}{b n:Nat}(h:Block X b n)(o:Nat)(ho:o<n):∃v,X.w.cell? ⟨b,o,none⟩=some v:=by obtain⟨_,c,e,h,hn⟩:=h;rw[cell_of_row _ _ _ _ _ _ h];exact⟨_,pt (by omega)⟩
def aH.congr{X:Cx}{m m':List (Tr bu)}{t t':Tr Unit}(h:aH X m t)(hm:∀lv sl,aG m' lv sl=aG m lv sl)(ht:∀v,t'.get? v=t.get? v):aH X m' t':=by
 have hh:∀k v,Holds m' t' k v->Holds m t k v:=by grind[Tr.get?,aG,Holds]
 exact⟨λlv sl e he=>h.fI lv sl e ((hm lv sl)▸he),λv hv=>h.aI v ((ht v)▸hv),λk k' v v' L L' a b=>h.apart k k' v v' L L' (hh _ _ a) (hh _ _ b),h.nH,h.p8⟩
def aH.less{X:Cx}{m m':List (Tr bu)}{t t':Tr Unit}(h:aH X m t)(hm:∀lv sl e,aG m' lv sl=some e->aG m lv sl=some e)(ht:∀v,t'.get? v=some ()->t.get? v=some ()):aH X m' t':=by
 have hh:∀k v,Holds m' t' k v->Holds m t k v:=by grind[Tr.get?,aG,Holds]
 exact⟨λlv sl e he=>h.fI lv sl e (hm _ _ _ he),λv hv=>h.aI v (ht _ hv),λk k' v v' L L' a b=>h.apart k k' v v' L L' (hh _ _ a) (hh _ _ b),h.nH,h.p8⟩
def aH.move{X Y:Cx}{m:List (Tr bu)}{t:Tr Unit}(h:aH X m t)(hx:Ext X Y)(hb:∀k v L,Holds m t k v->X.ρ v=some L->0<L.cap->Y.w.heap[L.b]?=X.w.heap[L.b]?)(hF:∀k v L o,Holds m t k v->X.ρ v=some L->0<L.cap->Y.F L.b o->X.F L.b o)(hin:∀b o,Y.F b o->b<Y.w.heap.size):aH Y m t:=by
 have blk:∀b n,Y.w.heap[b]?=X.w.heap[b]?->Block X b n->Block Y b n:=by rintro b n he⟨h1,c,e,h2,h3⟩;exact⟨by rw[hx.base];exact h1,c,e,by rw[he];exact h2,h3⟩
 have cel:∀b o,Y.w.heap[b]?=X.w.heap[b]?->Y.w.cell? ⟨b,o,none⟩=X.w.cell? ⟨b,o,none⟩:=by intro b o he;simp[World.cell?,he]
 refine⟨λlv sl e he=>?_,λv hv=>?_,λk k' v v' L L' a b hne hv nh=>?_,hin,?_⟩
 .obtain⟨L,hL,hE⟩:=h.fI lv sl e he;have hk:e.fz=false->Holds m t (bX lv sl) e.aq:=λhz=>.inl ⟨lv,sl,e,rfl,he,rfl,hz⟩
  refine⟨L,hx.loc _ _ hL,?_⟩;cases e with|Ni v els=>exact⟨hE.1,hE.2.ext hx⟩|mp v ks=>
   have hk:=hk rfl;obtain⟨h1,h2,h3,es,clock,h4,h5⟩:=hE;have hc:0<L.cap:=by omega
   exact⟨h1,by rw[hx.base];exact h2,λo ho=>h3 o (hF _ _ _ _ hk hL hc ho),es,clock,(hb _ _ _ hk hL hc).trans h4,h5⟩|row v els=>
   have hk:=hk rfl;obtain⟨h1,h2,h3,h4⟩:=hE;refine⟨h1,h2,λhc=>⟨blk _ _ (hb _ _ _ hk hL hc) (h3 hc).1,λo ho=>(h3 hc).2 o (hF _ _ _ _ hk hL hc ho)⟩,λi e j x hi hj=>?_⟩;have hc:0<L.cap:=by have:i<els.length:=(ci.1 hi).1;omega
   obtain⟨u,hu,hd⟩:=h4 i e j x hi hj;exact⟨u,(cel _ _ (hb _ _ _ hk hL hc)).trans hu,hd.ext hx⟩|box v cells=>
   have hk:=hk rfl;obtain⟨h1,h2,h3,h4⟩:=hE;have hc:0<L.cap:=by omega
   refine⟨h1,blk _ _ (hb _ _ _ hk hL hc) h2,λo ho=>h3 o (hF _ _ _ _ hk hL hc ho),λj x hj=>?_⟩;obtain⟨u,hu,hd⟩:=h4 j x hj;exact⟨u,(cel _ _ (hb _ _ _ hk hL hc)).trans hu,hd.ext hx⟩
 .obtain⟨L,hL,hT⟩:=h.aI v hv;have hk:Holds m t (kq v) v:=.inr ⟨rfl,hv⟩;exact⟨L,hx.loc _ _ hL,λhc=>⟨blk _ _ (hb _ _ _ hk hL hc) (hT hc).1,λo ho hf=>(hT hc).2 o ho (hF _ _ _ _ hk hL hc hf)⟩⟩
 .have ho:∀k v,Holds m t k v->∃L,X.ρ v=some L:=by
   rintro k v(⟨lv,sl,e,_,he,rfl,_⟩|⟨_,he⟩);.obtain⟨L,hL,_⟩:=h.fI lv sl e he;exact⟨L,hL⟩
   .obtain⟨L,hL,_⟩:=h.aI v he;exact⟨L,hL⟩
  obtain⟨M,hM⟩:=ho _ _ a;obtain⟨M',kR⟩:=ho _ _ b;rw[hx.loc _ _ hM]at hv;rw[hx.loc _ _ kR]at nh;simp_all;subst hv;subst nh;exact h.apart k k' v v' M M' a b hne hM kR
 .exact h.p8.ext hx
def aH.erase{X:Cx}{m:List (Tr bu)}{t:Tr Unit}(h:aH X m t)(lv sl:Nat):aH X (bJ m lv sl none) t:=h.less (λcC cW e he=>by rw[cQ]at he<;>grind) λ_ h=>h
def aH.Ns{X:Cx}{m:List (Tr bu)}{t:Tr Unit}(h:aH X m t)(v:Nat):aH X m (t.set v none):=h.less (λ_ _ _ h=>h) λv' he=>by rw[Tr.cL]at he<;>grind
def xz{a b c d:Nat}(h:bX a b=bX c d):a=c/\b=d:=by simpa[bX]using h
def dX{a b c:Nat}:bX a b≠kq c:=by simp[bX,kq]
def aH.add{X:Cx}{m:List (Tr bu)}{t:Tr Unit}{lv sl:Nat}{e:bu}{L:Loc}(h:aH X m t)(hL:X.ρ e.aq=some L)(hE:ou X e L)(hap:∀k v M,Holds m t k v->k≠bX lv sl->X.ρ v=some M->0<M.cap->0<L.cap->M.b≠L.b):aH X (bJ m lv sl (some e)) t:=by
 have hh:∀k v,Holds (bJ m lv sl (some e)) t k v->(k=bX lv sl/\v=e.aq)\/(k≠bX lv sl/\Holds m t k v):=by
  rintro k v(⟨cC,cW,e',hk,he,hv⟩|⟨hk,he⟩)
  .rw[cQ]at he;split at he;.subst_vars;simp_all
   .by_cases hke:k=bX lv sl
    .rename_i hc;rw[hk]at hke;obtain⟨rfl,rfl⟩:=xz hke;exfalso;apply hc;refine⟨rfl,rfl,?_⟩;unfold aG at he;rcases ii cC m.length with hl|hl;.exact hl
     .rw[eI hl]at he;cases he
    .exact .inr ⟨hke,.inl ⟨cC,cW,e',hk,he,hv⟩⟩
  .exact .inr ⟨by rw[hk];exactλh=>dX h.symm,.inr ⟨hk,he⟩⟩
 refine⟨λcC cW e' he=>?_,h.aI,λk k' v v' M M' a b hne hv nh hc Fl=>?_,h.nH,h.p8⟩
 .rw[cQ]at he;split at he;.simp_all
  .exact h.fI cC cW e' he
 .rcases hh _ _ a with⟨rfl,rfl⟩|⟨hk,a⟩
  .rcases hh _ _ b with⟨rfl,rfl⟩|⟨hk',b⟩;.exact absurd rfl hne
   .rw[hL]at hv;cases hv;exact(hap _ _ _ b hk' nh Fl hc).symm
  .rcases hh _ _ b with⟨rfl,rfl⟩|⟨hk',b⟩;.rw[hL]at nh;cases nh;exact hap _ _ _ a hk hv hc Fl
   .exact h.apart k k' v v' M M' a b hne hv nh hc Fl
def aH.aaw{X:Cx}{m:List (Tr bu)}{t:Tr Unit}{v:Nat}{L:Loc}(h:aH X m t)(hL:X.ρ v=some L)(hE:T5 X L)(hap:∀k u M,Holds m t k u->k≠kq v->X.ρ u=some M->0<M.cap->0<L.cap->M.b≠L.b):aH X m (t.set v (some ())):=by
 have hh:∀k u,Holds m (t.set v (some ())) k u->(k=kq v/\u=v)\/(k≠kq v/\Holds m t k u):=by
  rintro k u(⟨cC,cW,e',hk,he,hv⟩|⟨hk,he⟩);.exact .inr ⟨by rw[hk];exact dX,.inl ⟨cC,cW,e',hk,he,hv⟩⟩
  .rw[Tr.cL]at he<;>grind[Tr.set,Tr.get?,T5,Holds,kq]
 refine⟨h.fI,λu hu=>?_,λk k' u u' M M' a b hne hv nh hc Fl=>?_,h.nH,h.p8⟩
 .rw[Tr.cL]at hu;split at hu;.subst_vars;exact⟨L,hL,hE⟩
  .exact h.aI u hu
 .rcases hh _ _ a with⟨ek,ev⟩|⟨hk,a⟩
  .rcases hh _ _ b with⟨ek',ev'⟩|⟨hk',b⟩;.exact absurd (ek.trans ek'.symm) hne
   .rw[ev,hL]at hv;cases hv;exact(hap _ _ _ b hk' nh Fl hc).symm
  .rcases hh _ _ b with⟨ek',ev'⟩|⟨hk',b⟩;.rw[ev',hL]at nh;cases nh;exact hap _ _ _ a hk hv hc Fl
   .exact h.apart k k' u u' M M' a b hne hv nh hc Fl
def VR.sc{X:Cx}{u v:Value}(h:VR X (.d (.sc u)) v):v=u:=by cases h;rfl
def VR.CG{X:Cx}{v:Value}(h:v.oneCell'=true):VR X (.d (.sc v)) v:=DR.sc v h
def VR.nC{X:Cx}{v:Value}(h:v.oneCell'=true):VR X (nC v) v:=DR.sc v h
def xA{X:Cx}{v:Value}{x:AV}(h:jl v=some x):VC X x v:=by cases v with
 |slice a n c=>
    simp[jl]at h;split at h;.rename_i hv;cases hv;cases h;exact⟨none,0,0,0,rfl,λh=>absurd h (by simp),by simp,λi e j x h=>by simp at h⟩
    all_goals first|(cases h;done)|simp_all
 |agg cs=>simp[jl]at h|tuple cs=>simp[jl]at h|func fn first cap=>
    simp only[jl]at h;split at h
    . split at h;.rename_i h0;cases h;obtain⟨h1,h2⟩:=h0;rw[Array.size_eq_zero_iff]at h1 h2;subst h1;subst h2;exact⟨#[],rfl,trivial⟩
      grind
    grind|_=>simp only[jl]at h;injection h with h;subst h;exact DR.sc _ rfl
def ni{X:Cx}:∀{vs:List Value}{xs:List AV},gu vs=some xs->aD (VC X) xs vs
 |[],xs,h=>by grind[gu,VC,aD]|v::r,xs,h=>by
  simp[gu]at h;split at h;.rename_i x xs' h1 h2;cases h;exact⟨xA h1,ni h2⟩
  grind
def VR.k9{X:Cx}{x:AV}{v:Value}(h:VC X x v):VR X x v:=by cases x with|agg cs=>exact h.elim|fu cs=>exact h.elim|_=>exact h
def VR.vM{X:Cx}{x:AV}{v:Value}(h:V1 X x v):VR X x v:=by cases x with|fu cs=>exact h.elim|_=>exact h
def V1.k9{X:Cx}{x:AV}{v:Value}(h:VC X x v):V1 X x v:=by cases x with|agg cs=>exact h.elim|_=>exact h
def Ra{X:Cx}{v:Value}{x:AV}(h:wh v=some x):VR X x v:=by cases v with
 |agg cs=>simp only[wh]at h;cases hc:gu cs.toList with|none=>grind|some xs=>rw[hc]at h;cases h;exact⟨cs,rfl,ni hc⟩
 |tuple vs=>
  simp only[wh]at h;split at h;.rename_i h0;simp at h0;cases h;subst h0;exact⟨#[],rfl,trivial⟩
  grind|_=>exact .k9 (xA h)
def o6{X:Cx}:VR X kP undef:=⟨#[],rfl,trivial⟩
structure NT where
 n:Nat
 ds:List Deferred
instance:Coe NT Nat:=⟨NT.n⟩
structure fM(X:Cx)(nt:NT)(s:St)(a:Act):Prop where
 slots:∀t,VR X (dW s.slots t) (a.tmps.getD t undef)size:a.tmps.size=nt.n
 defers:a.defers=nt.ds
 mem:aH X s.mem s.aI
def bE{X:Cx}{nt:NT}{s:St}{a:Act}(hs:fM X nt s a){x:Operand}{y:cx}(h:dH x=some y):VR X (y.ev s.slots) (a.eval x):=by cases x with
 |tmp t=>simp[dH]at h;subst h;exact hs.slots t|const v=>cases hc:wh v with|none=>simp[dH,hc]at h|some x=>simp[dH,hc]at h;subst h;exact Ra hc
 |func f=>simp[dH]at h;subst h;exact⟨#[],rfl,trivial⟩|global g=>simp[dH]at h
def xB{X:Cx}{nt:NT}{s:St}{a:Act}(hs:fM X nt s a):∀{xs:List Operand}{ys:List cx},jy xs=some ys->aD (VR X) (AB s.slots ys) (xs.map a.eval)
 |[],ys,h=>by grind[jy,AB,VR,aD]|x::r,ys,h=>by
  simp[jy]at h;split at h;.rename_i y ys' h1 h2;cases h;exact⟨bE hs h1,xB hs h2⟩
  grind
def o7{X:Cx}{x:AV}{v:Value}{b:Bool}(h:jS x=some b)(hv:VR X x v):v=.bool b:=by
 unfold jS at h;split at h;.cases h;exact hv.sc
 grind
def FZ{X:Cx}{x:AV}{v:Value}{n:Int}(h:tJ x=some n)(hv:VR X x v):∃k,v=.int k n:=by
 unfold tJ at h;split at h;.cases h;exact⟨_,hv.sc⟩
 grind
def ld{X:Cx}{x:AV}{v:Value}{n:Nat}(h:gX x=some n)(hv:VR X x v):∃k,v=.int k (n:Int):=by unfold gX at h;cases hi:tJ x with|none=>grind|some m=>
 rw[hi]at h;simp only[ae]at h;split at h;.obtain⟨k,hk⟩:=FZ hi hv<;>grind
 grind
section
variable{P:Program}
def aax{op:BinOp}{k k':IntKind}{m n:Int}{v:Value}(t:TypeId)(w:World)(h:HZ op k m k' n=some v):(binOp op t (.int k m) (.int k' n)).run P w=.ok v w/\v.oneCell'=true:=by
 have plain:∀(f:Value),v=f->f.oneCell'=true->(binOp op t (.int k m) (.int k' n)).run P w=.ok f w->(binOp op t (.int k m) (.int k' n)).run P w=.ok v w/\v.oneCell'=true:=by grind
 by_cases hk:k=k';.subst hk;cases op<;>simp only[HZ,FR,cf,ne_eq,wc,n3]at h<;>first
      |(cases h;done)|(injection h with h;refine plain _ h.symm rfl ?_;simp[binOp,Op.intArith,Op.intBits,Op.intCmp];done)
      | (split at h;.cases h
         .rename_i hn;injection h with h;refine plain _ h.symm rfl ?_;simp[binOp,Op.intDiv,Op.shift,hn])
 .cases op<;>simp only[HZ,ne_eq,hk,not_false_eq_true,jn]at h<;>first
      |(cases h;done)
      | (split at h;.cases h
         .rename_i hn;injection h with h;refine plain _ h.symm rfl ?_;simp[binOp,Op.shift,hn])
def aay{op:BinOp}{x y:ByteArray}{v:Value}(t:TypeId)(w:World)(h:Np op x y=some v):(binOp op t (.string x) (.string y)).run P w=.ok v w/\v.oneCell'=true:=by
 have hb:(binOp op t (.string x) (.string y))=Op.stringOp op x y:=by cases op<;>rfl
 rw[hb];cases op with|add=>
  simp only[Np]at h;split at h;.cases h
  .rename_i hn;cases h;exact⟨by simp only[Op.stringOp];rw[bi hn];rfl,rfl⟩|_=>simp only[Np]at h<;>first|(cases h;done)|(injection h with h;subst h;exact⟨by simp[Op.stringOp],rfl⟩)
def aaz{X:Cx}{op:BinOp}{x y:AV}{u v r:Value}(t:TypeId)(hx:VR X x u)(hy:VR X y v)(h:TQ op x y=some r):(binOp op t u v).run P X.w=.ok r X.w/\r.oneCell'=true/\((∃k m,u=.int k m)\/∃b,u=.string b):=by
 unfold TQ at h;split at h;.rw[hx.sc,hy.sc];obtain⟨h1,h2⟩:=aax (P:=P) t X.w h<;>grind
 .rw[hx.sc,hy.sc];obtain⟨h1,h2⟩:=aay (P:=P) t X.w h<;>grind
 grind
def kz{op:BinOp}{t:TypeId}{x y:Operand}{u v:Value}{w:World}(h1:u≠.nilIface)(h2:∀c,u≠.agg c):(eqGuard op t x y u v).run P w=.ok () w:=by cases u<;>first|(exact absurd rfl h1)|(exact absurd rfl (h2 _))|(cases op<;>rfl)
def xC(xs ys:List AV):∀(l m:List (Nat×Nat)),nB xs ys (l++m)=match nB xs ys l with|some true=>nB xs ys m|r=>r
 |[],m=>rfl|o::l,m=>by simp[nf,nB];cases xs[o.1]?with|none=>rfl|some x=>cases ys[o.1]?with|none=>rfl|some y=>simp;cases JW o.2 x y with|none=>rfl|some b=>cases b with|true=>exact xC xs ys l m|false=>rfl
def PE{X:Cx}{kd:Nat}{x y:AV}{u v:Value}{b:Bool}(h:JW kd x y=some b)(hx:VC X x u)(hy:VC X y v):(∃p q,kd=0/\u=.bool p/\v=.bool q/\b=(p==q))\/(∃k p q,kd=1/\u=.int k p/\v=.int k q/\b=(p==q))\/∃p q,2<=kd/\u=.string p/\v=.string q/\b=(p==q):=by
  unfold JW at h;split at h
  . split at h;.injection h with h;exact .inl ⟨_,_,rfl,VR.sc (.k9 hx),VR.sc (.k9 hy),h.symm⟩
    grind
  . split at h
    . split at h;.subst_vars;injection h with h;exact .inr (.inl ⟨_,_,_,rfl,VR.sc (.k9 hx),VR.sc (.k9 hy),h.symm⟩)
      grind
    grind
  . split at h;.cases h
    .cases h
    .injection h with h;refine .inr (.inr ⟨_,_,?_,VR.sc (.k9 hx),VR.sc (.k9 hy),h.symm⟩)<;>grind
  grind
def Rb{X:Cx}{xs ys:List AV}{us vs:Array Value}(hx:aD (VC X) xs us.toList)(hy:aD (VC X) ys vs.toList){off kd:Nat}{b:Bool}(h:nB xs ys [(off,kd)]=some b):∃u v,us[off]?=some u/\vs[off]?=some v/\((∃p q,kd=0/\u=.bool p/\v=.bool q/\b=(p==q))\/(∃k p q,kd=1/\u=.int k p/\v=.int k q/\b=(p==q))\/∃p q,2<=kd/\u=.string p/\v=.string q/\b=(p==q)):=by
  simp[nB]at h;split at h
  . rename_i x y h1 h2;obtain⟨u,hu,hxu⟩:=hx.get _ _ h1;obtain⟨v,hv,hyv⟩:=hy.get _ _ h2;refine⟨u,v,by simpa using hu,by simpa using hv,?_⟩;split at h;.rename_i h3;cases h;exact PE h3 hxu hyv
    .rename_i h3;cases h;exact PE h3 hxu hyv
    grind
  grind
def Nt{X:Cx}{xs ys:List AV}{us vs:Array Value}(hx:aD (VC X) xs us.toList)(hy:aD (VC X) ys vs.toList)(w:World):∀(n:Nat)(t:TypeId)(off:Nat)(l:List (Nat×Nat))(sz d:Nat)(b:Bool)(A B:Array Value)(o:Nat),qb P n t off=some l->ec P t=some sz->n<=d->nB xs ys l=some b->(∀j,j<sz->A[o+j]?=us[off+j]?)->(∀j,j<sz->B[o+j]?=vs[off+j]?)->∃p q,(part t A o).run P w=.ok p w/\(part t B o).run P w=.ok q w/\(Op.equalIn d t p q).run P w=.ok b w:=by intro n;induction n with|zero=>intro t off l sz d b A B o h;cases h|succ n ih=>
    intro t off l sz d b A B o h hsz hd hb hA hB;obtain⟨i,hi,hs⟩:∃i,P.info? t=some i/\i.size=sz:=by unfold ec at hsz;cases hi:P.info? t with|none=>rw[hi]at hsz;cases hsz|some i=>rw[hi]at hsz;exact⟨i,rfl,by simpa using hsz⟩
    obtain⟨d,rfl⟩:∃e,d=e+1:=⟨d-1,by omega⟩;simp only[qb,hsz]at h;have basic:∀kd,nB xs ys [(off,kd)]=some b->sz=1->(isAgg t).run P w=.ok false w->(∀p q,kd=0->(Op.equalIn (d+1) t (.bool p) (.bool q)).run P w=.ok (p==q) w)->(∀k p q,kd=1->(Op.equalIn (d+1) t (.int k p) (.int k q)).run P w=.ok (p==q) w)->(∀p q,2<=kd->(Op.equalIn (d+1) t (.string p) (.string q)).run P w=.ok (p==q) w)->∃p q,(part t A o).run P w=.ok p w/\(part t B o).run P w=.ok q w/\(Op.equalIn (d+1) t p q).run P w=.ok b w:=by
      intro kd he h1 AE hb0 p6 tv;obtain⟨u,v,hu,hv,hk⟩:=Rb hx hy he;have hA0:=hA 0 (by omega);have hB0:=hB 0 (by omega);simp only[fb]at hA0 hB0;rw[hu]at hA0;rw[hv]at hB0;refine⟨u,v,by simp[part,AE,hA0],by simp[part,AE,hB0],?_⟩;rcases hk with⟨p,q,hk,rfl,rfl,rfl⟩|⟨k,p,q,hk,rfl,rfl,rfl⟩|⟨p,q,hk,rfl,rfl,rfl⟩;.exact hb0 p q hk
      .exact p6 k p q hk
      .exact tv p q hk
    split at h;.rename_i h1 hu;injection h with h;subst h;refine basic 0 hb (by simpa using h1) (by simp[isAgg,run_underlying hu]) (λp q _=>by simp[Op.equalIn,run_underlying hu]) (λ_ _ _ h=>by omega) (λ_ _ h=>by omega)
    .rename_i h1 hu;injection h with h;subst h;refine basic 1 hb (by simpa using h1) (by simp[isAgg,run_underlying hu]) (λ_ _ h=>by omega) (λk p q _=>by simp[Op.equalIn,run_underlying hu]) (λ_ _ h=>by omega)
    .rename_i h1 hu;injection h with h;subst h;refine basic 2 hb (by simpa using h1) (by simp[isAgg,run_underlying hu]) (λ_ _ h=>by omega) (λ_ _ _ h=>by omega) (λp q _=>by simp[Op.equalIn,run_underlying hu])
    . rename_i sz' fs h1 hu;injection h1 with h1;subst h1;split at h;.cases h
      . rename_i hst;have hf:P.fieldsOf t=fs:=by simp[Program.fieldsOf,hu]
        refine⟨.agg (A.extract o (o+sz)),.agg (B.extract o (o+sz)),by simp[part,isAgg,run_underlying hu,sizeOf,typeInfo,hi,hs],by simp[part,isAgg,run_underlying hu,sizeOf,typeInfo,hi,hs],?_⟩;rw[run_equalIn_struct w d t _ _ (by rw[hf];exact hu) (by simpa using hst),hf];have hex:∀(C us:Array Value),(∀j,j<sz->C[o+j]?=us[off+j]?)->∀f fz,f+fz<=sz->∀j,j<fz->(C.extract o (o+sz))[f+j]?=us[off+f+j]?:=by
          intro C us hC f fz hfz j hj;rw[Array.getElem?_extract];have:=hC (f+j) (by omega);rw[<-eJ,<-eJ]at this;split;.rw[<-this,eJ]
          .rename_i hn;rw[<-this,Array.getElem?_eq_none (by omega)]
        clear basic hu hf;generalize fs.toList=fl at h;induction fl generalizing l b with|nil=>simp only[List.foldr_nil]at h;injection h with h;subst h;simp only[nB]at hb;injection hb with hb;subst hb;rfl|cons f fl ihf=>
          simp only[List.foldr_cons]at h;split at h
          . rename_i l' fz hl' hfz;split at h;.cases h
            .rename_i hn;obtain⟨hn1,hn2⟩:=sT.1 hn;cases hc:qb P n f.type (off+f.offset)with|none=>rw[hc]at h;cases h|some lf=>
             rw[hc]at h;simp only[cf]at h;injection h with h;subst h;rw[xC]at hb;have step:∀b',nB xs ys lf=some b'->(Op.eqFields d (A.extract o (o+sz)) (B.extract o (o+sz)) (f::fl)).run P w=(if(!b')=true then .ok false w else(Op.eqFields d (A.extract o (o+sz)) (B.extract o (o+sz)) fl).run P w):=by intro b' hb';obtain⟨p,q,hp,hq,he⟩:=ih f.type (off+f.offset) lf fz d b' (A.extract o (o+sz)) (B.extract o (o+sz)) f.offset hc hfz (by omega) hb' (λj hj=>hex A us hA _ fz (by omega) j hj) (λj hj=>hex B vs hB _ fz (by omega) j hj);simp[Op.eqFields,hn1,hp,hq,he]
             cases hlf:nB xs ys lf with|none=>rw[hlf]at hb;cases hb|some b'=>rw[hlf]at hb;rw[step b' hlf];cases b' with|true=>simpa using ihf l' b hb hl'|false=>simp only at hb;injection hb with hb;subst hb;rfl
          .cases h
    .cases h
def aeN{X:Cx}{t:TypeId}{l:List (Nat×Nat)}{xs ys:List AV}{u v:Value}{b:Bool}(hc:qb P 20 t 0=some l)(hg:P.eqGuardType P.depth t=false)(hst:∃fs,P.underlying t=some (.struct fs))(hx:VR X (.agg xs) u)(hy:VR X (.agg ys) v)(h:nB xs ys l=some b)(x y:Operand):∃us vs,u=.agg us/\v=.agg vs/\(∀op,(eqGuard op t x y u v).run P X.w=.ok () X.w)/\(us.size=((ec P t).getD 0)->vs.size=((ec P t).getD 0)->(Op.equal t u v).run P X.w=.ok b X.w):=by
 obtain⟨us,rfl,hx⟩:=hx;obtain⟨vs,rfl,hy⟩:=hy;refine⟨us,vs,rfl,rfl,λop=>?_,λhus hvs=>?_⟩;.unfold eqGuard;cases op<;>simp[hg]
 .obtain⟨fs,hst⟩:=hst;cases hsz:ec P t with|none=>simp[qb,hsz]at hc|some sz=>
  rw[hsz]at hus hvs;obtain⟨p,q,hp,hq,he⟩:=Nt (P:=P) hx hy X.w 20 t 0 l sz Op.maxDepth b us vs 0 hc hsz (by decide) h (λj _=>by simp) (λj _=>by simp);obtain⟨i,hi,hs⟩:∃i,P.info? t=some i/\i.size=sz:=by unfold ec at hsz;cases hi:P.info? t with|none=>rw[hi]at hsz;cases hsz|some i=>rw[hi]at hsz;exact⟨i,rfl,by simpa using hsz⟩
  have ag:∀C:Array Value,C.size=sz->(part t C 0).run P X.w=.ok (.agg C) X.w:=by intro C hC;simp[part,isAgg,run_underlying hst,sizeOf,typeInfo,hi,hs,<-hC]
  simp_all;exact he
end
def CH{w:World}{α:Type}{R:α->Value->Prop}{b o:Nat}:∀(cs:List α),(∀(j:Nat)(x:α),cs[j]?=some x->∃v,w.cell? ⟨b,o+j,none⟩=some v/\R x v)->∃vs:List Value,(∀j u,vs[j]?=some u->w.cell? ⟨b,o+j,none⟩=some u)/\aD R cs vs:=by intro cs;induction cs generalizing o with|nil=>exactλ_=>⟨[],by simp,trivial⟩|cons c cs ih=>
 intro h;obtain⟨v,hv,hr⟩:=h 0 c rfl;obtain⟨vs,h1,h2⟩:=ih (o:=o+1) λj x hj=>by obtain⟨u,hu,hr⟩:=h (j+1) x (by simpa using hj);exact⟨u,by rw[<-hu];congr 2;omega,hr⟩
 refine⟨v::vs,λj u hj=>?_,hr,h2⟩<;>grind
def fc{α:Type}{l:List α}{k n j:Nat}{x:α}(h:((l.drop k).take n)[j]?=some x):l[k+j]?=some x/\j<n:=by grind
def Ic{X:Cx}{b o off sz:Nat}{e:List D}(h:∀(j:Nat)(x:D),e[j]?=some x->∃u,X.w.cell? ⟨b,o+j,none⟩=some u/\DR X.w X.F x u):∃vs:List Value,(∀j u,vs[j]?=some u->X.w.cell? ⟨b,(o+off)+j,none⟩=some u)/\aD (VC X) (((e.drop off).take sz).map .d) vs:=by refine CH _ λj x hj=>?_;rw[fi]at hj;cases hq:((e.drop off).take sz)[j]?with|none=>grind|some y=>rw[hq]at hj;cases hj;obtain⟨u,hu,hd⟩:=h _ _ (fc hq).1;exact⟨u,by rw[<-hu,eJ],hd⟩
def J0{X:Cx}{m:List (Tr bu)}{t:Tr Unit}(hm:aH X m t){p:AV}{v:Value}{sz:Nat}{cs:List AV}(hv:VR X p v)(h:tc m sz p=some cs):∃b o vs,v=.pointer (some ⟨b,o,none⟩)/\(∀j u,vs[j]?=some u->X.w.cell? ⟨b,o+j,none⟩=some u)/\aD (VC X) cs vs/\cs.length=sz:=by
 unfold tc at h;split at h
 .rename_i lv sl aq i off;obtain⟨L,hL,rfl⟩:=hv;split at h
  .rename_i v' cells hg;split at h
   .rename_i nh hi;split at h
    .have nh:=beq_true.1 nh;have hi:=beq_true.1 hi;subst nh;obtain⟨L',hL',hE⟩:=hm.fI _ _ _ hg;have:X.ρ v'=some L':=hL';rw[hL]at this;cases this;obtain⟨h1,h2,h3,h4⟩:=hE;obtain⟨vs,g1,g2⟩:=CH (w:=X.w) (R:=VC X) (b:=L.b) (o:=L.o+off) ((cells.drop off).take sz) λj x hj=>by obtain⟨u,hu,hr⟩:=h4 _ _ (fc hj).1;exact⟨u,by rw[<-hu,eJ],hr⟩
     grind
    grind
   grind
  .rename_i v' els hg;split at h
   .rename_i nh;split at h
    .rename_i e he;split at h;.have nh:=beq_true.1 nh;subst nh;obtain⟨L',hL',hE⟩:=hm.fI _ _ _ hg;have:X.ρ v'=some L':=hL';rw[hL]at this;cases this;obtain⟨h1,h2,h3,h4⟩:=hE;obtain⟨vs,g1,g2⟩:=Ic (X:=X) (b:=L.b) (o:=L.o+i*L.sz) (off:=off) (sz:=sz) (e:=e) λj x hj=>h4 i e j x he hj<;>grind
     grind
    grind
   grind
  .rename_i v' els hg;split at h
   .rename_i nh;split at h
    .rename_i e he;split at h;.have nh:=beq_true.1 nh;subst nh;obtain⟨L',hL',hE⟩:=hm.fI _ _ _ hg;have:X.ρ v'=some L':=hL';rw[hL]at this;cases this;obtain⟨vs,g1,g2⟩:=Ic (X:=X) (b:=L.b) (o:=L.o+i*L.sz) (off:=off) (sz:=sz) (e:=e) λj x hj=>(hE.2.2 i e j x he hj).2<;>grind
     grind
    grind
   grind
  .cases h
  grind
 .rename_i e off;split at h;.obtain⟨b,o,rfl,h4⟩:=hv;obtain⟨vs,g1,g2⟩:=Ic (X:=X) (b:=b) (o:=o) (off:=off) (sz:=sz) (e:=e) λj x hj=>(h4 j x hj).2<;>grind
  grind
 grind
section
variable{P:Program}
def gp{t:TypeId}{sz:Nat}(h:ec P t=some sz):∃i,P.info? t=some i/\i.size=sz:=by simp_all[ec]
def CI{t:TypeId}{b:Bool}(h:oY P t=some b)(w:World):(isAgg t).run P w=.ok b w:=by
 unfold oY at h;split at h;.rename_i hu;cases h;simp[isAgg,run_underlying hu]
 .rename_i hu;cases h;simp[isAgg,run_underlying hu]
 .rename_i d h1 h2 hu;simp only[isAgg,Sem.run_bind,run_underlying hu,Result.andThen_ok]<;>simp_all
 grind
def CJ{X:Cx}{t:TypeId}{sz:Nat}{agg:Bool}{b o:Nat}{cs:List AV}{vs:List Value}{r:AV}(hsz:ec P t=some sz)(AE:oY P t=some agg)(h1:agg=true\/sz=1)(hc:∀j u,vs[j]?=some u->X.w.cell? ⟨b,o+j,none⟩=some u)(h2:aD (VC X) cs vs)(hl:cs.length=sz)(hr:iJ agg cs=some r):∃v,(loadVar t ⟨b,o,none⟩).run P X.w=.ok v X.w/\V1 X r v:=by
 obtain⟨i,hi,hs⟩:=gp hsz;have AE:=CI AE X.w;have Fl:∀j u,vs[j]?=some u->X.w.cell? ((⟨b,o,none⟩:Addr).add j)=some u:=λj u h=>by rw[Addr.add_lit];exact hc j u h
 cases agg with|true=>
  have hl':vs.length=sz:=by rw[<-h2.length,hl]
  have:=run_loadCells_list (P:=P) X.w ⟨b,o,none⟩ vs Fl;rw[hl']at this;cases hr;exact⟨.agg vs.toArray,by simp[loadVar,AE,sizeOf,typeInfo,hi,hs,this],vs.toArray,rfl,by simpa using h2⟩|false=>
  simp[iJ]at hr;split at hr;.simp_all;match vs,h2 with|[u],h2=>have:=hc 0 u rfl;simp at this;exact⟨u,by simp[loadVar,AE,this],.k9 h2.1⟩|[],h2=>exact h2.elim|_::_::_,h2=>exact h2.2.elim
  grind
def jV(a:Addr)(w:World):(Instr.sureAddr (.pointer (some a))).run P w=.ok a w:=rfl
def Quiet(P:Program)(X:Cx)(o:Oper)(a:Act)(val:AV):Prop:=∃v,(execOp a.eval o).run P X.w=.ok (.value v) X.w/\VR X val v
variable{X:Cx}{nt:NT}{s:St}{a:Act}
def xD(hs:fM X nt s a){o:Oper}{t:TypeId}{x:Operand}{y:cx}{sz:Nat}{agg:Bool}{cs:List AV}{r:AV}(ho:o.op=.load t x)(hsz:ec P t=some sz)(AE:oY P t=some agg)(h1:agg=true\/sz=1)(hx:dH x=some y)(hl:tc s.mem sz (y.ev s.slots)=some cs)(hr:iJ agg cs=some r):Quiet P X o a r:=by obtain⟨b,off,vs,hv,hc,h2,hlen⟩:=J0 hs.mem (bE hs hx) hl;obtain⟨v,hrun,hV⟩:=CJ (P:=P) hsz AE h1 hc h2 hlen hr;exact⟨v,by simp[execOp,ho,Instr.loadAt,hv,jV,hrun],.vM hV⟩
def B7(hs:fM X nt s a){o:Oper}{c x y:Operand}{c' x' y':cx}{b:Bool}(ho:o.op=.pick c x y)(hc:dH c=some c')(hx:dH x=some x')(hy:dH y=some y')(hb:jS (c'.ev s.slots)=some b):Quiet P X o a (if b then x'.ev s.slots else y'.ev s.slots):=by
 have:=o7 hb (bE hs hc);refine⟨if b then a.eval x else a.eval y,by simp[execOp,ho,this,asBool],?_⟩;cases b;.exact bE hs hy
 .exact bE hs hx
def aeO(hs:fM X nt s a){o:Oper}{op:BinOp}{t u:TypeId}{x y:Operand}{x' y':cx}{r:Value}(ho:o.op=.binOp op t x y u)(hx:dH x=some x')(hy:dH y=some y')(h:TQ op (x'.ev s.slots) (y'.ev s.slots)=some r):Quiet P X o a (nC r):=by
 obtain⟨h1,h2,h3⟩:=aaz (P:=P) t (bE hs hx) (bE hs hy) h;refine⟨r,?_,.nC h2⟩;have hg:(eqGuard op t x y (a.eval x) (a.eval y)).run P X.w=.ok () X.w:=by rcases h3 with⟨k,m,h3⟩|⟨m,h3⟩<;>rw[h3]<;>exact kz (by simp) (by simp)
 simp[execOp,ho,hg,h1]
def aeP(hs:fM X nt s a){o:Oper}{neg:Bool}{t u:TypeId}{x y:Operand}{x' y':cx}{p q:Bool}(ho:o.op=.binOp (if neg then .neq else .eql) t x y u)(ht:P.underlying t=some .bool)(hx:dH x=some x')(hy:dH y=some y')(hp:jS (x'.ev s.slots)=some p)(hq:jS (y'.ev s.slots)=some q):Quiet P X o a (nC (.bool (if neg then !(p==q)else p==q))):=by
 have h1:=o7 hp (bE hs hx);have h2:=o7 hq (bE hs hy);refine⟨.bool (if neg then !(p==q)else p==q),?_,.nC rfl⟩;have hg:∀op,(eqGuard op t x y (.bool p) (.bool q)).run P X.w=.ok () X.w:=λop=>kz (by simp) (by simp);have he':∀d,(Op.equalIn (d+1) t (.bool p) (.bool q)).run P X.w=.ok (p==q) X.w:=λd=>by simp[Op.equalIn,run_underlying ht]
 have he:(Op.equal t (.bool p) (.bool q)).run P X.w=.ok (p==q) X.w:=he' 9999;cases neg<;>simp[execOp,ho,h1,h2,hg,binOp,he]
def aaA{y:Operand}(h:dH y=some (.c (.d (.sc .nilIface)))):y=.const .nilIface:=by cases y with|tmp t=>simp[dH]at h|func f=>simp[dH]at h|global g=>simp[dH]at h|const v=>simp[dH]at h;cases hc:wh v with|none=>grind|some z=>
   rw[hc]at h;cases h;have key:∀{u:Value},jl u=some (.d (.sc .nilIface))->u=.nilIface:=by
    intro u hu;unfold jl at hu;split at hu;.simp at hu
    .cases hu
    .cases hu
    .cases hu
    .rename_i fn first cap;cases fn with
     |func f=>
      by_cases hz:first.size=0/\cap.size=0;.simp at hu
      .simp at hu|_=>cases hu
    .simp at hu;exact hu
   unfold wh at hc;split at hc;.obtain⟨_,_,h⟩:=fg.1 hc;simp at h
   .split at hc;.simp at hc
    .cases hc
   .rw[key hc]
def J1(hs:fM X nt s a){o:Oper}{neg:Bool}{t u:TypeId}{ms:Array (String×TypeId)}{x y:Operand}{x':cx}(ho:o.op=.binOp (if neg then .neq else .eql) t x y u)(ht:P.underlying t=some (.interface ms))(hx:dH x=some x')(hy:dH y=some (.c (.d (.sc .nilIface)))):(x'.ev s.slots=.d .er->Quiet P X o a (nC (.bool neg)))/\(x'.ev s.slots=.d (.sc .nilIface)->Quiet P X o a (nC (.bool !neg))):=by
 have hyc:=aaA hy;subst hyc;have he0:a.eval (.const .nilIface)=.nilIface:=rfl;constructor
 .intro hq;have hv:=bE hs hx;rw[hq]at hv;have h0:∃tt p,a.eval x=.iface tt p:=by revert hv;intro hv;cases hv with|er v h1=>exact h1
  obtain⟨tt,p,h1⟩:=h0;refine⟨.bool neg,?_,.nC rfl⟩;have hg:∀op,(eqGuard op t x (.const .nilIface) (.iface tt p) .nilIface).run P X.w=.ok () X.w:=λop=>kz (by simp) (by simp);have he':∀d,(Op.equalIn (d+1) t (.iface tt p) .nilIface).run P X.w=.ok false X.w:=λd=>by simp[Op.equalIn,run_underlying ht]
  have he:(Op.equal t (.iface tt p) .nilIface).run P X.w=.ok false X.w:=he' 9999;cases neg<;>simp[execOp,ho,h1,he0,hg,binOp,he]
 .intro hq;have hv:=bE hs hx;rw[hq]at hv;have h1:a.eval x=.nilIface:=by revert hv;generalize a.eval x=u;intro hv;cases hv with|sc v h1=>rfl
  refine⟨.bool !neg,?_,.nC rfl⟩;have hg:∀op,(eqGuard op t x (.const .nilIface) .nilIface .nilIface).run P X.w=.ok () X.w:=λop=>by cases op<;>simp[eqGuard]
  have he':∀d,(Op.equalIn (d+1) t .nilIface .nilIface).run P X.w=.ok true X.w:=λd=>by simp[Op.equalIn,run_underlying ht]
  have he:(Op.equal t .nilIface .nilIface).run P X.w=.ok true X.w:=he' 9999;cases neg<;>simp[execOp,ho,h1,he0,hg,binOp,he]
def T6(hs:fM X nt s a){o:Oper}{neg:Bool}{t u:TypeId}{fs:Array Field}{l:List (Nat×Nat)}{sz:Nat}{x y:Operand}{x' y':cx}{xs ys:List AV}{b:Bool}(ho:o.op=.binOp (if neg then .neq else .eql) t x y u)(ht:P.underlying t=some (.struct fs))(hg:P.eqGuardType P.depth t=false)(hc:qb P 20 t 0=some l)(hsz:ec P t=some sz)(hx:dH x=some x')(hy:dH y=some y')(h1:x'.ev s.slots=.agg xs)(h2:y'.ev s.slots=.agg ys)(h3:xs.length=sz)(h4:ys.length=sz)(hb:nB xs ys l=some b):Quiet P X o a (nC (.bool (if neg then !b else b))):=by
 have g1:=bE hs hx;have g2:=bE hs hy;rw[h1]at g1;rw[h2]at g2;have s1:∃us,a.eval x=.agg us/\us.size=sz:=by obtain⟨us,e,hh⟩:=g1;exact⟨us,e,by rw[<-h3,hh.length,f9]⟩
 have s2:∃us,a.eval y=.agg us/\us.size=sz:=by obtain⟨us,e,hh⟩:=g2;exact⟨us,e,by rw[<-h4,hh.length,f9]⟩
 obtain⟨us,vs,e1,e2,he1,he2⟩:=aeN (P:=P) hc hg ⟨fs,ht⟩ g1 g2 hb x y;obtain⟨us',e1',s1⟩:=s1;obtain⟨vs',e2',s2⟩:=s2;rw[e1]at e1';rw[e2]at e2';injection e1' with e1';injection e2' with e2';subst e1';subst e2';have he:=he2 (by rw[hsz];exact s1) (by rw[hsz];exact s2);refine⟨.bool (if neg then !b else b),?_,.nC rfl⟩;rw[e1,e2]at he1 he;cases neg<;>simp[execOp,ho,e1,e2,he1,binOp,he]
def aj6(hs:fM X nt s a){o:Oper}{op:UnOp}{t:TypeId}{x:Operand}{x':cx}{r:Value}(ho:o.op=.unOp op t x)(hx:dH x=some x')(h:unA op (x'.ev s.slots)=some r):Quiet P X o a (nC r):=by
 have hv:=bE hs hx;unfold unA at h;split at h;.rename_i hq;rw[hq]at hv;have hv:=hv.sc;cases op<;>simp only at h<;>first|(cases h;done)|(cases h;exact⟨_,by simp[execOp,ho,hv,Op.unary],.nC rfl⟩)
 .rename_i hq;rw[hq]at hv;have hv:=hv.sc;cases op<;>simp only[FR,cf]at h<;>first|(cases h;done)|(injection h with h;subst h;exact⟨_,by simp[execOp,ho,hv,Op.unary,Op.intArith,Op.intBits],.nC rfl⟩)
 grind
def aaC(hs:fM X nt s a){o:Oper}{src dst:TypeId}{k:IntKind}{x:Operand}{x':cx}{n:Int}(ho:o.op=.convert src dst x)(ht:P.underlying dst=some (.int k))(hsrc:(P.underlying src).isSome=true)(hx:dH x=some x')(h:tJ (x'.ev s.slots)=some n):Quiet P X o a (nC (.int k (k.wrap n))):=by obtain⟨k',hv⟩:=FZ h (bE hs hx);obtain⟨d,hd⟩:=Option.isSome_iff_exists.1 hsrc;refine⟨.int k (k.wrap n),?_,.nC rfl⟩;simp[execOp,ho,hv,convert,run_underlying ht,run_underlying hd,Conv.intToInt]
def Nu(hs:fM X nt s a){o:Oper}{x:Operand}{x':cx}{i:Nat}{vs:List AV}{r:AV}(ho:o.op=.extract x i)(hx:dH x=some x')(h:x'.ev s.slots=.fu vs)(hr:vs[i]?=some r):Quiet P X o a r:=by
 have hv:=bE hs hx;rw[h]at hv;obtain⟨us,e,h2⟩:=hv;obtain⟨u,hu,h3⟩:=h2.get _ _ hr;refine⟨u,?_,.vM h3⟩;have:us[i]?=some u:=by grind
 simp[execOp,ho,e,Instr.extract,this]
def PG{t:TypeId}{off sz:Nat}{agg:Bool}{cs:List AV}{us:Array Value}{r:AV}(hsz:ec P t=some sz)(AE:oY P t=some agg)(h1:agg=true\/sz=1)(hc:aD (VC X) cs us.toList)(hle:off+sz<=cs.length)(hr:iJ agg ((cs.drop off).take sz)=some r):∃v,(part t us off).run P X.w=.ok v X.w/\V1 X r v:=by obtain⟨i,hi,hs⟩:=gp hsz;have AE:=CI AE X.w;cases agg with|true=>cases hr;refine⟨.agg (us.extract off (off+sz)),by simp[part,AE,sizeOf,typeInfo,hi,hs],us.extract off (off+sz),rfl,?_⟩;have:=(hc.drop off).take sz<;>simp_all|false=>
  have hsz:sz=1:=h1.resolve_left (by simp);subst hsz;simp[iJ]at hr;split at hr
  .rename_i v hv;simp_all;subst hr;have:cs[off]?=some v:=by
    have:((cs.drop off).take 1)[0]?=some v:=by grind
    grind
   obtain⟨u,hu,h3⟩:=hc.get _ _ this;refine⟨u,?_,.k9 h3⟩;have:us[off]?=some u:=by grind
   simp[part,AE,this]
  grind
def T7(hs:fM X nt s a){o:Oper}{t:TypeId}{fs:Array Field}{f:Field}{j sz:Nat}{agg:Bool}{x:Operand}{x':cx}{cs:List AV}{r:AV}(ho:o.op=.field t x j)(ht:P.underlying t=some (.struct fs))(hf:fs[j]?=some f)(hsz:ec P f.type=some sz)(AE:oY P f.type=some agg)(h1:agg=true\/sz=1)(hx:dH x=some x')(h:x'.ev s.slots=.agg cs)(hle:f.offset+sz<=cs.length)(hr:iJ agg ((cs.drop f.offset).take sz)=some r):Quiet P X o a r:=by have hv:=bE hs hx;rw[h]at hv;obtain⟨us,e,h2⟩:=hv;obtain⟨v,hrun,hV⟩:=PG (P:=P) hsz AE h1 h2 hle hr;refine⟨v,?_,.vM hV⟩;simp[execOp,ho,e,Instr.field,run_underlying ht,hf,asAgg,hrun]
def Rc(hs:fM X nt s a){o:Oper}{t e:TypeId}{n k sz:Nat}{agg:Bool}{x i:Operand}{x' i':cx}{cs:List AV}{r:AV}(ho:o.op=.index t x i)(ht:P.underlying t=some (.array n e))(hsz:ec P e=some sz)(AE:oY P e=some agg)(h1:agg=true\/sz=1)(hx:dH x=some x')(hi:dH i=some i')(h:x'.ev s.slots=.agg cs)(hk:gX (i'.ev s.slots)=some k)(hkn:k<n)(hle:k*sz+sz<=cs.length)(hr:iJ agg ((cs.drop (k*sz)).take sz)=some r):Quiet P X o a r:=by have hv:=bE hs hx;rw[h]at hv;obtain⟨us,he,h2⟩:=hv;obtain⟨kd,hik⟩:=ld hk (bE hs hi);obtain⟨v,hrun,hV⟩:=PG (P:=P) hsz AE h1 h2 hle hr;obtain⟨j,hj,Ie⟩:=gp hsz;refine⟨v,?_,.vM hV⟩;simp[execOp,ho,he,hik,Instr.index,asIntOf,run_underlying ht,sizeOf,typeInfo,hj,Ie,hkn,hrun]
def Re(hs:fM X nt s a){o:Oper}{t:TypeId}{k:Nat}{x i:Operand}{x' i':cx}{b:ByteArray}{c:UInt8}(ho:o.op=.index t x i)(ht:P.underlying t=some .string)(hx:dH x=some x')(hi:dH i=some i')(h:x'.ev s.slots=.d (.sc (.string b)))(hk:gX (i'.ev s.slots)=some k)(hc:b.data.toList[k]?=some c):Quiet P X o a (nC (.int .u8 c.toNat)):=by
 have hv:=bE hs hx;rw[h]at hv;have hv:=hv.sc;obtain⟨kd,hik⟩:=ld hk (bE hs hi);refine⟨_,?_,.nC rfl⟩;have hlt:k<b.size:=by have:=(ci.1 hc).1<;>simp_all
 have hb:b[k]?=some c:=by rw[getElem?_pos b k hlt];have:=(ci.1 hc).2;congr 1
 simp[execOp,ho,hv,hik,Instr.index,asIntOf,run_underlying ht,hb]
def xE(hs:fM X nt s a){o:Oper}{t:TypeId}{fs:Array Field}{f:Field}{j sz:Nat}{x:Operand}{x':cx}{r:AV}(ho:o.op=.fieldAddr t x j)(ht:P.underlying t=some (.struct fs))(hf:fs[j]?=some f)(hsz:ec P f.type=some sz)(h0:sz≠0)(hx:dH x=some x')(hr:(∃lv sl aq i off,x'.ev s.slots=.ptr lv sl aq i off/\r=.ptr lv sl aq i (off+f.offset))\/∃e off,x'.ev s.slots=.e9 e off/\r=.e9 e (off+f.offset)):Quiet P X o a r:=by
 have hv:=bE hs hx;obtain⟨i,hi,hsi⟩:=gp hsz;have run:∀b off,(execOp a.eval o).run P X.w=(Sem.run P (do let v<-Instr.fieldAt t (.pointer (some ⟨b,off,none⟩)) j;pure (Next.value v)) X.w)->(execOp a.eval o).run P X.w=.ok (.value (.pointer (some ⟨b,off+f.offset,none⟩))) X.w:=by intro b off h;rw[h];simp[Instr.fieldAt,run_underlying ht,hf,jV,fieldPlace,sizeOf,typeInfo,hi,hsi,h0,Addr.add_lit]
 rcases hr with⟨lv,sl,aq,i',off,hq,rfl⟩|⟨e,off,hq,rfl⟩;.rw[hq]at hv;obtain⟨L,hL,hv⟩:=hv;refine⟨_,run L.b (L.o+i'*L.sz+off) (by simp only[execOp,ho,hv]),L,hL,by rw[eJ]⟩
 .rw[hq]at hv;obtain⟨b,o',hv,h⟩:=hv;exact⟨_,run b (o'+off) (by simp only[execOp,ho,hv]),b,o',by rw[eJ],h⟩
end
def eO.sub{w:World}{F R:Nat->Nat->Prop}{els:List (List D)}{b o sz:Nat}(h:eO w F R els b o sz)(lo k:Nat):eO w F R ((els.drop lo).take k) b (o+lo*sz) sz:=by grind[eO]
def eO.region{w:World}{F R S:Nat->Nat->Prop}{els:List (List D)}{b o sz:Nat}(h:eO w F R els b o sz)(TF:∀b o,R b o->S b o):eO w F S els b o sz:=⟨h.1,λi e j x h1 h2=>⟨TF _ _ (h.2 i e j x h1 h2).1,(h.2 i e j x h1 h2).2⟩⟩
def eO.nil{w:World}{F R:Nat->Nat->Prop}{b o sz:Nat}:eO w F R [] b o sz:=⟨by simp,λi e j x h=>by simp at h⟩
def xF{X:Cx}{x:AV}{els:List (List D)}{v:Value}(hx:x=.d (.sl els)\/∃o,x=.own els o)(hv:VR X x v):∃a cap sz b o,v=.slice a els.length cap/\els.length<=cap/\(0<els.length->a=some ⟨b,o,none⟩)/\eO X.w X.F (λb o=>X.F b o\/X.old b) els b o sz:=by
 rcases hx with rfl|⟨ow,rfl⟩;.obtain⟨a,cap,sz,b,o,h1,h2,h3,h4⟩:=DR.aav hv;exact⟨a,cap,sz,b,o,h1,h2,h3,h4.region λ_ _=>.inl⟩
 .cases ow with|full=>obtain⟨a,b,o,sz,h1,h2,h3⟩:=hv;exact⟨a,_,sz,b,o,h1,bc _,h2,h3.region λ_ _=>.inl⟩|cU aq tz=>obtain⟨a,b,o,sz,cap,h1,h2,h3,h4,_⟩:=hv;exact⟨a,cap,sz,b,o,h1,h2,λh=>h3 (by omega),h4.region λ_ _=>.inl⟩|bD=>obtain⟨a,b,o,sz,cap,h1,h2,h3,h4⟩:=hv;exact⟨a,cap,sz,b,o,h1,h2,h3,h4.region λ_ _=>.inr⟩
def o8{X:Cx}{x:AV}{cs:List AV}{v:Value}(h:cellsOf x=some cs)(hv:VR X x v):aD (VC X) cs v.cells.toList:=by
 have one:∀{x:AV},VC X x v->aD (VC X) [x] v.cells.toList:=by intro x hx;have h1:=hx.one;cases v<;>first|(simp[Value.oneCell']at h1;done)|exact⟨hx,trivial⟩
 cases x with|agg cs'=>cases h;obtain⟨us,rfl,h2⟩:=hv;exact h2|fu=>cases h|_=>simp only[cellsOf]at h;injection h with h;subst h;exact one hv
def eR{α:Type}(cs new:List α)(off:Nat)(h:off+new.length<=cs.length)(j:Nat):(splice cs off new)[j]?=if off<=j/\j<off+new.length then new[j-off]?else cs[j]?:=by unfold splice;rw[bj,List.getElem?_append,List.getElem?_append]<;>grind
def lM{α:Type}(cs new:List α)(off:Nat)(h:off+new.length<=cs.length):(splice cs off new).length=cs.length:=by grind[splice]
def aD.splice{α β:Type}{R:α->β->Prop}{cs new:List α}{us vs:List β}{off:Nat}(h:aD R cs us)(h':aD R new vs):aD R (splice cs off new) (Go.bL.splice us off vs):=by unfold Go.bL.splice;rw[h'.length];exact((h.take off).append h').append (h.drop _)
def F0(off:Nat):∀(l:List Value)(k:Nat)(C:Array Value),off+k+l.length<=C.size->((l.zipIdx k).foldl (λcs p=>cs.setIfInBounds (off+p.2) p.1) C).toList=C.toList.take (off+k)++l++C.toList.drop (off+k+l.length)
 |[],k,C,_=>by simp|v::l,k,C,h=>by
  simp only[List.zipIdx_cons,wy];rw[F0 off l (k+1) _ (by simp at h⊢;omega)];simp only[Array.toList_setIfInBounds];have hk:off+k<C.toList.length:=by simp at h⊢;omega
  apply lA;intro j;have e1:=eR (C.toList.set (off+k) v) l (off+(k+1)) (by simp at h⊢;omega) j;have e2:=eR C.toList (v::l) (off+k) (by simp at h⊢;omega) j;unfold splice at e1 e2;rw[e1,e2];simp only[fa];by_cases h1:j=off+k;.subst h1;rw[bi (by omega),ba (by omega),px,List.getElem?_set_self hk];rfl
  .rw[List.getElem?_set_ne (pw h1)];by_cases h2:off+k<=j/\j<off+k+(l.length+1);.rw[ba (by omega),ba h2];obtain⟨d,rfl⟩:∃d,j=off+k+(d+1):=⟨j-(off+k)-1,by omega⟩;rw[show off+k+(d+1)-(off+(k+1))=d by omega,show off+k+(d+1)-(off+k)=d+1by omega];rfl
   .rw[bi (by omega),bi h2]
def F1(off:Nat)(vs C:Array Value)(h:off+vs.size<=C.size):(vs.zipIdx.foldl (λcs x=>match x with|(c,j)=>cs.setIfInBounds (off+j) c) C).toList=splice C.toList off vs.toList:=by have:=F0 off vs.toList 0 C (by simpa using h);simp only[fb]at this;unfold splice;rw[<-this,<-Array.foldl_toList,Array.toList_zipIdx]
section
variable{P:Program}{X:Cx}{nt:NT}{s:St}{a:Act}
def CK(hs:fM X nt s a)(place:Nat->Option (Nat×Nat)):∀(ps:List (Nat×Operand))(l:List (Nat×Nat×cx))(z cs:List AV)(C:Array Value),tM place ps=some l->aD (VC X) z C.toList->qS s.slots z l=some cs->∃C',Instr.fill place C (ps.map λp=>(p.1,a.eval p.2))=some C'/\aD (VC X) cs C'.toList
 |[],l,z,cs,C,hp,hz,hf=>by cases hp;cases hf;exact⟨C,rfl,hz⟩|(i,x)::ps,l,z,cs,C,hp,hz,hf=>by
  simp[tM]at hp;split at hp
  .rename_i off sz y ys h1 h2 h3;cases hp;simp[qS]at hf;split at hf
   .rename_i new hn;split at hf
    .rename_i hc;obtain⟨hc1,ov⟩:=hc;have hv:=o8 hn (bE hs h2);have hsz:(a.eval x).cells.size=sz:=by rw[<-hc1,hv.length,f9]
     have hC:C.size=z.length:=by rw[hz.length,f9]
     obtain⟨C',h4,h5⟩:=CK hs place ps ys (splice z off new) cs ((a.eval x).cells.zipIdx.foldl (λcs x=>match x with|(c,j)=>cs.setIfInBounds (off+j) c) C) h3 (by rw[F1 off _ C (by omega)];exact hz.splice hv) hf;simp only[f2,Instr.fill,h1,hsz,ne_eq,wc,tb,Bool.false_or]<;>grind
    grind
   grind
  grind
def J2(hs:fM X nt s a){o:Oper}{t:TypeId}{ps:Array (Nat×Operand)}{it:TypeInfo}{z:Value}{zs:List AV}{l:List (Nat×Nat×cx)}{cs:List AV}(place:Nat->Option (Nat×Nat))(ho:o.op=.build t ps)(hz:gu z.cells.toList=some zs)(hb:∀parts,P.built t parts=Instr.fill place z.cells parts)(hp:tM place ps.toList=some l)(hf:qS s.slots zs l=some cs)(aAj:P.info? t=some it):Quiet P X o a (.agg cs):=by
 obtain⟨C',h1,h2⟩:=CK hs place ps.toList l zs cs z.cells hp (ni hz) hf;refine⟨.agg C',?_,C',rfl,h2⟩;have hr:(Instr.build t (ps.map λ(i,x)=>(i,a.eval x))).run P X.w=.ok (.agg C') X.w:=by apply run_build;simp_all
 simp[execOp,ho];simp[hr]
def tP(hs:fM X nt s a){o:Oper}{x:Operand}{x':cx}{r:AV}(ho:o.op=.nilCheck x)(hx:dH x=some x')(hr:x'.ev s.slots=r)(hk:(∃lv sl aq i off,r=.ptr lv sl aq i off)\/(∃e off,r=.e9 e off)\/∃f cs,r=.fK f cs):Quiet P X o a r:=by
 have hv:=bE hs hx;rw[hr]at hv;refine⟨a.eval x,?_,hv⟩;rcases hk with⟨_,_,_,_,_,rfl⟩|⟨_,_,rfl⟩|⟨_,_,rfl⟩;.obtain⟨L,_,h⟩:=hv;simp[execOp,ho,h]
 .obtain⟨_,_,h,_⟩:=hv;simp[execOp,ho,h]
 .obtain⟨_,h,_⟩:=hv;simp[execOp,ho,h]
def oF(hs:fM X nt s a){o:Oper}{t e:TypeId}{sz n:Nat}{x i:Operand}{x' i':cx}{r:AV}(ho:o.op=.indexAddr t x i)(ht:P.underlying t=some (.slice e))(hsz:ec P e=some sz)(hx:dH x=some x')(hi:dH i=some i')(hn:gX (i'.ev s.slots)=some n)(hr:(∃els el,(x'.ev s.slots=.d (.sl els)\/∃ow,x'.ev s.slots=.own els ow)/\els[n]?=some el/\el.length=sz/\r=.e9 el 0)\/(∃lv sl aq off ln,x'.ev s.slots=.ref lv sl aq off ln sz/\n<ln/\r=.ptr lv sl aq (off+n) 0)\/∃lv sl aq off ln,x'.ev s.slots=.dz lv sl aq off ln sz/\n<ln/\r=.ptr lv sl aq 0 (off+n*sz)):Quiet P X o a r:=by
 have hv:=bE hs hx;obtain⟨kd,hik⟩:=ld hn (bE hs hi);obtain⟨j,hj,Ie⟩:=gp hsz;have run:∀(b off ln cap:Nat),n<ln->a.eval x=.slice (some ⟨b,off,none⟩) ln cap->(execOp a.eval o).run P X.w=.ok (.value (.pointer (some ⟨b,off+n*sz,none⟩))) X.w:=by intro b off ln cap hlt he;simp[execOp,ho,he,hik,Instr.indexAt,asIntOf,run_underlying ht,sizeOf,typeInfo,hj,Ie,hlt,Addr.add_lit]
 rcases hr with⟨els,el,hq,hel,hl,rfl⟩|⟨lv,sl,aq,off,ln,hq,hlt,rfl⟩|⟨lv,sl,aq,off,ln,hq,hlt,rfl⟩
 .obtain⟨ad,cap,sz',b,off,h1,h2,h3,h4⟩:=xF hq hv;have hlt:n<els.length:=(ci.1 hel).1;have h3:=h3 (by omega);subst h3;have aeR:sz'=sz:=by grind[eO,VR,cx.ev,gX,dH,ec]
  subst aeR;refine⟨_,run b off _ cap hlt h1,b,off+n*sz',rfl,λj x hx=>h4.2 n el j x hel hx⟩
 .rw[hq]at hv;obtain⟨L,ad,cap,hL,h1,h2,h3,h4⟩:=hv;obtain⟨rfl,h5⟩:=h4 (by omega);refine⟨_,run _ _ _ cap hlt h2,L,hL,?_⟩<;>grind
 .rw[hq]at hv;obtain⟨L,aaD,hL,h1,_⟩:=hv;refine⟨_,run _ _ _ aaD hlt h1,L,hL,?_⟩;simp[eJ]
def AF(hs:fM X nt s a){o:Oper}{t e:TypeId}{n sz k:Nat}{x i:Operand}{x' i':cx}{r:AV}(ho:o.op=.indexAddr t x i)(ht:P.underlying t=some (.array n e))(hsz:ec P e=some sz)(hx:dH x=some x')(hi:dH i=some i')(hn:gX (i'.ev s.slots)=some k)(hkn:k<n)(hr:(∃lv sl aq j off,x'.ev s.slots=.ptr lv sl aq j off/\r=.ptr lv sl aq j (off+k*sz))\/∃el off,x'.ev s.slots=.e9 el off/\r=.e9 el (off+k*sz)):Quiet P X o a r:=by
 have hv:=bE hs hx;obtain⟨kd,hik⟩:=ld hn (bE hs hi);obtain⟨j,hj,Ie⟩:=gp hsz;have run:∀(b off:Nat),a.eval x=.pointer (some ⟨b,off,none⟩)->(execOp a.eval o).run P X.w=.ok (.value (.pointer (some ⟨b,off+k*sz,none⟩))) X.w:=by intro b off he;simp[execOp,ho,he,hik,Instr.indexAt,asIntOf,run_underlying ht,sizeOf,typeInfo,hj,Ie,hkn,Addr.add_lit,jV]
 rcases hr with⟨lv,sl,aq,i',off,hq,rfl⟩|⟨e,off,hq,rfl⟩;.rw[hq]at hv;obtain⟨L,hL,hv⟩:=hv;exact⟨_,run _ _ hv,L,hL,by rw[eJ]⟩
 .rw[hq]at hv;obtain⟨b,o',hv,h⟩:=hv;exact⟨_,run _ _ hv,b,o',by rw[eJ],h⟩
def Rf(hs:fM X nt s a){o:Oper}{t e:TypeId}{n sz off lv sl aq:Nat}{x:Operand}{x':cx}(ho:o.op=.slice t x none none none)(ht:P.underlying t=some (.array n e))(hsz:ec P e=some sz)(h0:n≠0)(hx:dH x=some x')(hq:x'.ev s.slots=.ptr lv sl aq 0 off):Quiet P X o a (.dz lv sl aq off n sz):=by have hv:=bE hs hx;rw[hq]at hv;obtain⟨L,hL,hv⟩:=hv;obtain⟨j,hj,Ie⟩:=gp hsz;refine⟨.slice (some ⟨L.b,L.o+off,none⟩) n n,?_,L,n,hL,rfl,bc _,by omega,λhq=>absurd hq (mn _)⟩;simp[execOp,ho,hv,Instr.sliceAt,run_underlying ht,jV,Instr.sliceBounds,sizeOf,typeInfo,hj,Addr.add_lit]
def Rg(hs:fM X nt s a){o:Oper}{t e:TypeId}{n sz off lv sl aq:Nat}{k:Int}{x:Operand}{x':cx}(ho:o.op=.slice t x (some (.const (.int .i64 k))) none none)(ht:P.underlying t=some (.array n e))(hsz:ec P e=some sz)(h0:0<=k)(hlt:k.toNat<n)(hx:dH x=some x')(hq:x'.ev s.slots=.ptr lv sl aq 0 off):Quiet P X o a (.dz lv sl aq (off+k.toNat*sz) (n-k.toNat) sz):=by
 have hv:=bE hs hx;rw[hq]at hv;obtain⟨L,hL,hv⟩:=hv;obtain⟨j,hj,Ie⟩:=gp hsz;obtain⟨l,rfl⟩:=dT h0;have hne:¬n=l:=by omega
 have hle:¬n<l:=by omega
 have he:a.eval (.const (.int .i64 (l:Int)))=.int .i64 (l:Int):=rfl;refine⟨.slice (some ⟨L.b,L.o+(off+l*sz),none⟩) (n-l) (n-l),?_,L,n-l,hL,rfl,bc _,by omega,λhq=>absurd hq (mn _)⟩;simp[execOp,ho,hv,he,Instr.sliceAt,run_underlying ht,jV,Instr.sliceBounds,Instr.sliceBound,asIntOf,sizeOf,typeInfo,hj,Ie,hne,hle,Addr.add_lit,eJ]
def Ig(hs:fM X nt s a){o:Oper}{t e:TypeId}{n:Nat}{x:Operand}{x':cx}(ho:o.op=.call {callee:=.builtin .len,args:=#[x],argTypes:=#[t]})(ht:P.underlying t=some (.slice e))(hx:dH x=some x')(hr:(∃els,(x'.ev s.slots=.d (.sl els)\/∃ow,x'.ev s.slots=.own els ow)/\n=els.length)\/(∃lv sl aq off sz,x'.ev s.slots=.ref lv sl aq off n sz)\/∃lv sl aq off sz,x'.ev s.slots=.dz lv sl aq off n sz):Quiet P X o a (qR n):=by
 have hv:=bE hs hx;have run:∀ad cap,a.eval x=.slice ad n cap->(execOp a.eval o).run P X.w=.ok (.value (.int .i64 n)) X.w:=by intro ad cap he;simp[execOp,ho,resolve,invoke,builtin,Builtin.len_,run_underlying ht,he,goInt]
 refine⟨.int .i64 n,?_,.CG rfl⟩;rcases hr with⟨els,hq,rfl⟩|⟨lv,sl,aq,off,sz,hq⟩|⟨lv,sl,aq,off,sz,hq⟩;.obtain⟨ad,cap,sz',b,off,h1,_⟩:=xF hq hv<;>grind
 .rw[hq]at hv;obtain⟨L,ad,cap,_,_,h,_⟩:=hv<;>grind
 .rw[hq]at hv;obtain⟨L,_,_,h,_⟩:=hv;exact run _ _ h
def aaE(hs:fM X nt s a){o:Oper}{t e:TypeId}{els:List (List D)}{x:Operand}{x':cx}(ho:o.op=.call {callee:=.builtin .cap,args:=#[x],argTypes:=#[t]})(ht:P.underlying t=some (.slice e))(hx:dH x=some x')(hr:x'.ev s.slots=.own els .full):Quiet P X o a (qR els.length):=by have hv:=bE hs hx;rw[hr]at hv;obtain⟨ad,b,o',sz,hv,_⟩:=hv;refine⟨.int .i64 els.length,?_,.CG rfl⟩;simp[execOp,ho,resolve,invoke,builtin,Builtin.cap_,run_underlying ht,hv,goInt]
def aaF(hs:fM X nt s a){o:Oper}{t:TypeId}{b:ByteArray}{x:Operand}{x':cx}(ho:o.op=.call {callee:=.builtin .len,args:=#[x],argTypes:=#[t]})(ht:P.underlying t=some .string)(hx:dH x=some x')(hr:x'.ev s.slots=.d (.sc (.string b))):Quiet P X o a (qR b.size):=by have hv:=bE hs hx;rw[hr]at hv;have hv:=hv.sc;refine⟨.int .i64 b.size,?_,.CG rfl⟩;simp[execOp,ho,resolve,invoke,builtin,Builtin.len_,run_underlying ht,hv,goInt]
def PI{o:Oper}{t:TypeId}{n:Nat}{x:Operand}(ho:o.op=.call {callee:=.builtin .len,args:=#[x],argTypes:=#[t]})(ht:(∃e,P.underlying t=some (.array n e))\/∃p e,P.underlying t=some (.pointer p)/\P.underlying p=some (.array n e)):Quiet P X o a (qR n):=by
 refine⟨.int .i64 n,?_,.CG rfl⟩;rcases ht with⟨e,ht⟩|⟨p,e,ht,hp⟩;.simp[execOp,ho,resolve,invoke,builtin,Builtin.len_,run_underlying ht,goInt]
 .simp[execOp,ho,resolve,invoke,builtin,Builtin.len_,run_underlying ht,run_underlying hp,goInt]
def Nv{x:AV}{v:Value}(h:jT x=true)(hv:VR X x v):CF X x v:=by cases x<;>first|(cases h;done)|exact hv
def AG(hs:fM X nt s a){o:Oper}{f:Nat}{cap:Array Operand}{cap':List cx}(ho:o.op=.makeFunc (.func f) #[] cap)(hc:jy cap.toList=some cap')(h0:(AB s.slots cap').all jT=true):Quiet P X o a (.fK f (AB s.slots cap')):=by have h:=xB hs hc;refine⟨.func (.func f) #[] (cap.map a.eval),by simp[execOp,ho,Instr.makeFunc],cap.map a.eval,rfl,?_⟩;rw[lc];exact .tO h.length λi x v hx hv=>by obtain⟨v',nh,hr⟩:=h.get i x hx;rw[hv]at nh;injection nh with nh;subst nh;exact Nv (fr.1 h0 x (eQ hx)) hr
def jW(hs:fM X nt s a){x:Option Operand}{x':Option cx}{n d:Nat}(hx:rW x=some x')(h:gr x' s.slots d=some n):(x=none/\x'=none/\n=d)\/∃y k,x=some y/\x'.isSome=true/\a.eval y=.int k (n:Int):=by cases x with|none=>grind[rW,gr]|some y=>simp only[rW]at hx;cases hy:dH y with|none=>grind|some y'=>rw[hy]at hx;cases hx;obtain⟨k,hk⟩:=ld h (bE hs hy)<;>grind
def F2(hs:fM X nt s a){o:Oper}{t e:TypeId}{sz n cap l h k:Nat}{ad:Option Addr}{x:Operand}{lo hi mx:Option Operand}{lo' hi' Fm:Option cx}(ho:o.op=.slice t x lo hi mx)(ht:P.underlying t=some (.slice e))(hsz:ec P e=some sz)(hx:a.eval x=.slice ad n cap)(hlo:rW lo=some lo')(hhi:rW hi=some hi')(T8:rW mx=some Fm)(bl:gr lo' s.slots 0=some l)(bh:gr hi' s.slots 0=some h)(bk:gr Fm s.slots 0=some k)(c1:l<=(if hi'.isSome then h else n))(c2:(if hi'.isSome then h else n)<=(if Fm.isSome then k else cap))(c3:(if Fm.isSome then k else cap)<=cap)(c4:Fm.isSome=true->hi'.isSome=true):(execOp a.eval o).run P X.w=.ok (.value (.slice (if(if Fm.isSome then k else cap)=l then ad else ad.map (·.add (l*sz))) ((if hi'.isSome then h else n)-l) ((if Fm.isSome then k else cap)-l))) X.w:=by
 obtain⟨j,hj,Ie⟩:=gp hsz;rcases jW hs T8 bk with⟨rfl,rfl,rfl⟩|⟨my,mk,rfl,hm,hme⟩
 .rcases jW hs hhi bh with⟨rfl,rfl,rfl⟩|⟨hy,hk,rfl,hh,hhe⟩
  .simp[o0,kx,n3]at c1 c2 c3⊢;rcases jW hs hlo bl with⟨rfl,rfl,rfl⟩|⟨ly,lk,rfl,hl,hle⟩;.simp[execOp,ho,hx,Instr.sliceAt,run_underlying ht,Instr.slice,Instr.sliceBounds,sizeOf,typeInfo,hj]
   .simp[execOp,ho,hx,Instr.sliceAt,run_underlying ht,Instr.slice,Instr.sliceBounds,Instr.sliceBound,asIntOf,sizeOf,typeInfo,hj,Ie,hle,c1]
  .simp[hh,jn,o0,kx,n3]at c1 c2 c3⊢;rcases jW hs hlo bl with⟨rfl,rfl,rfl⟩|⟨ly,lk,rfl,hl,hle⟩;.simp[execOp,ho,hx,Instr.sliceAt,run_underlying ht,Instr.slice,Instr.sliceBounds,Instr.sliceBound,asIntOf,sizeOf,typeInfo,hj,hhe,c2]
   .simp[execOp,ho,hx,Instr.sliceAt,run_underlying ht,Instr.slice,Instr.sliceBounds,Instr.sliceBound,asIntOf,sizeOf,typeInfo,hj,Ie,hhe,hle,c1,c2]
 .rcases jW hs hhi bh with⟨rfl,rfl,rfl⟩|⟨hy,hk,rfl,hh,hhe⟩;.grind
  .simp[hh,hm,jn]at c1 c2 c3⊢;rcases jW hs hlo bl with⟨rfl,rfl,rfl⟩|⟨ly,lk,rfl,hl,hle⟩;.simp[execOp,ho,hx,Instr.sliceAt,run_underlying ht,Instr.slice,Instr.sliceBounds,Instr.sliceBound,asIntOf,sizeOf,typeInfo,hj,hhe,hme,c2,c3]
   .simp[execOp,ho,hx,Instr.sliceAt,run_underlying ht,Instr.slice,Instr.sliceBounds,Instr.sliceBound,asIntOf,sizeOf,typeInfo,hj,Ie,hhe,hme,hle,c1,c2,c3]
def kI{els:List (List D)}{sz:Nat}(h:els.all (λe=>e.length==sz)=true):∀e∈els,e.length=sz:=λe he=>by grind
def qU{R:Nat->Nat->Prop}{els:List (List D)}{ad:Option Addr}{b o sz sz' l h m:Nat}(hl:eO X.w X.F R els b o sz')(had:0<els.length->ad=some ⟨b,o,none⟩)(c1:l<=h)(c2:h<=els.length)(c3:h<=m)(PJ:∀e∈els,e.length=sz):((els.drop l).take (h-l)).length=h-l/\(0<h-l->(if m=l then ad else ad.map (·.add (l*sz)))=some ⟨b,o+l*sz',none⟩)/\eO X.w X.F R ((els.drop l).take (h-l)) b (o+l*sz') sz':=by
 refine⟨by simp;omega,λh0=>?_,hl.sub l _⟩;rw[bi (by omega),had (by omega)];have:sz'=sz:=by
  have hlt:0<els.length:=by omega
  have hm:=i9 hlt<;>grind[eO]
 subst this;simp[Addr.add_lit]
def T9(hs:fM X nt s a){o:Oper}{t e:TypeId}{sz l h k:Nat}{x:Operand}{x':cx}{lo hi mx:Option Operand}{lo' hi' Fm:Option cx}{r:AV}(ho:o.op=.slice t x lo hi mx)(ht:P.underlying t=some (.slice e))(hsz:ec P e=some sz)(hx:dH x=some x')(hlo:rW lo=some lo')(hhi:rW hi=some hi')(T8:rW mx=some Fm)(bl:gr lo' s.slots 0=some l)(bh:gr hi' s.slots 0=some h)(bk:gr Fm s.slots 0=some k)(c4:Fm.isSome=true->hi'.isSome=true)(hr:fZ sz (x'.ev s.slots) l (hi'.map λ_=>h) (Fm.map λ_=>k)=some r):Quiet P X o a r:=by
 have hv:=bE hs hx;have eh:∀n,(hi'.map λ_=>h).getD n=if hi'.isSome then h else n:=λn=>by cases hi'<;>rfl
 have run:=λ(ad:Option Addr)(n cap:Nat)(he:a.eval x=.slice ad n cap)=>F2 hs (P:=P) ho ht hsz he hlo hhi T8 bl bh bk;unfold fZ at hr;split at hr;.rename_i els hq;simp only[eh]at hr;obtain⟨ad,cap,sz',b,off,h1,h2,h3,h4⟩:=DR.aav (hq▸hv);have run:=run _ _ _ h1;generalize(if hi'.isSome=true then h else els.length)=H at hr run;cases J3:Fm with
  |none=>
   simp only[J3,wx,o0,kx,n3]at hr run c4;split at hr;.rename_i hc;obtain⟨g1,g2,g3⟩:=hc;cases hr;obtain⟨k1,k2,k3⟩:=qU (m:=cap) h4 h3 g1 g2 (by omega) (kI g3);exact⟨_,run g1 (by omega) (bc _) (by simp),DR.gI k3 k1 (by omega) k2⟩
   grind|some m'=>
   simp only[J3,cf,vy,jn]at hr run c4;split at hr;.rename_i hc;obtain⟨g1,g2,g4,g3⟩:=hc;cases hr;obtain⟨k1,k2,k3⟩:=qU (m:=k) h4 h3 g1 g4 (by omega) (kI g3);refine⟨_,run g1 (by omega) (by omega) (λ_=>c4 trivial),_,b,off+l*sz',sz',?_,λh0=>k2 (by omega),k3⟩;rw[k1,g2]
   grind
 .rename_i els ow hq;simp only[eh]at hr;rw[hq]at hv;replace run:=λad cap he=>run ad els.length cap he;generalize(if hi'.isSome=true then h else els.length)=H at hr run;cases J3:Fm with
  |none=>
   simp only[J3,wx,o0,kx,n3]at hr run c4;split at hr
   .rename_i hc;obtain⟨g1,g2,g3⟩:=hc;cases ow with|bD=>cases hr;obtain⟨ad,b,off,sz',cap,h1,h2,h3,h4⟩:=hv;obtain⟨k1,k2,k3⟩:=qU (m:=cap) h4 h3 g1 g2 (by omega) (kI g3);refine⟨_,run _ _ h1 g1 (by omega) (bc _) (by simp),_,b,off+l*sz',sz',cap-l,?_,?_,λh0=>k2 (by omega),k3⟩<;>grind|full=>
     simp at hr;obtain⟨ad,b,off,sz',h1,h3,h4⟩:=hv;obtain⟨k1,k2,k3⟩:=qU (m:=els.length) h4 h3 g1 g2 (by omega) (kI g3);have run:=run _ _ h1 g1 (by omega) (bc _) (by simp);split at hr;.rename_i hh;cases hr;rw[hh]at run k1 k2 k3;have e1:(els.drop l).take (els.length-l)=els.drop l:=f1 (by simp);rw[e1]at k1 k3;refine⟨_,run,_,b,off+l*sz',sz',?_,λh0=>k2 (by omega),k3⟩<;>grind
     .cases hr;exact⟨_,run,DR.gI k3 k1 (by omega) k2⟩|cU aq tz=>cases hr;obtain⟨ad,b,off,sz',cap,h1,h2,h3,h4,_⟩:=hv;obtain⟨k1,k2,k3⟩:=qU (m:=cap) h4 (λh=>h3 (by omega)) g1 g2 (by omega) (kI g3);exact⟨_,run _ _ h1 g1 (by omega) (bc _) (by simp),DR.gI k3 k1 (by omega) k2⟩
   grind|some m'=>
   simp only[J3,cf,vy,jn]at hr run c4;split at hr
   .rename_i hc;obtain⟨g1,g2,g4,g3⟩:=hc;have done:∀(ad:Option Addr)(cap sz' b off:Nat),a.eval x=.slice ad els.length cap->els.length<=cap->(0<els.length->ad=some ⟨b,off,none⟩)->eO X.w X.F X.F els b off sz'->Quiet P X o a (.own ((els.drop l).take (H-l)) .full):=by intro ad cap sz' b off h1 h2 h3 h4;obtain⟨k1,k2,k3⟩:=qU (m:=k) h4 h3 g1 g4 (by omega) (kI g3);refine⟨_,run _ _ h1 g1 (by omega) (by omega) (λ_=>c4 trivial),_,b,off+l*sz',sz',?_,λh0=>k2 (by omega),k3⟩<;>grind
    cases ow with
    |bD=>
     simp only at hr;obtain⟨ad,b,off,sz',cap,h1,h2,h3,h4⟩:=hv;split at hr;.cases hr;refine⟨_,run _ _ h1 g1 (by omega) (by omega) (λ_=>c4 trivial),(if k=l then ad else ad.map (·.add (l*sz))),0,0,0,?_,λh0=>absurd h0 (by simp),eO.nil⟩<;>grind
     grind|full=>obtain⟨ad,b,off,sz',h1,h3,h4⟩:=hv<;>grind|cU aq tz=>obtain⟨ad,b,off,sz',cap,h1,h2,h3,h4,_⟩:=hv<;>grind
   grind
 .rename_i lv sl aq off n sz' hq;simp[eh]at hr;rw[hq]at hv;obtain⟨L,ad,cap,hL,h1,h2,h3,h4⟩:=hv;have run:=run _ _ _ h2;generalize(if hi'.isSome=true then h else n)=H at hr run;cases J3:Fm with
  |none=>
   simp only[J3,wx,o0,kx,n3]at hr run c4;split at hr;.rename_i hc;obtain⟨g1,g2,g3⟩:=hc;cases hr;subst g3;refine⟨_,run g1 (by omega) (bc _) (by simp),L,_,_,hL,h1,rfl,by omega,λh0=>?_⟩;obtain⟨rfl,h5⟩:=h4 (by omega);refine⟨?_,by omega⟩;rw[bi (by omega)];simp[Addr.add_lit,d9,eJ]
   grind|some m'=>
   simp only[J3,cf,vy,jn]at hr run c4;split at hr;.rename_i hc;obtain⟨g1,g2,g3⟩:=hc;injection hr with hr;subst hr;refine⟨_,run (by omega) (by omega) (by omega) (λ_=>c4 trivial),(if k=l then ad else ad.map (·.add (l*sz))),0,0,0,?_,λh0=>absurd h0 (by simp),eO.nil⟩;rw[show H-l=0 by omega,show k-l=0 by omega];rfl
   .split at hr;.rename_i hc;obtain⟨g1,g2,g3,g4⟩:=hc;injection hr with hr;subst hr;subst g4;refine⟨_,run g1 (by omega) (by omega) (λ_=>c4 trivial),L,_,_,hL,h1,rfl,by omega,λh0=>?_⟩;obtain⟨rfl,h5⟩:=h4 (by omega);refine⟨?_,by omega⟩;rw[bi (by omega)];simp[Addr.add_lit,d9,eJ]
    .cases hr
 .cases hr
def Rh(hs:fM X nt s a){o:Oper}{t:TypeId}{l h:Nat}{x:Operand}{x':cx}{lo hi:Option Operand}{lo' hi':Option cx}{b:ByteArray}(ho:o.op=.slice t x lo hi none)(ht:P.underlying t=some .string)(hx:dH x=some x')(hlo:rW lo=some lo')(hhi:rW hi=some hi')(hq:x'.ev s.slots=.d (.sc (.string b)))(bl:gr lo' s.slots 0=some l)(bh:gr hi' s.slots b.size=some h)(c1:l<=h)(c2:h<=b.size):Quiet P X o a (nC (.string (b.extract l h))):=by
 have hv:=bE hs hx;rw[hq]at hv;have hv:=hv.sc;refine⟨_,?_,.nC rfl⟩;rcases jW hs hhi bh with⟨rfl,rfl,rfl⟩|⟨hy,hk,rfl,hh,hhe⟩
 .rcases jW hs hlo bl with⟨rfl,rfl,rfl⟩|⟨ly,lk,rfl,hl,hle⟩;.simp[execOp,ho,hv,Instr.sliceAt,run_underlying ht,Instr.slice,Instr.sliceBounds]
  .simp[execOp,ho,hv,Instr.sliceAt,run_underlying ht,Instr.slice,Instr.sliceBounds,Instr.sliceBound,asIntOf,hle,c1]
 .rcases jW hs hlo bl with⟨rfl,rfl,rfl⟩|⟨ly,lk,rfl,hl,hle⟩;.simp[execOp,ho,hv,Instr.sliceAt,run_underlying ht,Instr.slice,Instr.sliceBounds,Instr.sliceBound,asIntOf,hhe,c2]
  .simp[execOp,ho,hv,Instr.sliceAt,run_underlying ht,Instr.slice,Instr.sliceBounds,Instr.sliceBound,asIntOf,hhe,hle,c1,c2]
end
end Go.bL
