/- An abstract machine over pure data: definitions. It mirrors what a cut of Go code computes, without addresses, capacities or the tape. -/
import Derived.Orders
set_option linter.unusedVariables false
set_option linter.unusedSimpArgs false
namespace Go
set_option linter.defProp false
def ae:=@Option.bind_some
def al:=@List.getElem?_eq_getElem
def am:=@Bool.and_eq_true
def aw:=@Nat.eq_of_beq_eq_true
def ba:=@List.length_append
def bb:=@if_pos
def bc:=@Nat.le_refl
def bd:=@Int.toNat_natCast
def be:=@if_neg
def bi:=@List.append_assoc
def bj:=@List.mem_append
def bm:=@decide_eq_true
def bo:=@List.mem_singleton
def bv:=@decide_eq_false
def ca:=@Option.map_some
def cb:=@List.mem_cons_self
def cf:=@List.getElem?_eq_some_iff
def ci:=@List.getD_eq_getElem?_getD
def da:=@Bool.not_true
def db:=@decide_eq_true_eq
def dj:=@List.length_singleton
def dk:=@List.mem_cons
def dl:=@List.mem_cons_of_mem
def dp:=@List.mem_append_left
def dq:=@List.mem_append_right
def dt:=@List.append_nil
def du:=@Int.eq_ofNat_of_zero_le
def dv:=@of_decide_eq_true
def dC:=@List.not_mem_nil
def dE:=@Nat.mul_le_mul_right
def dT:=@List.getElem?_eq_none
def d6:=@Nat.add_mul
def d7:=@List.flatMap_cons
def d8:=@List.eq_nil_of_length_eq_zero
def d9:=@List.all_cons
def eb:=@Prod.mk.injEq
def ed:=@Nat.add_assoc
def eI:=@Option.some.injEq
def eJ:=@List.getElem?_map
def eK:=@Bool.not_eq_true'
def eQ:=@List.length_cons
def fa:=@Nat.add_zero
def fb:=@Option.some.inj
def fd:=@Option.map_eq_some_iff
def fg:=@List.take_of_length_le
def fi:=@List.take_length
def fj:=@List.map_cons
def fr:=@Bool.true_and
def ft:=@Array.length_toList
def fw:=@List.map_append
def fx:=@List.getElem?_take
def f0:=@Bool.and_false
def f1:=@Nat.le_of_ble_eq_true
def f2:=@List.getElem_mem
def f5:=@Bool.or_eq_true
def f6:=@Nat.lt_or_ge
def f7:=@List.mem_of_getElem?
def f8:=@List.mem_iff_getElem
def gc:=@List.nil_append
def ge:=@Bool.not_false
def gg:=@Bool.or_eq_false_iff
def ib:=@List.drop_eq_getElem_cons
def ii:=@if_true
def im:=@List.mem_map
def io:=@Bool.false_eq_true
def iv:=@forall_eq_or_imp
def i5:=@Array.getD_eq_getD_getElem?
def i6:=@congrArg
def i7:=@Nat.lt_of_lt_of_le
def i9:=@beq_self_eq_true
def jn:=@List.length_replicate
def jp:=@or_false
def ka:=@decide_eq_decide
def kb:=@Option.bind_eq_some_iff
def kh:=@List.mem_of_mem_take
def km:=@List.all_eq_true
def kp:=@Bool.and_true
def kv:=@beq_iff_eq
def kw:=@List.map_nil
def kx:=@List.getElem?_append_right
def la:=@List.ext_getElem?
def lc:=@Array.getElem?_eq_some_iff
def lh:=@forall_eq
def lj:=@beq_eq_false_iff_ne
def ll:=@List.length_map
def lr:=@List.length_take
def ls:=@List.any_eq_true
def lw:=@Array.toList_map
def lx:=@decide_eq_false_iff_not
def lA:=@Nat.lt_trichotomy
def lL:=@List.length_nil
def lO:=@Bool.eq_iff_iff
def ma:=@Nat.zero_add
def mi:=@Nat.ne_of_beq_eq_false
def ml:=@Nat.le_trans
def mn:=@Nat.pow_lt_pow_right
def mr:=@List.getElem?_set
def mt:=@BitVec.ofInt_natCast
def m6:=@if_false
def m7:=@List.mem_flatMap
def m8:=@List.getElem?_replicate
def m9:=@Option.isSome_none
def na:=@List.pairwise_cons
def nb:=@BitVec.toNat_ofNat
def nf:=@List.flatten_cons
def nl:=@decide_true
def nn:=@Nat.pow_le_pow_right
def ns:=@List.mem_of_mem_drop
def nz:=@Bool.false_and
def n3:=@List.cons_append
def oi:=@List.mem_take_iff_getElem
def ol:=@List.getElem?_append_left
def o0:=@Array.getElem?_eq_getElem
def pb:=@List.replicate_succ
def pd:=@Nat.lt_irrefl
def ph:=@Bool.not_eq_false'
def pi:=@Nat.le_succ
def pj:=@Ne.symm
def pm:=@Nat.sub_self
def po:=@List.map_map
def pp:=@Nat.ble_eq_true_of_le
def pr:=@List.set_append_right
def pt:=@Nat.mod_eq_of_lt
def pu:=@Bool.not_eq_true
def pv:=@Nat.mul_one
def pw:=@Nat.min_eq_left
def px:=@List.replicate_zero
def py:=@List.getElem?_range
def pA:=@Int.toNat_of_nonneg
def pB:=@List.mem_replicate
def pC:=@Int.fdiv_eq_ediv_of_nonneg
def pD:=@Array.getElem?_append_left
def p3:=@Nat.or_lt_two_pow
def qr:=@List.any_eq_false
def ra:=@List.map_take
def rb:=@Option.getD_some
def rc:=@List.filter_cons
def rf:=@List.drop_length
def rh:=@not_or
def rl:=@decide_false
def rm:=@Nat.testBit_lt_two_pow
def ro:=@List.filter_eq_nil_iff
def rp:=@List.drop_of_length_le
def rt:=@Nat.min_le_left
def rx:=@Bool.decide_and
def sa:=@List.pairwise_append
def sd:=@List.mem_range
def se:=@Int.mul_nonneg
def sf:=@Int.mul_le_mul
def sm:=@List.map_drop
def ss:=@Option.isSome_some
def sT:=@List.getElem?_drop
def tb:=@List.filter_filter
def te:=@List.append_of_mem
def ti:=@not_true_eq_false
def tl:=@List.filter_congr
def tx:=@List.all_nil
def t6:=@Bool.or_true
def t7:=@Bool.eq_false_iff
def t8:=@Option.elim_none
def ub:=@Nat.lt_succ_self
def ui:=@List.length_drop
def ul:=@List.isEmpty_iff
def ut:=@List.drop_append
def vd:=@Nat.zero_le
def vx:=@Int.le_refl
def vy:=@Option.map_none
def wa:=@List.foldl_cons
def wc:=@Int.natCast_mul
def wd:=@dif_neg
def wi:=@Nat.mod_lt
def wl:=@List.take_zero
def wn:=@List.Perm.refl
def wt:=@Bool.or_false
def ww:=@getElem!_pos
def wx:=@Nat.succ_mul
def wy:=@Nat.sub_zero
def xa:=@Nat.ne_of_lt
def xc:=@Nat.mul_comm
def xf:=@Int.le_trans
def xi:=@Int.add_zero
def xr:=@Iff.rfl
def xt:=@Bool.or_self
def yi:=@Nat.one_mul
end Go
namespace Go.bM
open Go
inductive D where|sc(v:Value)|sl(els:List (List D))|er deriving Inhabited
inductive WV where|full|cK(au sz:Nat)|bC deriving Inhabited
inductive AV where|d(x:D)|own(els:List (List D))(o:WV)|agg(cs:List AV)|jF(vs:List AV)|ref(lv sl au off len sz:Nat)|ptr(lv sl au i off:Nat)|fF(lv sl au off n sz:Nat)|fW(e:List D)(off:Nat)|fk(f:Nat)(cap:List AV)|mp(lv sl au:Nat)deriving Inhabited
inductive bH where|row(au:Nat)(els:List (List D))|box(au:Nat)(cells:List AV)|Of(au:Nat)(els:List (List D))|mp(au:Nat)(ks:List (List UInt8))deriving Inhabited
inductive Tr(α:Type)where|lf|nd(v:Option α)(l r:Tr α)deriving Inhabited
def Tr.get?{α:Type}:Tr α->Nat->Option α|.lf,_=>none|.nd v l r,n=>match Nat.beq n 0with|true=>v|false=>match Nat.beq (n%2) 1with|true=>l.get? (n/2)|false=>r.get? (n/2-1)
def Tr.top{α:Type}:Tr α->Option α|.lf=>none|.nd v _ _=>v
def Tr.left{α:Type}:Tr α->Tr α|.lf=>.lf|.nd _ l _=>l
def Tr.right{α:Type}:Tr α->Tr α|.lf=>.lf|.nd _ _ r=>r
def Tr.Q1{α:Type}:Nat->Tr α->Nat->Option α->Tr α|0,t,_,_=>t|f+1,t,n,x=>match Nat.beq n 0with|true=>.nd x t.left t.right|false=>match Nat.beq (n%2) 1with|true=>.nd t.top (Tr.Q1 f t.left (n/2) x) t.right|false=>.nd t.top t.left (Tr.Q1 f t.right (n/2-1) x)
def Tr.set{α:Type}(t:Tr α)(n:Nat)(x:Option α):Tr α:=Tr.Q1 (n+1) t n x
structure St where
 slots:Tr AV
 mem:List (Tr bH)aK:Tr Unit
 nv:Nat deriving Inhabited
inductive cc where|t(n:Nat)|c(v:AV)deriving Inhabited
def kg:AV:=.jF []
def dz(s:Tr AV)(n:Nat):AV:=(s.get? n).getD kg
def cc.ev(s:Tr AV):cc->AV|.t n=>dz s n|.c v=>v
inductive ct where|HS(x:cc)|pick(c a b:cc)|alloc(zero:List AV)|box(x:cc)|build(zero:List AV)(parts:List (Nat×Nat×cc))|buildSlice(sz n:Nat)(zero:List D)(parts:List (Nat×cc))|load(sz:Nat)(agg:Bool)(x:cc)|store(sz:Nat)(x v:cc)|nilCheck(x:cc)|bin(op:BinOp)(x y:cc)|W6(neg:Bool)(x y:cc)|W7(neg:Bool)(sz:Nat)(cells:List (Nat×Nat))(x y:cc)|yR(neg:Bool)(x:cc)|un(op:UnOp)(x:cc)|conv(k:IntKind)(x:cc)|field(off sz:Nat)(agg:Bool)(x:cc)|fieldAddr(off:Nat)(x:cc)|indexAddr(sz:Nat)(x i:cc)|kJ(n sz:Nat)(x i:cc)|qE(n sz:Nat)(agg:Bool)(x i:cc)|qF(x i:cc)|slice(sz:Nat)(x:cc)(lo hi mx:Option cc)|qG(x:cc)(lo hi:Option cc)|extract(x:cc)(i:Nat)|len(x:cc)|FO(x:cc)|HT(x:cc)|Zr(x:cc)|Zs(x:cc)|mkSet|HU(m k:cc)|HV(m k:cc)|DN(n:Nat)|FP(x y:cc)|FQ(x y:cc)|append(sz bytes:Nat)(x y:cc)|oP(sz bytes:Nat)(z:List D)(x n:cc)|copy(sz:Nat)(x y:cc)|makeSlice(sz bytes:Nat)(zero:List D)(len cap:cc)|makeFunc(f:Nat)(cap:List cc)|sliceB(n sz:Nat)(x:cc)|r9(lo n sz:Nat)(x:cc)|clear(sz:Nat)(zero:List D)(x:cc)|grow(sz:Nat)(x n:cc)|clone(sz bytes:Nat)(x:cc)|sort(x:cc)|compact(x:cc)|bad|call(f:Nat)(args:List cc)|vF(f:Nat)(args:List cc)|yS(x:cc)(args:List cc)deriving Inhabited
structure bE where
 dst:Option Nat
 op:ct
 gd:Option (Nat×Bool)n9:Nat
 row:Nat deriving Inhabited
inductive AC where|skip|region(ops:List bE)(draw:Bool)|seq(a b:AC)|cond(c:cc)(a b:AC)|block(id:Nat)(c:AC)|loop(c:AC)|exit(id:Nat)|ret deriving Inhabited
inductive Am where|t(n:Nat)|cell(n sz:Nat)(agg:Bool)deriving Inhabited
structure qC where
 np:Nat
 nt:Nat
 res:List Am
 body:AC
 sh:Bool deriving Inhabited
def aN(m:List (Tr bH))(lv sl:Nat):Option bH:=(m[lv]?).bind λt=>t.get? sl
def cC(m:List (Tr bH))(lv sl:Nat)(e:Option bH):List (Tr bH):=m.modify lv λt=>t.set sl e
def rowAt(m:List (Tr bH))(lv sl au:Nat):Option (List (List D)):=match aN m lv sl with
 |some (.row v els)=>match Nat.beq v au with|true=>some els|false=>none
 |_=>none
def oQ(m:List (Tr bH))(lv sl au:Nat):Option (List AV):=match aN m lv sl with
 |some (.box v cs)=>match Nat.beq v au with|true=>some cs|false=>none
 |_=>none
def setAt(m:List (Tr bH))(lv sl au:Nat):Option (List (List UInt8)):=match aN m lv sl with
 |some (.mp v ks)=>match Nat.beq v au with|true=>some ks|false=>none
 |_=>none
def hasB(ks:List (List UInt8))(k:List UInt8):Bool:=ks.any λl=>decide (k=l)
def sj(ks:List (List UInt8))(k:List UInt8):List (List UInt8):=match hasB ks k with|true=>ks|false=>ks++[k]
def rN(m:List (Tr bH))(lv sl au:Nat):Option (List (List D)):=match aN m lv sl with
 |some (.row v els)=>match Nat.beq v au with|true=>some els|false=>none
 |some (.Of v els)=>match Nat.beq v au with|true=>some els|false=>none
 |_=>none
def dG(m:List (Tr bH)):AV->Option (List (List D))|.d (.sl els)=>some els|.own els _=>some els|.ref lv sl au off len _=>(rN m lv sl au).bind λels=>if off+len<=els.length then some ((els.drop off).take len)else none|_=>none
def cellsOf:AV->Option (List AV)|.agg cs=>some cs|.jF _=>none|v=>some [v]
def An(m:List (Tr bH)):AV->Option (D×List (Nat×Nat))|.d x=>some (x,[])|.own els .full=>some (.sl els,[])|.own els (.cK _ _)=>some (.sl els,[])|.ref lv sl au off len sz=>(dG m (.ref lv sl au off len sz)).map λels=>(.sl els,[(lv,sl)])|_=>none
def DO(m:List (Tr bH)):List AV->Option (List D×List (Nat×Nat))|[]=>some ([],[])|x::r=>match An m x,DO m r with|some (y,k),some (ys,ks)=>some (y::ys,k++ks)|_,_=>none
def Ea(m:List (Tr bH))(x:AV):Option (List D×List (Nat×Nat)):=(cellsOf x).bind (DO m)
def splice{α:Type}(cs:List α)(off:Nat)(new:List α):List α:=cs.take off++new++cs.drop (off+new.length)
def Eb(op:BinOp)(k:IntKind)(a b:Int):Option Int:=let x:=BitVec.ofInt k.bits a;let y:=BitVec.ofInt k.bits b;match op with|.and=>some (k.wrap (x&&&y).toNat)|.or=>some (k.wrap (x|||y).toNat)|.xor=>some (k.wrap (x^^^y).toNat)|.andNot=>some (k.wrap (x&&&~~~y).toNat)|_=>none
def FR(op:BinOp)(k:IntKind)(a:Int)(k':IntKind)(b:Int):Option Value:=match op with|.shl=>if b<0then none else some (.int k (k.wrap (a*2^min b.toNat k.bits)))|.shr=>if b<0then none else some (.int k (a.fdiv (2^min b.toNat k.bits)))|op=>if k≠k' then none else match op with|.add=>some (.int k (k.wrap (a+b)))|.sub=>some (.int k (k.wrap (a-b)))|.mul=>some (.int k (k.wrap (a*b)))|.quo=>if b=0then none else some (.int k (k.wrap (a.tdiv b)))|.rem=>if b=0then none else some (.int k (a.tmod b))|.and|.or|.xor|.andNot=>(Eb op k a b).map (.int k)|.eql=>some (.bool (a==b))|.neq=>some (.bool (a !=b))|.lss=>some (.bool (a<b))|.leq=>some (.bool (a<=b))|.gtr=>some (.bool (a>b))|.geq=>some (.bool (a>=b))|_=>none
def KH(op:BinOp)(x y:ByteArray):Option Value:=match op with|.add=>if((x.size+y.size:Nat):Int)>IntKind.i64.max then none else some (.string (x++y))|.eql=>some (.bool (x.toList==y.toList))|.neq=>some (.bool !(x.toList==y.toList))|.lss=>some (.bool (Op.bytesLess x.toList y.toList))|.leq=>some (.bool (Op.bytesLess x.toList y.toList||x.toList==y.toList))|.gtr=>some (.bool !(Op.bytesLess x.toList y.toList||x.toList==y.toList))|.geq=>some (.bool !(Op.bytesLess x.toList y.toList))|_=>none
def Q2(op:BinOp):AV->AV->Option Value|.d (.sc (.int k a)),.d (.sc (.int k' b))=>FR op k a k' b|.d (.sc (.string a)),.d (.sc (.string b))=>KH op a b|_,_=>none
def HW(kd:Nat):AV->AV->Option Bool
 |.d (.sc (.bool a)),.d (.sc (.bool b))=>match kd with|0=>some (a==b)|_=>none
 |.d (.sc (.int k a)),.d (.sc (.int k' b))=>match kd with|1=>if k=k' then some (a==b)else none|_=>none
 |.d (.sc (.string a)),.d (.sc (.string b))=>match kd with|0=>none|1=>none|_=>some (a==b)
 |_,_=>none
def mL(xs ys:List AV):List (Nat×Nat)->Option Bool|[]=>some true|o::r=>match xs[o.1]?,ys[o.1]?with
 |some x,some y=>match HW o.2 x y with|some true=>mL xs ys r|some false=>some false|none=>none
 |_,_=>none
def unA(op:UnOp):AV->Option Value
 |.d (.sc (.bool b))=>match op with|.not=>some (.bool !b)|_=>none
 |.d (.sc (.int k n))=>match op with|.neg=>some (.int k (k.wrap (0-n)))|.xor=>(Eb .xor k (if k.signed then-1 else k.max) n).map (.int k)|_=>none
 |_=>none
def sk:AV->Option Int|.d (.sc (.int _ n))=>some n|_=>none
def gz(x:AV):Option Nat:=(sk x).bind λn=>if 0<=n then some n.toNat else none
def jH:AV->Option Bool|.d (.sc (.bool b))=>some b|_=>none
def mM(v:Value):AV:=.d (.sc v)
def p4(n:Nat):AV:=.d (.sc (.int .i64 n))
def jI:AV->Bool|.agg _|.jF _|.fk _ _=>false|_=>true
structure fT where
 val:AV
 di:List (Nat×Nat×Option bH)cK:List (Nat×Bool)rd:List (Nat×Nat×Nat)deriving Inhabited
inductive gT where|ck(e:fT)|all(val:AV)(mem:List (Tr bH))(aK:Tr Unit)(nv:Nat)deriving Inhabited
def fT.pure(v:AV):Option gT:=some (.ck {val:=v,di:=[],cK:=[],rd:=[]})
def cB(lv sl:Nat):Nat×Nat×Nat:=(0,lv,sl)
def kH(v:Nat):Nat×Nat×Nat:=(1,v,0)
def fT.wr(e:fT):List (Nat×Nat×Nat):=e.di.map (λu=>cB u.1 u.2.1)++e.cK.map λu=>kH u.1
def dD:AV->List (Nat×Nat×Nat)|.ref lv sl _ _ _ _=>[cB lv sl]|.ptr lv sl _ _ _=>[cB lv sl]|.fF lv sl _ _ _ _=>[cB lv sl]|.mp lv sl _=>[cB lv sl]|_=>[]
def eO:AV->List (Nat×Nat×Nat)|.agg cs=>cs.flatMap dD|v=>dD v
def bF(m:List (Tr bH)):List (Nat×Nat×Option bH)->List (Tr bH)|[]=>m|(lv,sl,e)::r=>bF (cC m lv sl e) r
def eu(t:Tr Unit):List (Nat×Bool)->Tr Unit|[]=>t|(v,b)::r=>eu (t.set v (if b then some ()else none)) r
def nE(s:Tr AV)(dst:Option Nat)(v:AV):Tr AV:=match dst with|some n=>s.set n (some v)|none=>s
def St.app(s:St)(dst:Option Nat):gT->St|.ck e=>{slots:=nE s.slots dst e.val,mem:=bF s.mem e.di,aK:=eu s.aK e.cK,nv:=s.nv}|.all v m t n=>{slots:=nE s.slots dst v,mem:=m,aK:=t,nv:=n}
abbrev Call:=Nat->List AV->List (Tr bH)->Tr Unit->Nat->Option (AV×List (Tr bH)×Tr Unit×Nat)
def cX(m:List (Tr bH)):AV->Option AV|.d x=>some (.d x)|.own els .bC=>some (.own els .bC)|.own els _=>some (.d (.sl els))|.ref lv sl au off len sz=>(dG m (.ref lv sl au off len sz)).map λels=>.own els .bC|.fk f []=>some (.fk f [])|_=>none
def eR(m:List (Tr bH)):AV->Option (AV×List (Nat×Nat))|.own els .bC=>some (.own els .bC,[])|.fk f []=>some (.fk f [],[])|x=>(An m x).map λ(y,k)=>(.d y,k)
def fG(m:List (Tr bH)):List AV->Option (List AV×List (Nat×Nat))|[]=>some ([],[])|x::r=>match eR m x,fG m r with|some (y,k),some (ys,ks)=>some (y::ys,k++ks)|_,_=>none
def xC(m:List (Tr bH)):AV->Option (AV×List (Nat×Nat))|.agg cs=>(fG m cs).map λ(ys,ks)=>(.agg ys,ks)|x=>(cX m x).map λy=>(y,[])
def rO(m:List (Tr bH)):List AV->Option (List AV×List (Nat×Nat))|[]=>some ([],[])|x::r=>match xC m x,rO m r with|some (y,k),some (ys,ks)=>some (y::ys,k++ks)|_,_=>none
def oR(top pk:Nat):Bool:=!Nat.beq pk 0&&!Nat.beq top 0
def bA(cm:List (Tr bH))(top pk k:Nat)(lv sl au:Nat):AV->Option (AV×List (List (List D)))
 |.d x=>some (.d x,[])|.own els .full=>match !Nat.beq (pk/65536) 0&&Nat.beq k (pk%65536),els with|true,[]=>some (.ref lv sl au 0 0 (pk/65536),[[]])|_,els=>match oR top pk||Nat.beq (pk%65536) 65535with|true=>some (.own els .full,[])|false=>some (.d (.sl els),[])
 |.own els (.cK v tz)=>match oR top pk with|true=>some (.own els (.cK v tz),[])|false=>some (.d (.sl els),[])
 |.ref cM cZ gF off len sz=>match Nat.ble top cM with|false=>some (.ref cM cZ gF off len sz,[])|true=>match dG cm (.ref cM cZ gF off len sz)with|none=>none|some els=>match Nat.beq pk 0with|true=>some (.d (.sl els),[])|false=>match Nat.beq k (pk%65536)with
  |true=>match rowAt cm cM cZ gF with|some _=>some (.ref lv sl au 0 len sz,[els])|none=>none
  |false=>match rowAt cm cM cZ gF with|some _=>none|none=>some (.d (.sl els),[])
 |.fk f []=>some (.fk f [],[])|.ptr cM cZ gF i off=>match Nat.ble top cM with|false=>some (.ptr cM cZ gF i off,[])|true=>none
 |_=>none
def dH(cm:List (Tr bH))(top pk lv sl au:Nat):Nat->List AV->Option (List AV×List (List (List D)))|_,[]=>some ([],[])|k,x::r=>match bA cm top pk k lv sl au x,dH cm top pk lv sl au (k+1) r with|some (y,u),some (ys,us)=>some (y::ys,u++us)|_,_=>none
def lM(cm:List (Tr bH))(top pk lv sl au k:Nat):AV->Option (AV×List (List (List D)))|.agg cs=>(dH cm top pk lv sl au k cs).map λ(vs,u)=>(.agg vs,u)|x=>bA cm top pk k lv sl au x
def fX(cm:List (Tr bH))(top pk lv sl au:Nat):Nat->List AV->Option (List AV×List (List (List D)))|_,[]=>some ([],[])|k,x::r=>match lM cm top pk lv sl au k x,fX cm top pk lv sl au (k+64) r with|some (y,u),some (ys,us)=>some (y::ys,u++us)|_,_=>none
def iN(cm:List (Tr bH))(top pk lv sl au:Nat):AV->Option (AV×List (List (List D)))|.jF vs=>(fX cm top pk lv sl au 1 vs).map λ(vs,u)=>(.jF vs,u)|x=>lM cm top pk lv sl au 1 x
def kK(lv sl au:Nat):List (List (List D))->Option (List (Nat×Nat×Option bH))|[]=>some []|[els]=>some [(lv,sl,some (.row au els))]|_=>none
def bH.mN:bH->Option bH|.row v els=>some (.Of v els)|.box _ _=>none|.Of v els=>some (.Of v els)|.mp _ _=>none
def ew(m:List (Tr bH))(ks:List (Nat×Nat)):List (Nat×Nat×Option bH):=ks.map λk=>(k.1,k.2,(aN m k.1 k.2).bind bH.mN)
def jg(ks:List (Nat×Nat)):List (Nat×Nat×Nat):=ks.map λk=>cB k.1 k.2
def fY:AV->Bool|.jF _=>false|_=>true
def Q3:AV->Bool|.d _=>true|_=>false
def FT:AV->Bool|.agg cs=>cs.all Q3|x=>Q3 x
def abc:AV->Bool|.jF vs=>vs.all FT|x=>FT x
def gA(call:Call)(shared:Bool)(row:Nat)(s:St)(lv sl aT:Nat)(f:Nat)(args:List AV):Option gT:=match shared with
 |false=>match rO s.mem args with|none=>none|some (aO,ks)=>match call f aO [.lf] .lf 0with|none=>none|some (r,cm,_,_)=>match iN cm 0 row lv sl aT r with|none=>none|some (v,us)=>match kK lv sl aT us with|none=>none|some u=>some (.ck {val:=v,di:=ew s.mem ks++u,cK:=[],rd:=args.flatMap eO})
 |true=>match args.all fY with|false=>none|true=>match call f args (s.mem++[.lf]) s.aK s.nv with|none=>none|some (r,cm,ts,n)=>match iN cm s.mem.length row lv sl aT r with|none=>none|some (v,us)=>match kK lv sl aT us with|none=>none|some u=>some (.all v (bF (cm.take s.mem.length) u) ts n)
def xD(m:List (Tr bH)):AV->Option (AV×List (Nat×Nat))|.agg cs=>(fG m cs).map λ(ys,ks)=>(.agg ys,ks)|x=>eR m x
def rP(m:List (Tr bH)):List AV->Option (List AV×List (Nat×Nat))|[]=>some ([],[])|x::r=>match xD m x,rP m r with|some (y,k),some (ys,ks)=>some (y::ys,k++ks)|_,_=>none
def oa(call:Call)(s:St)(aT f:Nat)(args:List AV):Option gT:=match rP s.mem args with|none=>none|some (aO,ks)=>match call f aO [.lf] .lf 0with|none=>none|some (r,cm,_,_)=>match iN cm 0 0 0 0 aT r with|some (v,[])=>some (.ck {val:=v,di:=ew s.mem ks,cK:=[],rd:=args.flatMap eO})|_=>none
def pM(m:List (Tr bH)):List AV->Option (List AV)|[]=>some []|x::r=>match cX m x,pM m r with|some y,some ys=>some (y::ys)|_,_=>none
def rQ(m:List (Tr bH)):AV->Option AV|.agg cs=>(pM m cs).map .agg|x=>cX m x
def qH(m:List (Tr bH)):List AV->Option (List AV)|[]=>some []|x::r=>match rQ m x,qH m r with|some y,some ys=>some (y::ys)|_,_=>none
def od(call:Call)(s:St)(aT f:Nat)(args:List AV):Option gT:=match qH s.mem args with|none=>none|some aO=>match call f aO [.lf] .lf 0with|none=>none|some (r,cm,_,_)=>match iN cm 0 0 0 0 aT r with|some (v,[])=>some (.ck {val:=v,di:=[],cK:=[],rd:=args.flatMap eO})|_=>none
def qI(call:Call)(s:St)(f:Nat)(args:List AV):Option gT:=match args.all fY with|false=>none|true=>match call f args (s.mem++[.lf]) s.aK s.nv with|none=>none|some (r,cm,ts,n)=>some (.all r cm ts n)
def iO(m:List (Tr bH)):AV->Option D|.d x=>some x|.own els _=>some (.sl els)|.ref lv sl au off len sz=>(dG m (.ref lv sl au off len sz)).map .sl|_=>none
def jh(m:List (Tr bH)):List AV->Option (List D)|[]=>some []|x::r=>match iO m x,jh m r with|some y,some ys=>some (y::ys)|_,_=>none
def chunk{α:Type}(sz:Nat):Nat->List α->List (List α)|0,_=>[]|n+1,l=>l.take sz::chunk sz n (l.drop sz)
def lG(m:List (Tr bH)):AV->Option AV
 |.agg cs=>(jh m cs).map λds=>.agg (ds.map .d)|.fk f []=>some (.fk f [])|.fF lv sl au off n sz=>match oQ m lv sl au with|some cs=>if off+n*sz<=cs.length then(jh m ((cs.drop off).take (n*sz))).map λds=>.d (.sl (chunk sz n ds))else none|none=>none
 |x=>(iO m x).map .d
def vG(m:List (Tr bH)):List AV->Option (List AV)|[]=>some []|x::r=>match lG m x,vG m r with|some y,some ys=>some (y::ys)|_,_=>none
def qJ(m:List (Tr bH)):AV->List (Nat×Nat×Nat)|.fF lv sl au _ _ _=>cB lv sl::(match oQ m lv sl au with|some cs=>cs.flatMap dD|none=>[])|v=>eO v
def A7:AV->Bool|.d (.sc _)=>true|.d (.sl [])=>true|_=>false
def Ec:AV->Bool|.agg cs=>cs.all A7|x=>A7 x
def Q4:AV->Bool|.jF vs=>vs.all Ec|x=>Ec x
def kL(call:Call)(s:St)(f:Nat)(args:List AV):Option gT:=match vG s.mem args with|none=>none|some aO=>match call f aO [.lf] .lf 0with|none=>none|some (r,cm,_,_)=>match iN cm 0 0 0 0 0 r with
 |some (v,[])=>match Q4 v with|true=>some (.ck {val:=v,di:=[],cK:=[],rd:=args.flatMap (qJ s.mem)})|false=>none
 |_=>none
def uL(row top dst:Nat):Nat×Nat:=match Nat.beq (row%65536) 5with|true=>(0,1000000+row/65536)|false=>(top,dst)
def DF(s:Tr AV)(l:List cc):List AV:=l.map (·.ev s)
def p5(s:Tr AV):List AV->List (Nat×Nat×cc)->Option (List AV)|cs,[]=>some cs|cs,(off,sz,x)::r=>match cellsOf (x.ev s)with|some new=>if new.length=sz/\off+sz<=cs.length then p5 s (splice cs off new) r else none|none=>none
def p6(m:List (Tr bH))(s:Tr AV)(sz:Nat):List (List D)->List (Nat×cc)->Option (List (List D)×List (Nat×Nat))|els,[]=>some (els,[])|els,(i,x)::r=>match Ea m (x.ev s)with|some (e,ks)=>if e.length=sz/\i<els.length then match p6 m s sz (els.set i e) r with|some (els',ks')=>some (els',ks++ks')|none=>none else none|none=>none
def rR(m:List (Tr bH))(sz:Nat):AV->Option (List AV)
 |.ptr lv sl au i off=>match aN m lv sl with
  |some (.box v cs)=>match Nat.beq v au,Nat.beq i 0with|true,true=>if off+sz<=cs.length then some ((cs.drop off).take sz)else none|_,_=>none
  |some (.row v els)=>match Nat.beq v au with
   |true=>match els[i]?with|some e=>if off+sz<=e.length then some (((e.drop off).take sz).map .d)else none|none=>none
   |false=>none
  |some (.Of v els)=>match Nat.beq v au with
   |true=>match els[i]?with|some e=>if off+sz<=e.length then some (((e.drop off).take sz).map .d)else none|none=>none
   |false=>none
  |some (.mp _ _)=>none|none=>none
 |.fW e off=>if off+sz<=e.length then some (((e.drop off).take sz).map .d)else none|_=>none
def gX(agg:Bool)(cs:List AV):Option AV:=match agg with|true=>some (.agg cs)|false=>match cs with|[v]=>some v|_=>none
def qK(m:List (Tr bH))(sz:Nat)(p v:AV):Option fT:=
 match p,cellsOf v with|.ptr lv sl au i off,some new=>if new.length=sz then match aN m lv sl with
  |some (.box v cs)=>match Nat.beq v au,Nat.beq i 0with|true,true=>if off+sz<=cs.length then some {val:=kg,di:=[(lv,sl,some (.box v (splice cs off new)))],cK:=[],rd:=[cB lv sl]}else none|_,_=>none
  |some (.row v els)=>match Nat.beq v au with
   |true=>match els[i]?,DO m new with|some e,some (ds,ks)=>if off+sz<=e.length/\¬(lv,sl)∈ks then some {val:=kg,di:=ew m ks++[(lv,sl,some (.row v (els.set i (splice e off ds))))],cK:=[],rd:=cB lv sl::jg ks}else none|_,_=>none
   |false=>none
  |some (.Of _ _)=>none|some (.mp _ _)=>none|none=>none else none|_,_=>none
def gB(m:List (Tr bH)):AV->Option (List (List D))|.d (.sc (.string b))=>some (b.data.toList.map λc=>[.sc (.int .u8 c.toNat)])|x=>dG m x
def fm:Nat:=9223372036854775807
def ku:Nat:=140737488355328
def dP(s:St)(row:Bool)(lv sl aT sz bytes:Nat)(x y:AV):Option fT:=match gB s.mem y with|none=>none|some news=>if news.all (λe=>e.length==sz)then match x with
 |.own els .full=>if els.all (λe=>e.length==sz)/\els.length+news.length<=fm/\(els.length+news.length)*bytes<=ku then match row with|false=>some {val:=.own (els++news) (.cK aT sz),di:=[],cK:=[(aT,true)],rd:=dD y}|true=>if els.isEmpty=false/\news.isEmpty=true then none else some {val:=.ref lv sl aT 0 (els.length+news.length) sz,di:=[(lv,sl,some (.row aT (els++news)))],cK:=[],rd:=dD y}else none|.own els (.cK v tz)=>if tz=sz/\els.length+news.length<=fm/\(els.length+news.length)*bytes<=ku/\(s.aK.get? v).isSome then some {val:=.own (els++news) (.cK aT sz),di:=[],cK:=[(v,false),(aT,true)],rd:=kH v::dD y}else none|.ref cM cZ au off len sz'=>match rowAt s.mem cM cZ au with|some els=>if sz'=sz/\off+len<=els.length/\len+news.length<=fm/\(len+news.length)*bytes<=ku then some {val:=.ref cM cZ aT 0 (len+news.length) sz,di:=[(cM,cZ,some (.row aT ((els.drop off).take len++news)))],cK:=[],rd:=cB cM cZ::dD y}else none|none=>none
 |_=>none else none
def bytesOf:List (List D)->Option (List UInt8)|[]=>some []|[.sc (.int .u8 n)]::r=>(bytesOf r).map (UInt8.ofNat n.toNat::·)|_=>none
def nF(l:List UInt8):ByteArray:=⟨l.toArray⟩
def HX(s:St)(aT sz:Nat)(x:AV)(l:Nat)(hi:Option Nat):Option fT:=match x with
 |.ref lv sl au off len sz'=>match rowAt s.mem lv sl au with|some els=>if sz'=sz/\l<=hi.getD len/\hi.getD len<=len/\off+len<=els.length then some {val:=.ref lv sl aT 0 (hi.getD len-l) sz,di:=[(lv,sl,some (.row aT ((els.drop (off+l)).take (hi.getD len-l))))],cK:=[],rd:=[cB lv sl]}else none|none=>none
 |_=>none
def nL:AV->Bool|.ref ..=>true|_=>false
def HY(s:St)(lv dst aT:Nat)(x:AV):Option fT:=match x with
 |.ref cM cZ au off len sz=>match rowAt s.mem cM cZ au with
  |some els=>match Nat.ble (off+len) els.length with|true=>some {val:=.ref lv dst aT 0 len sz,di:=[(cM,cZ,none),(lv,dst,some (.row aT ((els.drop off).take len)))],cK:=[],rd:=[cB cM cZ]}|false=>none
  |none=>none
 |_=>none
def sn:List (List D)->Option (List Int)|[]=>some []|[.sc (.int .i64 z)]::r=>(sn r).map (z::·)|_=>none
def iX(l:List Int):List (List D):=l.map λz=>[.sc (.int .i64 z)]
def A8(x:Int):List Int->List Int|[]=>[x]|y::r=>match decide (x<=y)with|true=>x::y::r|false=>y::A8 x r
def jQ:List Int->List Int|[]=>[]|x::r=>A8 x (jQ r)
def yT(s:St)(x:AV):Option fT:=match x with
 |.own [] .full=>some {val:=kg,di:=[],cK:=[],rd:=[]}|.ref lv sl au off len sz=>match rowAt s.mem lv sl au with|some els=>(sn els).bind λzs=>if off=0/\len=els.length/\sz=1/\els.length<4611686018427387904then some {val:=kg,di:=[(lv,sl,some (.row au (iX (jQ zs))))],cK:=[],rd:=[cB lv sl]}else none|none=>none
 |_=>none
def jR:List Int->List Int|[]=>[]|x::r=>match r with|[]=>[x]|y::_=>match decide (x=y)with|true=>jR r|false=>x::jR r
def mO(s:St)(aT:Nat)(x:AV):Option fT:=match x with
 |.own [] .full=>some {val:=.own [] .full,di:=[],cK:=[],rd:=[]}|.ref lv sl au off len sz=>match rowAt s.mem lv sl au with|some els=>(sn els).bind λzs=>if off=0/\len=els.length/\sz=1/\els.length<4611686018427387904then some {val:=.ref lv sl aT 0 (jR zs).length 1,di:=[(lv,sl,some (.row aT (iX (jR zs))))],cK:=[],rd:=[cB lv sl]}else none|none=>none
 |_=>none
def Q5(row:Nat):Bool:=Nat.beq (row%65536) 4||(Nat.beq (row%65536) 6&&!Nat.beq (row/65536) 0)
def Ao(row lv dst aT:Nat)(x:AV):fT:=match Q5 row,x with|true,.own [] .full=>{val:=.ref lv dst aT 0 0 (row/65536),di:=[(lv,dst,some (.row aT []))],cK:=[],rd:=[]}|_,v=>{val:=v,di:=[],cK:=[],rd:=[]}
def fJ(x:Option cc)(s:Tr AV)(dflt:Nat):Option Nat:=match x with|none=>some dflt|some o=>gz (o.ev s)
def fo(sz:Nat)(x:AV)(lo:Nat)(hi mx:Option Nat):Option AV:=match x with
 |.d (.sl els)=>let h:=hi.getD els.length;match mx with|none=>if lo<=h/\h<=els.length/\els.all (λe=>e.length==sz)then some (.d (.sl ((els.drop lo).take (h-lo))))else none|some k=>if lo<=h/\h=k/\h<=els.length/\els.all (λe=>e.length==sz)then some (.own ((els.drop lo).take (h-lo)) .full)else none
 |.own els o=>let h:=hi.getD els.length;match mx with|none=>if lo<=h/\h<=els.length/\els.all (λe=>e.length==sz)then match o with|.bC=>some (.own ((els.drop lo).take (h-lo)) .bC)|.full=>if h=els.length then some (.own (els.drop lo) .full)else some (.d (.sl ((els.drop lo).take (h-lo))))|.cK _ _=>some (.d (.sl ((els.drop lo).take (h-lo))))else none|some k=>if lo<=h/\h=k/\h<=els.length/\els.all (λe=>e.length==sz)then match o with|.bC=>if h=lo then some (.own [] .full)else none|_=>some (.own ((els.drop lo).take (h-lo)) .full)else none
 |.ref lv sl au off len sz'=>let h:=hi.getD len;match mx with|none=>if lo<=h/\h<=len/\sz'=sz then some (.ref lv sl au (off+lo) (h-lo) sz)else none|some k=>if lo=h/\h=k/\h<=len then some (.own [] .full)else none
 |_=>none
def ct.run(call:Call)(sh:Nat->Bool)(s:St)(row:Nat)(dst aT:Nat):ct->Option gT
 |.HS x=>match Nat.beq (row%65536) 6&&nL (x.ev s.slots)with|true=>(HY s (s.mem.length-1) dst aT (x.ev s.slots)).map .ck|false=>some (.ck (Ao row (s.mem.length-1) dst aT (x.ev s.slots)))
 |.pick c a b=>(jH (c.ev s.slots)).bind λt=>fT.pure (if t then a.ev s.slots else b.ev s.slots)|.alloc z=>some (.ck {val:=.ptr (s.mem.length-1) dst aT 0 0,di:=[(s.mem.length-1,dst,some (.box aT z))],cK:=[],rd:=[]})|.box x=>match Nat.beq row 14with|true=>(cellsOf (x.ev s.slots)).map λcs=>.ck {val:=.ptr (s.mem.length-2) (1048576+dst) aT 0 0,di:=[(s.mem.length-2,1048576+dst,some (.box aT cs))],cK:=[],rd:=[]}|false=>(cellsOf (x.ev s.slots)).map λcs=>.ck {val:=.ptr (s.mem.length-1) dst aT 0 0,di:=[(s.mem.length-1,dst,some (.box aT cs))],cK:=[],rd:=[]}
 |.build z ps=>(p5 s.slots z ps).bind λcs=>fT.pure (.agg cs)|.buildSlice sz n z ps=>match Nat.beq row 2with
  |true=>match Nat.beq n 0with|true=>none|false=>(p5 s.slots ((List.replicate n z).flatten.map .d) (ps.map λp=>(p.1*sz,sz,p.2))).map λcs=>.ck {val:=.fF (s.mem.length-1) dst aT 0 n sz,di:=[(s.mem.length-1,dst,some (.box aT cs))],cK:=[],rd:=[]}
  |false=>match p6 s.mem s.slots sz (List.replicate n z) ps with|none=>none|some (els,ks)=>match Nat.beq row 0with|true=>some (.ck {val:=.own els .full,di:=ew s.mem ks,cK:=[],rd:=jg ks})|false=>if(s.mem.length-1,dst)∈ks then none else some (.ck {val:=.ref (s.mem.length-1) dst aT 0 n sz,di:=ew s.mem ks++[(s.mem.length-1,dst,some (.row aT els))],cK:=[],rd:=jg ks})
 |.load sz agg x=>(rR s.mem sz (x.ev s.slots)).bind λcs=>(gX agg cs).map λv=>.ck {val:=v,di:=[],cK:=[],rd:=dD (x.ev s.slots)}|.store sz x v=>(qK s.mem sz (x.ev s.slots) (v.ev s.slots)).map .ck|.nilCheck x=>match x.ev s.slots with|.ptr lv sl au i off=>fT.pure (.ptr lv sl au i off)|.fW e off=>fT.pure (.fW e off)|.fk f cs=>fT.pure (.fk f cs)|_=>none
 |.bin op x y=>(Q2 op (x.ev s.slots) (y.ev s.slots)).bind λv=>fT.pure (mM v)|.W6 neg x y=>match jH (x.ev s.slots),jH (y.ev s.slots)with|some a,some b=>fT.pure (mM (.bool (if neg then !(a==b)else a==b)))|_,_=>none
 |.W7 neg sz cells x y=>match x.ev s.slots,y.ev s.slots with|.agg xs,.agg ys=>if xs.length≠sz\/ys.length≠sz then none else(mL xs ys cells).bind λb=>fT.pure (mM (.bool (if neg then !b else b)))|_,_=>none
 |.yR neg x=>match x.ev s.slots with|.d .er=>fT.pure (mM (.bool neg))|.d (.sc .nilIface)=>fT.pure (mM (.bool !neg))|_=>none
 |.un op x=>(unA op (x.ev s.slots)).bind λv=>fT.pure (mM v)|.conv k x=>(sk (x.ev s.slots)).bind λn=>fT.pure (mM (.int k (k.wrap n)))|.field off sz agg x=>match x.ev s.slots with|.agg cs=>if off+sz<=cs.length then(gX agg ((cs.drop off).take sz)).bind fT.pure else none|_=>none
 |.fieldAddr off x=>match x.ev s.slots with|.ptr lv sl au i o=>fT.pure (.ptr lv sl au i (o+off))|.fW e o=>fT.pure (.fW e (o+off))|_=>none
 |.indexAddr sz x i=>(gz (i.ev s.slots)).bind λn=>match x.ev s.slots with
  |.d (.sl els)=>match els[n]?with|some e=>if e.length=sz then fT.pure (.fW e 0)else none|none=>none
  |.own els _=>match els[n]?with|some e=>if e.length=sz then fT.pure (.fW e 0)else none|none=>none
  |.ref lv sl au off ln sz'=>if n<ln/\sz'=sz then fT.pure (.ptr lv sl au (off+n) 0)else none|.fF lv sl au off ln sz'=>if n<ln/\sz'=sz then fT.pure (.ptr lv sl au 0 (off+n*sz))else none|_=>none
 |.kJ n sz x i=>(gz (i.ev s.slots)).bind λk=>if k<n then match x.ev s.slots with|.ptr lv sl au j o=>fT.pure (.ptr lv sl au j (o+k*sz))|.fW e o=>fT.pure (.fW e (o+k*sz))|_=>none else none|.qE n sz agg x i=>(gz (i.ev s.slots)).bind λk=>match x.ev s.slots with|.agg cs=>if k<n/\k*sz+sz<=cs.length then(gX agg ((cs.drop (k*sz)).take sz)).bind fT.pure else none|_=>none
 |.qF x i=>(gz (i.ev s.slots)).bind λk=>match x.ev s.slots with
  |.d (.sc (.string b))=>match b.data.toList[k]?with|some c=>fT.pure (mM (.int .u8 c.toNat))|none=>none
  |_=>none
 |.slice sz x lo hi mx=>match fJ lo s.slots 0,fJ hi s.slots 0,fJ mx s.slots 0with
  |some l,some h,some k=>match Nat.beq row 3&&(mx.isNone&&nL (x.ev s.slots))with|true=>(HX s aT sz (x.ev s.slots) l (hi.map λ_=>h)).map .ck|false=>(fo sz (x.ev s.slots) l (hi.map λ_=>h) (mx.map λ_=>k)).bind fT.pure
  |_,_,_=>none
 |.qG x lo hi=>match x.ev s.slots with
  |.d (.sc (.string b))=>match fJ lo s.slots 0,fJ hi s.slots b.size with|some l,some h=>if l<=h/\h<=b.size then fT.pure (mM (.string (b.extract l h)))else none|_,_=>none
  |_=>none
 |.extract x i=>match x.ev s.slots with|.jF vs=>(vs[i]?).bind fT.pure|_=>none
 |.len x=>match x.ev s.slots with|.d (.sl els)=>fT.pure (p4 els.length)|.own els _=>fT.pure (p4 els.length)|.ref _ _ _ _ n _=>fT.pure (p4 n)|.fF _ _ _ _ n _=>fT.pure (p4 n)|_=>none
 |.HT x=>match x.ev s.slots with|.own els .full=>fT.pure (p4 els.length)|_=>none
 |.FO x=>match x.ev s.slots with|.d (.sc (.string b))=>fT.pure (p4 b.size)|_=>none
 |.DN n=>fT.pure (p4 n)|.Zs x=>match x.ev s.slots with|.d (.sc (.string b))=>fT.pure (.d (.sl (b.data.toList.map λc=>[.sc (.int .u8 c.toNat)])))|_=>none
 |.Zr x=>(dG s.mem (x.ev s.slots)).bind λels=>(bytesOf els).map λl=>.ck {val:=mM (.string (nF l)),di:=[],cK:=[],rd:=dD (x.ev s.slots)}|.FP x y=>match x.ev s.slots,y.ev s.slots with|.d (.sc (.int k a)),.d (.sc (.int k' b))=>if k=k' then fT.pure (mM (.int k (min a b)))else none|_,_=>none
 |.FQ x y=>match x.ev s.slots,y.ev s.slots with|.d (.sc (.int k a)),.d (.sc (.int k' b))=>if k=k' then fT.pure (mM (.int k (max a b)))else none|_,_=>none
 |.append sz bytes x y=>(dP s (!Nat.beq row 0) (uL row (s.mem.length-1) dst).1 (uL row (s.mem.length-1) dst).2 aT sz bytes (x.ev s.slots) (y.ev s.slots)).map .ck|.oP sz bytes z x n=>(gz (n.ev s.slots)).bind λk=>if z.length=sz/\k<=fm/\k*bytes<=ku then(dP s (!Nat.beq row 0) (s.mem.length-1) dst aT sz bytes (x.ev s.slots) (.d (.sl (List.replicate k z)))).map .ck else none|.sliceB n sz x=>match x.ev s.slots with
  |.ptr lv sl au i off=>match Nat.beq i 0with|true=>fT.pure (.fF lv sl au off n sz)|false=>none
  |_=>none
 |.r9 lo n sz x=>match x.ev s.slots with
  |.ptr lv sl au i off=>match Nat.beq i 0&&Nat.blt lo n with|true=>fT.pure (.fF lv sl au (off+lo*sz) (n-lo) sz)|false=>none
  |_=>none
 |.clear sz z x=>match x.ev s.slots with
  |.ref lv sl au off ln sz'=>match rowAt s.mem lv sl au with|some els=>if sz'=sz/\off+ln<=els.length/\z.length=sz then some (.ck {val:=kg,di:=[(lv,sl,some (.row au (splice els off (List.replicate ln z))))],cK:=[],rd:=[cB lv sl]})else none|none=>none
  |_=>none
 |.grow sz x n=>match x.ev s.slots,gz (n.ev s.slots)with|.own [] .full,some _=>some (.ck {val:=.own [] (.cK aT sz),di:=[],cK:=[(aT,true)],rd:=[]})|_,_=>none
 |.clone sz bytes x=>match dG s.mem (x.ev s.slots)with|some _=>(dP s (!Nat.beq row 0) (s.mem.length-1) dst aT sz bytes (.own [] .full) (x.ev s.slots)).map .ck|none=>none
 |.mkSet=>some (.ck {val:=.mp (s.mem.length-1) dst aT,di:=[(s.mem.length-1,dst,some (.mp aT []))],cK:=[],rd:=[]})|.HU m k=>match m.ev s.slots,k.ev s.slots with|.mp lv sl au,.d (.sc (.string b))=>(setAt s.mem lv sl au).map λks=>.ck {val:=mM (.bool (hasB ks b.data.toList)),di:=[],cK:=[],rd:=[cB lv sl]}|_,_=>none
 |.HV m k=>match m.ev s.slots,k.ev s.slots with|.mp lv sl au,.d (.sc (.string b))=>(setAt s.mem lv sl au).map λks=>.ck {val:=kg,di:=[(lv,sl,some (.mp au (sj ks b.data.toList)))],cK:=[],rd:=[cB lv sl]}|_,_=>none
 |.sort x=>(yT s (x.ev s.slots)).map .ck|.compact x=>(mO s aT (x.ev s.slots)).map .ck|.bad=>none|.copy sz x y=>match x.ev s.slots,gB s.mem (y.ev s.slots)with
  |.fF lv sl au off n sz',some news=>match oQ s.mem lv sl au with|some cs=>if sz'=sz/\off+n*sz<=cs.length/\news.all (λe=>e.length==sz)then some (.ck {val:=p4 (min news.length n),di:=[(lv,sl,some (.box au (splice cs off ((news.take (min news.length n)).flatten.map .d))))],cK:=[],rd:=cB lv sl::dD (y.ev s.slots)})else none|none=>none
  |.ref lv sl au off ln sz',some news=>match rowAt s.mem lv sl au with|some els=>if sz'=sz/\off+ln<=els.length/\news.all (λe=>e.length==sz)then some (.ck {val:=p4 (min news.length ln),di:=[(lv,sl,some (.row au (splice els off (news.take (min news.length ln)))))],cK:=[],rd:=cB lv sl::dD (y.ev s.slots)})else none|none=>none
  |_,_=>none
 |.makeSlice sz bytes z l c=>match gz (l.ev s.slots),gz (c.ev s.slots)with|some l,some c=>if l<=c/\bytes*c<=ku/\c<=fm/\z.length=sz then some (.ck {val:=.ref (s.mem.length-1) dst aT 0 l sz,di:=[(s.mem.length-1,dst,some (.row aT (List.replicate l z)))],cK:=[],rd:=[]})else none|_,_=>none
 |.makeFunc f cap=>if(DF s.slots cap).all jI then fT.pure (.fk f (DF s.slots cap))else none|.call f args=>match Nat.beq row 7with|true=>kL call s f (DF s.slots args)|false=>match Nat.beq row 8with|true=>qI call s f (DF s.slots args)|false=>match Nat.beq row 9with|true=>oa call s aT f (DF s.slots args)|false=>match Nat.beq row 10with|true=>od call s aT f (DF s.slots args)|false=>gA call (sh f) row s (s.mem.length-1) dst aT f (DF s.slots args)
 |.vF f args=>match sh f with|true=>gA call true row s (s.mem.length-1) dst aT f (DF s.slots args)|false=>kL call s f (DF s.slots args)
 |.yS x args=>match x.ev s.slots with|.fk f cap=>gA call (sh f) row s (s.mem.length-1) dst aT f (DF s.slots args++cap)|_=>none
def iY(s:Tr AV)(o:bE):Option Bool:=match o.gd with|none=>some true|some (g,b)=>match dz s g with|.d (.sc (.bool t))=>some (t==b)|.jF _=>some false|_=>none
def bE.step(call:Call)(sh:Nat->Bool)(s:St)(aT:Nat)(o:bE):Option gT:=match iY s.slots o with|none=>none|some true=>o.op.run call sh s o.row (o.dst.getD 0) aT|some false=>fT.pure kg
def ji(call:Call)(sh:Nat->Bool)(lN:Nat):Nat->List bE->St->Option St|_,[],s=>some s|i,o::r,s=>match o.step call sh s (lN+i)with|none=>none|some e=>ji call sh lN (i+1) r (s.app o.dst e)
def meets(a b:List (Nat×Nat×Nat)):Bool:=a.any λk=>b.contains k
def lH:gT->Bool|.ck e=>!(e.rd.isEmpty&&e.di.isEmpty&&e.cK.isEmpty)|.all ..=>true
def vH:gT->gT->Bool|.ck a,.ck b=>meets a.rd b.wr||meets a.wr b.rd||meets a.wr b.wr|a,b=>lH a&&lH b
def clear(n9:Nat)(e:gT):List (Nat×gT)->Bool|[]=>true|(i,x)::r=>(n9.testBit i||!vH x e)&&clear n9 e r
def jU(call:Call)(sh:Nat->Bool)(lN:Nat):Nat->List bE->List (Nat×gT)->St->Option St|_,[],_,s=>some s|i,o::r,eg,s=>match o.step call sh s (lN+i)with|none=>none|some e=>match clear o.n9 e eg with|true=>jU call sh lN (i+1) r ((i,e)::eg) (s.app o.dst e)|false=>none
def gh(call:Call)(sh:Nat->Bool)(ops:List bE)(draw:Bool)(s:St):Option St:=let s':={s with nv:=s.nv+ops.length};match draw with|false=>ji call sh s.nv 0 ops s'|true=>jU call sh s.nv 0 ops [] s'
inductive AX where|normal|exit(id:Nat)|ret deriving Inhabited
def exec(call:Call)(sh:Nat->Bool):Nat->AC->St->Option (AX×St)|0,_,_=>none|n+1,c,s=>match c with
 |.skip=>some (.normal,s)|.region ops draw=>(gh call sh ops draw s).map λs'=>(.normal,s')|.seq a b=>match exec call sh n a s with|some (.normal,s')=>exec call sh n b s'|r=>r
 |.cond c a b=>match jH (c.ev s.slots)with|some true=>exec call sh n a s|some false=>exec call sh n b s|none=>none
 |.block id c=>match exec call sh n c s with
  |some (.exit id',s')=>match Nat.beq id' id with|true=>some (.normal,s')|false=>some (.exit id',s')
  |r=>r
 |.loop c=>match exec call sh n c s with|some (.normal,s')=>exec call sh n (.loop c) s'|r=>r
 |.exit id=>some (.exit id,s)|.ret=>some (.ret,s)
def HZ(s:St):Am->Option AV
 |.t n=>match fY (dz s.slots n)with|true=>some (dz s.slots n)|false=>none
 |.cell n sz agg=>(rR s.mem sz (dz s.slots n)).bind (gX agg)
def jV(s:St):List Am->Option (List AV)|[]=>some []|x::r=>match HZ s x,jV s r with|some y,some ys=>some (y::ys)|_,_=>none
def iZ:List AV->AV|[v]=>v|vs=>.jF vs
def dS:Nat->List AV->Tr AV->Tr AV|_,[],t=>t|i,x::r,t=>dS (i+1) r (t.set i (some x))
def W8(Fs:Nat->Option qC):Nat->Call|0,_,_,_,_,_=>none|n+1,f,args,mem,aK,nv=>match Fs f with|none=>none|some fn=>match Nat.beq args.length fn.np with|false=>none|true=>match exec (W8 Fs n) (λg=>((Fs g).map (·.sh)).getD false) n fn.body {slots:=dS 0 args .lf,mem,aK,nv}with|some (.normal,s)|some (.ret,s)=>(jV s fn.res).map λvs=>(iZ vs,s.mem,s.aK,s.nv)|_=>none
end Go.bM
