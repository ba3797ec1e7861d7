/- An abstract machine over pure data: definitions. It mirrors what a cut of Go code computes, without addresses, capacities or the tape. -/
import Derived.Orders
set_option linter.unusedVariables false
set_option linter.unusedSimpArgs false
namespace Go.bJ
open Go
inductive D where|sc(v:Value)|sl(els:List (List D))|er deriving Inhabited
inductive UW where|full|cD(ah sz:Nat)|bC deriving Inhabited
inductive AV where|d(x:D)|own(els:List (List D))(o:UW)|agg(cs:List AV)|iY(vs:List AV)|ref(lv sl ah off len sz:Nat)|ptr(lv sl ah i off:Nat)|fe(lv sl ah off n sz:Nat)|fK(e:List D)(off:Nat)|gp(f:Nat)(cap:List AV)|mp(lv sl ah:Nat)deriving Inhabited
inductive bB where|row(ah:Nat)(els:List (List D))|box(ah:Nat)(cells:List AV)|Nw(ah:Nat)(els:List (List D))|mp(ah:Nat)(ks:List (List UInt8))deriving Inhabited
inductive Tr(α:Type)where|lf|nd(v:Option α)(l r:Tr α)deriving Inhabited
def Tr.get?{α:Type}:Tr α->Nat->Option α|.lf,_=>none|.nd v l r,n=>match Nat.beq n 0with|true=>v|false=>match Nat.beq (n%2) 1with|true=>l.get? (n/2)|false=>r.get? (n/2-1)
def Tr.top{α:Type}:Tr α->Option α|.lf=>none|.nd v _ _=>v
def Tr.left{α:Type}:Tr α->Tr α|.lf=>.lf|.nd _ l _=>l
def Tr.right{α:Type}:Tr α->Tr α|.lf=>.lf|.nd _ _ r=>r
def Tr.Qe{α:Type}:Nat->Tr α->Nat->Option α->Tr α|0,t,_,_=>t|f+1,t,n,x=>match Nat.beq n 0with|true=>.nd x t.left t.right|false=>match Nat.beq (n%2) 1with|true=>.nd t.top (Tr.Qe f t.left (n/2) x) t.right|false=>.nd t.top t.left (Tr.Qe f t.right (n/2-1) x)
def Tr.set{α:Type}(t:Tr α)(n:Nat)(x:Option α):Tr α:=Tr.Qe (n+1) t n x
structure St where
 slots:Tr AV
 mem:List (Tr bB)aI:Tr Unit
 nv:Nat deriving Inhabited
inductive bT where|t(n:Nat)|c(v:AV)deriving Inhabited
def jF:AV:=.iY []
def jG(s:Tr AV)(n:Nat):AV:=(s.get? n).getD jF
def bT.ev(s:Tr AV):bT->AV|.t n=>jG s n|.c v=>v
inductive cj where|GM(x:bT)|pick(c a b:bT)|alloc(zero:List AV)|box(x:bT)|build(zero:List AV)(parts:List (Nat×Nat×bT))|buildSlice(sz n:Nat)(zero:List D)(parts:List (Nat×bT))|load(sz:Nat)(agg:Bool)(x:bT)|store(sz:Nat)(x v:bT)|nilCheck(x:bT)|bin(op:BinOp)(x y:bT)|U4(neg:Bool)(x y:bT)|U5(neg:Bool)(sz:Nat)(cells:List (Nat×Nat))(x y:bT)|xY(neg:Bool)(x:bT)|un(op:UnOp)(x:bT)|conv(k:IntKind)(x:bT)|field(off sz:Nat)(agg:Bool)(x:bT)|fieldAddr(off:Nat)(x:bT)|indexAddr(sz:Nat)(x i:bT)|jY(n sz:Nat)(x i:bT)|pY(n sz:Nat)(agg:Bool)(x i:bT)|pZ(x i:bT)|slice(sz:Nat)(x:bT)(lo hi mx:Option bT)|p4(x:bT)(lo hi:Option bT)|extract(x:bT)(i:Nat)|len(x:bT)|EU(x:bT)|GN(x:bT)|Xv(x:bT)|Xw(x:bT)|mkSet|GO(m k:bT)|GP(m k:bT)|CH(n:Nat)|EV(x y:bT)|EW(x y:bT)|append(sz bytes:Nat)(x y:bT)|nY(sz bytes:Nat)(z:List D)(x n:bT)|copy(sz:Nat)(x y:bT)|makeSlice(sz bytes:Nat)(zero:List D)(len cap:bT)|makeFunc(f:Nat)(cap:List bT)|sliceB(n sz:Nat)(x:bT)|q8(lo n sz:Nat)(x:bT)|clear(sz:Nat)(zero:List D)(x:bT)|grow(sz:Nat)(x n:bT)|clone(sz bytes:Nat)(x:bT)|sort(x:bT)|compact(x:bT)|bad|call(f:Nat)(args:List bT)|uT(f:Nat)(args:List bT)|zZ(x:bT)(args:List bT)deriving Inhabited
structure bz where
 dst:Option Nat
 op:cj
 gd:Option (Nat×Bool)nh:Nat
 row:Nat deriving Inhabited
inductive AC where|skip|region(ops:List bz)(draw:Bool)|seq(a b:AC)|cond(c:bT)(a b:AC)|block(id:Nat)(c:AC)|loop(c:AC)|exit(id:Nat)|ret deriving Inhabited
inductive z6 where|t(n:Nat)|cell(n sz:Nat)(agg:Bool)deriving Inhabited
structure tF where
 np:Nat
 nt:Nat
 res:List z6
 body:AC
 sh:Bool deriving Inhabited
def aK(m:List (Tr bB))(lv sl:Nat):Option bB:=(m[lv]?).bind λt=>t.get? sl
def ct(m:List (Tr bB))(lv sl:Nat)(e:Option bB):List (Tr bB):=m.modify lv λt=>t.set sl e
def rowAt(m:List (Tr bB))(lv sl ah:Nat):Option (List (List D)):=match aK m lv sl with
 |some (.row v els)=>match Nat.beq v ah with|true=>some els|false=>none
 |_=>none
def nZ(m:List (Tr bB))(lv sl ah:Nat):Option (List AV):=match aK m lv sl with
 |some (.box v cs)=>match Nat.beq v ah with|true=>some cs|false=>none
 |_=>none
def setAt(m:List (Tr bB))(lv sl ah:Nat):Option (List (List UInt8)):=match aK m lv sl with
 |some (.mp v ks)=>match Nat.beq v ah with|true=>some ks|false=>none
 |_=>none
def hasB(ks:List (List UInt8))(k:List UInt8):Bool:=ks.any λl=>decide (k=l)
def q9(ks:List (List UInt8))(k:List UInt8):List (List UInt8):=match hasB ks k with|true=>ks|false=>ks++[k]
def qJ(m:List (Tr bB))(lv sl ah:Nat):Option (List (List D)):=match aK m lv sl with
 |some (.row v els)=>match Nat.beq v ah with|true=>some els|false=>none
 |some (.Nw v els)=>match Nat.beq v ah with|true=>some els|false=>none
 |_=>none
def dc(m:List (Tr bB)):AV->Option (List (List D))|.d (.sl els)=>some els|.own els _=>some els|.ref lv sl ah off len _=>(qJ m lv sl ah).bind λels=>if off+len<=els.length then some ((els.drop off).take len)else none|_=>none
def cellsOf:AV->Option (List AV)|.agg cs=>some cs|.iY _=>none|v=>some [v]
def zn(m:List (Tr bB)):AV->Option (D×List (Nat×Nat))|.d x=>some (x,[])|.own els .full=>some (.sl els,[])|.own els (.cD _ _)=>some (.sl els,[])|.ref lv sl ah off len sz=>(dc m (.ref lv sl ah off len sz)).map λels=>(.sl els,[(lv,sl)])|_=>none
def CI(m:List (Tr bB)):List AV->Option (List D×List (Nat×Nat))|[]=>some ([],[])|x::r=>match zn m x,CI m r with|some (y,k),some (ys,ks)=>some (y::ys,k++ks)|_,_=>none
def C7(m:List (Tr bB))(x:AV):Option (List D×List (Nat×Nat)):=(cellsOf x).bind (CI m)
def splice{α:Type}(cs:List α)(off:Nat)(new:List α):List α:=cs.take off++new++cs.drop (off+new.length)
def C8(op:BinOp)(k:IntKind)(a b:Int):Option Int:=let x:=BitVec.ofInt k.bits a;let y:=BitVec.ofInt k.bits b;match op with|.and=>some (k.wrap (x&&&y).toNat)|.or=>some (k.wrap (x|||y).toNat)|.xor=>some (k.wrap (x^^^y).toNat)|.andNot=>some (k.wrap (x&&&~~~y).toNat)|_=>none
def EY(op:BinOp)(k:IntKind)(a:Int)(k':IntKind)(b:Int):Option Value:=match op with|.shl=>if b<0then none else some (.int k (k.wrap (a*2^min b.toNat k.bits)))|.shr=>if b<0then none else some (.int k (a.fdiv (2^min b.toNat k.bits)))|op=>if k≠k' then none else match op with|.add=>some (.int k (k.wrap (a+b)))|.sub=>some (.int k (k.wrap (a-b)))|.mul=>some (.int k (k.wrap (a*b)))|.quo=>if b=0then none else some (.int k (k.wrap (a.tdiv b)))|.rem=>if b=0then none else some (.int k (a.tmod b))|.and|.or|.xor|.andNot=>(C8 op k a b).map (.int k)|.eql=>some (.bool (a==b))|.neq=>some (.bool (a !=b))|.lss=>some (.bool (a<b))|.leq=>some (.bool (a<=b))|.gtr=>some (.bool (a>b))|.geq=>some (.bool (a>=b))|_=>none
def JP(op:BinOp)(x y:ByteArray):Option Value:=match op with|.add=>if((x.size+y.size:Nat):Int)>IntKind.i64.max then none else some (.string (x++y))|.eql=>some (.bool (x.toList==y.toList))|.neq=>some (.bool !(x.toList==y.toList))|.lss=>some (.bool (Op.bytesLess x.toList y.toList))|.leq=>some (.bool (Op.bytesLess x.toList y.toList||x.toList==y.toList))|.gtr=>some (.bool !(Op.bytesLess x.toList y.toList||x.toList==y.toList))|.geq=>some (.bool !(Op.bytesLess x.toList y.toList))|_=>none
def Qf(op:BinOp):AV->AV->Option Value|.d (.sc (.int k a)),.d (.sc (.int k' b))=>EY op k a k' b|.d (.sc (.string a)),.d (.sc (.string b))=>JP op a b|_,_=>none
def GQ(kd:Nat):AV->AV->Option Bool
 |.d (.sc (.bool a)),.d (.sc (.bool b))=>match kd with|0=>some (a==b)|_=>none
 |.d (.sc (.int k a)),.d (.sc (.int k' b))=>match kd with|1=>if k=k' then some (a==b)else none|_=>none
 |.d (.sc (.string a)),.d (.sc (.string b))=>match kd with|0=>none|1=>none|_=>some (a==b)
 |_,_=>none
def lS(xs ys:List AV):List (Nat×Nat)->Option Bool|[]=>some true|o::r=>match xs[o.1]?,ys[o.1]?with
 |some x,some y=>match GQ o.2 x y with|some true=>lS xs ys r|some false=>some false|none=>none
 |_,_=>none
def unA(op:UnOp):AV->Option Value
 |.d (.sc (.bool b))=>match op with|.not=>some (.bool !b)|_=>none
 |.d (.sc (.int k n))=>match op with|.neg=>some (.int k (k.wrap (0-n)))|.xor=>(C8 .xor k (if k.signed then-1 else k.max) n).map (.int k)|_=>none
 |_=>none
def ri:AV->Option Int|.d (.sc (.int _ n))=>some n|_=>none
def gh(x:AV):Option Nat:=(ri x).bind λn=>if 0<=n then some n.toNat else none
def ja:AV->Option Bool|.d (.sc (.bool b))=>some b|_=>none
def lT(v:Value):AV:=.d (.sc v)
def oW(n:Nat):AV:=.d (.sc (.int .i64 n))
def lI:AV->Bool|.agg _|.iY _|.gp _ _=>false|_=>true
structure fH where
 val:AV
 cV:List (Nat×Nat×Option bB)cD:List (Nat×Bool)rd:List (Nat×Nat×Nat)deriving Inhabited
inductive hU where|bW(e:fH)|all(val:AV)(mem:List (Tr bB))(aI:Tr Unit)(nv:Nat)deriving Inhabited
def fH.pure(v:AV):Option hU:=some (.bW {val:=v,cV:=[],cD:=[],rd:=[]})
def cq(lv sl:Nat):Nat×Nat×Nat:=(0,lv,sl)
def jW(v:Nat):Nat×Nat×Nat:=(1,v,0)
def fH.wr(e:fH):List (Nat×Nat×Nat):=e.cV.map (λu=>cq u.1 u.2.1)++e.cD.map λu=>jW u.1
def cZ:AV->List (Nat×Nat×Nat)|.ref lv sl _ _ _ _=>[cq lv sl]|.ptr lv sl _ _ _=>[cq lv sl]|.fe lv sl _ _ _ _=>[cq lv sl]|.mp lv sl _=>[cq lv sl]|_=>[]
def ec:AV->List (Nat×Nat×Nat)|.agg cs=>cs.flatMap cZ|v=>cZ v
def bw(m:List (Tr bB)):List (Nat×Nat×Option bB)->List (Tr bB)|[]=>m|(lv,sl,e)::r=>bw (ct m lv sl e) r
def dS(t:Tr Unit):List (Nat×Bool)->Tr Unit|[]=>t|(v,b)::r=>dS (t.set v (if b then some ()else none)) r
def uU(s:Tr AV)(dst:Option Nat)(v:AV):Tr AV:=match dst with|some n=>s.set n (some v)|none=>s
def St.app(s:St)(dst:Option Nat):hU->St|.bW e=>{slots:=uU s.slots dst e.val,mem:=bw s.mem e.cV,aI:=dS s.aI e.cD,nv:=s.nv}|.all v m t n=>{slots:=uU s.slots dst v,mem:=m,aI:=t,nv:=n}
abbrev Call:=Nat->List AV->List (Tr bB)->Tr Unit->Nat->Option (AV×List (Tr bB)×Tr Unit×Nat)
def cP(m:List (Tr bB)):AV->Option AV|.d x=>some (.d x)|.own els .bC=>some (.own els .bC)|.own els _=>some (.d (.sl els))|.ref lv sl ah off len sz=>(dc m (.ref lv sl ah off len sz)).map λels=>.own els .bC|.gp f []=>some (.gp f [])|_=>none
def ef(m:List (Tr bB)):AV->Option (AV×List (Nat×Nat))|.own els .bC=>some (.own els .bC,[])|.gp f []=>some (.gp f [],[])|x=>(zn m x).map λ(y,k)=>(.d y,k)
def ff(m:List (Tr bB)):List AV->Option (List AV×List (Nat×Nat))|[]=>some ([],[])|x::r=>match ef m x,ff m r with|some (y,k),some (ys,ks)=>some (y::ys,k++ks)|_,_=>none
def wN(m:List (Tr bB)):AV->Option (AV×List (Nat×Nat))|.agg cs=>(ff m cs).map λ(ys,ks)=>(.agg ys,ks)|x=>(cP m x).map λy=>(y,[])
def qK(m:List (Tr bB)):List AV->Option (List AV×List (Nat×Nat))|[]=>some ([],[])|x::r=>match wN m x,qK m r with|some (y,k),some (ys,ks)=>some (y::ys,k++ks)|_,_=>none
def n4(top pk:Nat):Bool:=!Nat.beq pk 0&&!Nat.beq top 0
def bu(cm:List (Tr bB))(top pk k:Nat)(lv sl ah:Nat):AV->Option (AV×List (List (List D)))
 |.d x=>some (.d x,[])|.own els .full=>match !Nat.beq (pk/65536) 0&&Nat.beq k (pk%65536),els with|true,[]=>some (.ref lv sl ah 0 0 (pk/65536),[[]])|_,els=>match n4 top pk||Nat.beq (pk%65536) 65535with|true=>some (.own els .full,[])|false=>some (.d (.sl els),[])
 |.own els (.cD v tz)=>match n4 top pk with|true=>some (.own els (.cD v tz),[])|false=>some (.d (.sl els),[])
 |.ref cL dU gB off len sz=>match Nat.ble top cL with|false=>some (.ref cL dU gB off len sz,[])|true=>match dc cm (.ref cL dU gB off len sz)with|none=>none|some els=>match Nat.beq pk 0with|true=>some (.d (.sl els),[])|false=>match Nat.beq k (pk%65536)with
  |true=>match rowAt cm cL dU gB with|some _=>some (.ref lv sl ah 0 len sz,[els])|none=>none
  |false=>match rowAt cm cL dU gB with|some _=>none|none=>some (.d (.sl els),[])
 |.gp f []=>some (.gp f [],[])|_=>none
def de(cm:List (Tr bB))(top pk lv sl ah:Nat):Nat->List AV->Option (List AV×List (List (List D)))|_,[]=>some ([],[])|k,x::r=>match bu cm top pk k lv sl ah x,de cm top pk lv sl ah (k+1) r with|some (y,u),some (ys,us)=>some (y::ys,u++us)|_,_=>none
def kR(cm:List (Tr bB))(top pk lv sl ah k:Nat):AV->Option (AV×List (List (List D)))|.agg cs=>(de cm top pk lv sl ah k cs).map λ(vs,u)=>(.agg vs,u)|x=>bu cm top pk k lv sl ah x
def fL(cm:List (Tr bB))(top pk lv sl ah:Nat):Nat->List AV->Option (List AV×List (List (List D)))|_,[]=>some ([],[])|k,x::r=>match kR cm top pk lv sl ah k x,fL cm top pk lv sl ah (k+64) r with|some (y,u),some (ys,us)=>some (y::ys,u++us)|_,_=>none
def gC(cm:List (Tr bB))(top pk lv sl ah:Nat):AV->Option (AV×List (List (List D)))|.iY vs=>(fL cm top pk lv sl ah 1 vs).map λ(vs,u)=>(.iY vs,u)|x=>kR cm top pk lv sl ah 1 x
def jZ(lv sl ah:Nat):List (List (List D))->Option (List (Nat×Nat×Option bB))|[]=>some []|[els]=>some [(lv,sl,some (.row ah els))]|_=>none
def bB.lU:bB->Option bB|.row v els=>some (.Nw v els)|.box _ _=>none|.Nw v els=>some (.Nw v els)|.mp _ _=>none
def dV(m:List (Tr bB))(ks:List (Nat×Nat)):List (Nat×Nat×Option bB):=ks.map λk=>(k.1,k.2,(aK m k.1 k.2).bind bB.lU)
def iE(ks:List (Nat×Nat)):List (Nat×Nat×Nat):=ks.map λk=>cq k.1 k.2
def fM:AV->Bool|.iY _=>false|_=>true
def Qg:AV->Bool|.d _=>true|_=>false
def EZ:AV->Bool|.agg cs=>cs.all Qg|x=>Qg x
def ZB:AV->Bool|.iY vs=>vs.all EZ|x=>EZ x
def gr(call:Call)(shared:Bool)(row:Nat)(s:St)(lv sl aO:Nat)(f:Nat)(args:List AV):Option hU:=match shared with
 |false=>match qK s.mem args with|none=>none|some (aL,ks)=>match call f aL [.lf] .lf 0with|none=>none|some (r,cm,_,_)=>match gC cm 0 row lv sl aO r with|none=>none|some (v,us)=>match jZ lv sl aO us with|none=>none|some u=>some (.bW {val:=v,cV:=dV s.mem ks++u,cD:=[],rd:=args.flatMap ec})
 |true=>match args.all fM with|false=>none|true=>match call f args (s.mem++[.lf]) s.aI s.nv with|none=>none|some (r,cm,ts,n)=>match gC cm s.mem.length row lv sl aO r with|none=>none|some (v,us)=>match jZ lv sl aO us with|none=>none|some u=>some (.all v (bw (cm.take s.mem.length) u) ts n)
def wO(m:List (Tr bB)):AV->Option (AV×List (Nat×Nat))|.agg cs=>(ff m cs).map λ(ys,ks)=>(.agg ys,ks)|x=>ef m x
def qL(m:List (Tr bB)):List AV->Option (List AV×List (Nat×Nat))|[]=>some ([],[])|x::r=>match wO m x,qL m r with|some (y,k),some (ys,ks)=>some (y::ys,k++ks)|_,_=>none
def ni(call:Call)(s:St)(aO f:Nat)(args:List AV):Option hU:=match qL s.mem args with|none=>none|some (aL,ks)=>match call f aL [.lf] .lf 0with|none=>none|some (r,cm,_,_)=>match gC cm 0 0 0 0 aO r with|some (v,[])=>some (.bW {val:=v,cV:=dV s.mem ks,cD:=[],rd:=args.flatMap ec})|_=>none
def oK(m:List (Tr bB)):List AV->Option (List AV)|[]=>some []|x::r=>match cP m x,oK m r with|some y,some ys=>some (y::ys)|_,_=>none
def qM(m:List (Tr bB)):AV->Option AV|.agg cs=>(oK m cs).map .agg|x=>cP m x
def p5(m:List (Tr bB)):List AV->Option (List AV)|[]=>some []|x::r=>match qM m x,p5 m r with|some y,some ys=>some (y::ys)|_,_=>none
def nj(call:Call)(s:St)(aO f:Nat)(args:List AV):Option hU:=match p5 s.mem args with|none=>none|some aL=>match call f aL [.lf] .lf 0with|none=>none|some (r,cm,_,_)=>match gC cm 0 0 0 0 aO r with|some (v,[])=>some (.bW {val:=v,cV:=[],cD:=[],rd:=args.flatMap ec})|_=>none
def p6(call:Call)(s:St)(f:Nat)(args:List AV):Option hU:=match args.all fM with|false=>none|true=>match call f args (s.mem++[.lf]) s.aI s.nv with|none=>none|some (r,cm,ts,n)=>some (.all r cm ts n)
def ia(m:List (Tr bB)):AV->Option D|.d x=>some x|.own els _=>some (.sl els)|.ref lv sl ah off len sz=>(dc m (.ref lv sl ah off len sz)).map .sl|_=>none
def iF(m:List (Tr bB)):List AV->Option (List D)|[]=>some []|x::r=>match ia m x,iF m r with|some y,some ys=>some (y::ys)|_,_=>none
def chunk{α:Type}(sz:Nat):Nat->List α->List (List α)|0,_=>[]|n+1,l=>l.take sz::chunk sz n (l.drop sz)
def kL(m:List (Tr bB)):AV->Option AV
 |.agg cs=>(iF m cs).map λds=>.agg (ds.map .d)|.gp f []=>some (.gp f [])|.fe lv sl ah off n sz=>match nZ m lv sl ah with|some cs=>if off+n*sz<=cs.length then(iF m ((cs.drop off).take (n*sz))).map λds=>.d (.sl (chunk sz n ds))else none|none=>none
 |x=>(ia m x).map .d
def uV(m:List (Tr bB)):List AV->Option (List AV)|[]=>some []|x::r=>match kL m x,uV m r with|some y,some ys=>some (y::ys)|_,_=>none
def p7(m:List (Tr bB)):AV->List (Nat×Nat×Nat)|.fe lv sl ah _ _ _=>cq lv sl::(match nZ m lv sl ah with|some cs=>cs.flatMap cZ|none=>[])|v=>ec v
def z7:AV->Bool|.d (.sc _)=>true|.d (.sl [])=>true|_=>false
def C9:AV->Bool|.agg cs=>cs.all z7|x=>z7 x
def Qh:AV->Bool|.iY vs=>vs.all C9|x=>C9 x
def j0(call:Call)(s:St)(f:Nat)(args:List AV):Option hU:=match uV s.mem args with|none=>none|some aL=>match call f aL [.lf] .lf 0with|none=>none|some (r,cm,_,_)=>match gC cm 0 0 0 0 0 r with
 |some (v,[])=>match Qh v with|true=>some (.bW {val:=v,cV:=[],cD:=[],rd:=args.flatMap (p7 s.mem)})|false=>none
 |_=>none
def tU(row top dst:Nat):Nat×Nat:=match Nat.beq (row%65536) 5with|true=>(0,1000000+row/65536)|false=>(top,dst)
def GR(s:Tr AV)(l:List bT):List AV:=l.map (·.ev s)
def oX(s:Tr AV):List AV->List (Nat×Nat×bT)->Option (List AV)|cs,[]=>some cs|cs,(off,sz,x)::r=>match cellsOf (x.ev s)with|some new=>if new.length=sz/\off+sz<=cs.length then oX s (splice cs off new) r else none|none=>none
def oY(m:List (Tr bB))(s:Tr AV)(sz:Nat):List (List D)->List (Nat×bT)->Option (List (List D)×List (Nat×Nat))|els,[]=>some (els,[])|els,(i,x)::r=>match C7 m (x.ev s)with|some (e,ks)=>if e.length=sz/\i<els.length then match oY m s sz (els.set i e) r with|some (els',ks')=>some (els',ks++ks')|none=>none else none|none=>none
def qN(m:List (Tr bB))(sz:Nat):AV->Option (List AV)
 |.ptr lv sl ah i off=>match aK m lv sl with
  |some (.box v cs)=>match Nat.beq v ah,Nat.beq i 0with|true,true=>if off+sz<=cs.length then some ((cs.drop off).take sz)else none|_,_=>none
  |some (.row v els)=>match Nat.beq v ah with
   |true=>match els[i]?with|some e=>if off+sz<=e.length then some (((e.drop off).take sz).map .d)else none|none=>none
   |false=>none
  |some (.Nw v els)=>match Nat.beq v ah with
   |true=>match els[i]?with|some e=>if off+sz<=e.length then some (((e.drop off).take sz).map .d)else none|none=>none
   |false=>none
  |some (.mp _ _)=>none|none=>none
 |.fK e off=>if off+sz<=e.length then some (((e.drop off).take sz).map .d)else none|_=>none
def gD(agg:Bool)(cs:List AV):Option AV:=match agg with|true=>some (.agg cs)|false=>match cs with|[v]=>some v|_=>none
def p8(m:List (Tr bB))(sz:Nat)(p v:AV):Option fH:=
 match p,cellsOf v with|.ptr lv sl ah i off,some new=>if new.length=sz then match aK m lv sl with
  |some (.box v cs)=>match Nat.beq v ah,Nat.beq i 0with|true,true=>if off+sz<=cs.length then some {val:=jF,cV:=[(lv,sl,some (.box v (splice cs off new)))],cD:=[],rd:=[cq lv sl]}else none|_,_=>none
  |some (.row v els)=>match Nat.beq v ah with
   |true=>match els[i]?,CI m new with|some e,some (ds,ks)=>if off+sz<=e.length/\¬(lv,sl)∈ks then some {val:=jF,cV:=dV m ks++[(lv,sl,some (.row v (els.set i (splice e off ds))))],cD:=[],rd:=cq lv sl::iE ks}else none|_,_=>none
   |false=>none
  |some (.Nw _ _)=>none|some (.mp _ _)=>none|none=>none else none|_,_=>none
def gi(m:List (Tr bB)):AV->Option (List (List D))|.d (.sc (.string b))=>some (b.data.toList.map λc=>[.sc (.int .u8 c.toNat)])|x=>dc m x
def eV:Nat:=9223372036854775807
def jP:Nat:=140737488355328
def dA(s:St)(row:Bool)(lv sl aO sz bytes:Nat)(x y:AV):Option fH:=match gi s.mem y with|none=>none|some news=>if news.all (λe=>e.length==sz)then match x with
 |.own els .full=>if els.all (λe=>e.length==sz)/\els.length+news.length<=eV/\(els.length+news.length)*bytes<=jP then match row with|false=>some {val:=.own (els++news) (.cD aO sz),cV:=[],cD:=[(aO,true)],rd:=cZ y}|true=>if els.isEmpty=false/\news.isEmpty=true then none else some {val:=.ref lv sl aO 0 (els.length+news.length) sz,cV:=[(lv,sl,some (.row aO (els++news)))],cD:=[],rd:=cZ y}else none|.own els (.cD v tz)=>if tz=sz/\els.length+news.length<=eV/\(els.length+news.length)*bytes<=jP/\(s.aI.get? v).isSome then some {val:=.own (els++news) (.cD aO sz),cV:=[],cD:=[(v,false),(aO,true)],rd:=jW v::cZ y}else none|.ref cL dU ah off len sz'=>match rowAt s.mem cL dU ah with|some els=>if sz'=sz/\off+len<=els.length/\len+news.length<=eV/\(len+news.length)*bytes<=jP then some {val:=.ref cL dU aO 0 (len+news.length) sz,cV:=[(cL,dU,some (.row aO ((els.drop off).take len++news)))],cD:=[],rd:=cq cL dU::cZ y}else none|none=>none
 |_=>none else none
def bytesOf:List (List D)->Option (List UInt8)|[]=>some []|[.sc (.int .u8 n)]::r=>(bytesOf r).map (UInt8.ofNat n.toNat::·)|_=>none
def mA(l:List UInt8):ByteArray:=⟨l.toArray⟩
def GS(s:St)(aO sz:Nat)(x:AV)(l:Nat)(hi:Option Nat):Option fH:=match x with
 |.ref lv sl ah off len sz'=>match rowAt s.mem lv sl ah with|some els=>if sz'=sz/\l<=hi.getD len/\hi.getD len<=len/\off+len<=els.length then some {val:=.ref lv sl aO 0 (hi.getD len-l) sz,cV:=[(lv,sl,some (.row aO ((els.drop (off+l)).take (hi.getD len-l))))],cD:=[],rd:=[cq lv sl]}else none|none=>none
 |_=>none
def isRow:AV->Bool|.ref ..=>true|_=>false
def GU(s:St)(lv dst aO:Nat)(x:AV):Option fH:=match x with
 |.ref cL dU ah off len sz=>match rowAt s.mem cL dU ah with
  |some els=>match Nat.ble (off+len) els.length with|true=>some {val:=.ref lv dst aO 0 len sz,cV:=[(cL,dU,none),(lv,dst,some (.row aO ((els.drop off).take len)))],cD:=[],rd:=[cq cL dU]}|false=>none
  |none=>none
 |_=>none
def rj:List (List D)->Option (List Int)|[]=>some []|[.sc (.int .i64 z)]::r=>(rj r).map (z::·)|_=>none
def iB(l:List Int):List (List D):=l.map λz=>[.sc (.int .i64 z)]
def z8(x:Int):List Int->List Int|[]=>[x]|y::r=>match decide (x<=y)with|true=>x::y::r|false=>y::z8 x r
def jm:List Int->List Int|[]=>[]|x::r=>z8 x (jm r)
def xZ(s:St)(x:AV):Option fH:=match x with
 |.own [] .full=>some {val:=jF,cV:=[],cD:=[],rd:=[]}|.ref lv sl ah off len sz=>match rowAt s.mem lv sl ah with|some els=>(rj els).bind λzs=>if off=0/\len=els.length/\sz=1/\els.length<4611686018427387904then some {val:=jF,cV:=[(lv,sl,some (.row ah (iB (jm zs))))],cD:=[],rd:=[cq lv sl]}else none|none=>none
 |_=>none
def jo:List Int->List Int|[]=>[]|x::r=>match r with|[]=>[x]|y::_=>match decide (x=y)with|true=>jo r|false=>x::jo r
def lV(s:St)(aO:Nat)(x:AV):Option fH:=match x with
 |.own [] .full=>some {val:=.own [] .full,cV:=[],cD:=[],rd:=[]}|.ref lv sl ah off len sz=>match rowAt s.mem lv sl ah with|some els=>(rj els).bind λzs=>if off=0/\len=els.length/\sz=1/\els.length<4611686018427387904then some {val:=.ref lv sl aO 0 (jo zs).length 1,cV:=[(lv,sl,some (.row aO (iB (jo zs))))],cD:=[],rd:=[cq lv sl]}else none|none=>none
 |_=>none
def Qi(row:Nat):Bool:=Nat.beq (row%65536) 4||(Nat.beq (row%65536) 6&&!Nat.beq (row/65536) 0)
def zo(row lv dst aO:Nat)(x:AV):fH:=match Qi row,x with|true,.own [] .full=>{val:=.ref lv dst aO 0 0 (row/65536),cV:=[(lv,dst,some (.row aO []))],cD:=[],rd:=[]}|_,v=>{val:=v,cV:=[],cD:=[],rd:=[]}
def fq(x:Option bT)(s:Tr AV)(dflt:Nat):Option Nat:=match x with|none=>some dflt|some o=>gh (o.ev s)
def eW(sz:Nat)(x:AV)(lo:Nat)(hi mx:Option Nat):Option AV:=match x with
 |.d (.sl els)=>let h:=hi.getD els.length;match mx with|none=>if lo<=h/\h<=els.length/\els.all (λe=>e.length==sz)then some (.d (.sl ((els.drop lo).take (h-lo))))else none|some k=>if lo<=h/\h=k/\h<=els.length/\els.all (λe=>e.length==sz)then some (.own ((els.drop lo).take (h-lo)) .full)else none
 |.own els o=>let h:=hi.getD els.length;match mx with|none=>if lo<=h/\h<=els.length/\els.all (λe=>e.length==sz)then match o with|.bC=>some (.own ((els.drop lo).take (h-lo)) .bC)|.full=>if h=els.length then some (.own (els.drop lo) .full)else some (.d (.sl ((els.drop lo).take (h-lo))))|.cD _ _=>some (.d (.sl ((els.drop lo).take (h-lo))))else none|some k=>if lo<=h/\h=k/\h<=els.length/\els.all (λe=>e.length==sz)then match o with|.bC=>if h=lo then some (.own [] .full)else none|_=>some (.own ((els.drop lo).take (h-lo)) .full)else none
 |.ref lv sl ah off len sz'=>let h:=hi.getD len;match mx with|none=>if lo<=h/\h<=len/\sz'=sz then some (.ref lv sl ah (off+lo) (h-lo) sz)else none|some k=>if lo=h/\h=k/\h<=len then some (.own [] .full)else none
 |_=>none
def cj.run(call:Call)(sh:Nat->Bool)(s:St)(row:Nat)(dst aO:Nat):cj->Option hU
 |.GM x=>match Nat.beq (row%65536) 6&&isRow (x.ev s.slots)with|true=>(GU s (s.mem.length-1) dst aO (x.ev s.slots)).map .bW|false=>some (.bW (zo row (s.mem.length-1) dst aO (x.ev s.slots)))
 |.pick c a b=>(ja (c.ev s.slots)).bind λt=>fH.pure (if t then a.ev s.slots else b.ev s.slots)|.alloc z=>some (.bW {val:=.ptr (s.mem.length-1) dst aO 0 0,cV:=[(s.mem.length-1,dst,some (.box aO z))],cD:=[],rd:=[]})|.box x=>(cellsOf (x.ev s.slots)).map λcs=>.bW {val:=.ptr (s.mem.length-1) dst aO 0 0,cV:=[(s.mem.length-1,dst,some (.box aO cs))],cD:=[],rd:=[]}|.build z ps=>(oX s.slots z ps).bind λcs=>fH.pure (.agg cs)|.buildSlice sz n z ps=>match Nat.beq row 2with
  |true=>match Nat.beq n 0with|true=>none|false=>(oX s.slots ((List.replicate n z).flatten.map .d) (ps.map λp=>(p.1*sz,sz,p.2))).map λcs=>.bW {val:=.fe (s.mem.length-1) dst aO 0 n sz,cV:=[(s.mem.length-1,dst,some (.box aO cs))],cD:=[],rd:=[]}
  |false=>match oY s.mem s.slots sz (List.replicate n z) ps with|none=>none|some (els,ks)=>match Nat.beq row 0with|true=>some (.bW {val:=.own els .full,cV:=dV s.mem ks,cD:=[],rd:=iE ks})|false=>if(s.mem.length-1,dst)∈ks then none else some (.bW {val:=.ref (s.mem.length-1) dst aO 0 n sz,cV:=dV s.mem ks++[(s.mem.length-1,dst,some (.row aO els))],cD:=[],rd:=iE ks})
 |.load sz agg x=>(qN s.mem sz (x.ev s.slots)).bind λcs=>(gD agg cs).map λv=>.bW {val:=v,cV:=[],cD:=[],rd:=cZ (x.ev s.slots)}|.store sz x v=>(p8 s.mem sz (x.ev s.slots) (v.ev s.slots)).map .bW|.nilCheck x=>match x.ev s.slots with|.ptr lv sl ah i off=>fH.pure (.ptr lv sl ah i off)|.fK e off=>fH.pure (.fK e off)|.gp f cs=>fH.pure (.gp f cs)|_=>none
 |.bin op x y=>(Qf op (x.ev s.slots) (y.ev s.slots)).bind λv=>fH.pure (lT v)|.U4 neg x y=>match ja (x.ev s.slots),ja (y.ev s.slots)with|some a,some b=>fH.pure (lT (.bool (if neg then !(a==b)else a==b)))|_,_=>none
 |.U5 neg sz cells x y=>match x.ev s.slots,y.ev s.slots with|.agg xs,.agg ys=>if xs.length≠sz\/ys.length≠sz then none else(lS xs ys cells).bind λb=>fH.pure (lT (.bool (if neg then !b else b)))|_,_=>none
 |.xY neg x=>match x.ev s.slots with|.d .er=>fH.pure (lT (.bool neg))|.d (.sc .nilIface)=>fH.pure (lT (.bool !neg))|_=>none
 |.un op x=>(unA op (x.ev s.slots)).bind λv=>fH.pure (lT v)|.conv k x=>(ri (x.ev s.slots)).bind λn=>fH.pure (lT (.int k (k.wrap n)))|.field off sz agg x=>match x.ev s.slots with|.agg cs=>if off+sz<=cs.length then(gD agg ((cs.drop off).take sz)).bind fH.pure else none|_=>none
 |.fieldAddr off x=>match x.ev s.slots with|.ptr lv sl ah i o=>fH.pure (.ptr lv sl ah i (o+off))|.fK e o=>fH.pure (.fK e (o+off))|_=>none
 |.indexAddr sz x i=>(gh (i.ev s.slots)).bind λn=>match x.ev s.slots with
  |.d (.sl els)=>match els[n]?with|some e=>if e.length=sz then fH.pure (.fK e 0)else none|none=>none
  |.own els _=>match els[n]?with|some e=>if e.length=sz then fH.pure (.fK e 0)else none|none=>none
  |.ref lv sl ah off ln sz'=>if n<ln/\sz'=sz then fH.pure (.ptr lv sl ah (off+n) 0)else none|.fe lv sl ah off ln sz'=>if n<ln/\sz'=sz then fH.pure (.ptr lv sl ah 0 (off+n*sz))else none|_=>none
 |.jY n sz x i=>(gh (i.ev s.slots)).bind λk=>if k<n then match x.ev s.slots with|.ptr lv sl ah j o=>fH.pure (.ptr lv sl ah j (o+k*sz))|.fK e o=>fH.pure (.fK e (o+k*sz))|_=>none else none|.pY n sz agg x i=>(gh (i.ev s.slots)).bind λk=>match x.ev s.slots with|.agg cs=>if k<n/\k*sz+sz<=cs.length then(gD agg ((cs.drop (k*sz)).take sz)).bind fH.pure else none|_=>none
 |.pZ x i=>(gh (i.ev s.slots)).bind λk=>match x.ev s.slots with
  |.d (.sc (.string b))=>match b.data.toList[k]?with|some c=>fH.pure (lT (.int .u8 c.toNat))|none=>none
  |_=>none
 |.slice sz x lo hi mx=>match fq lo s.slots 0,fq hi s.slots 0,fq mx s.slots 0with
  |some l,some h,some k=>match Nat.beq row 3&&(mx.isNone&&isRow (x.ev s.slots))with|true=>(GS s aO sz (x.ev s.slots) l (hi.map λ_=>h)).map .bW|false=>(eW sz (x.ev s.slots) l (hi.map λ_=>h) (mx.map λ_=>k)).bind fH.pure
  |_,_,_=>none
 |.p4 x lo hi=>match x.ev s.slots with
  |.d (.sc (.string b))=>match fq lo s.slots 0,fq hi s.slots b.size with|some l,some h=>if l<=h/\h<=b.size then fH.pure (lT (.string (b.extract l h)))else none|_,_=>none
  |_=>none
 |.extract x i=>match x.ev s.slots with|.iY vs=>(vs[i]?).bind fH.pure|_=>none
 |.len x=>match x.ev s.slots with|.d (.sl els)=>fH.pure (oW els.length)|.own els _=>fH.pure (oW els.length)|.ref _ _ _ _ n _=>fH.pure (oW n)|.fe _ _ _ _ n _=>fH.pure (oW n)|_=>none
 |.GN x=>match x.ev s.slots with|.own els .full=>fH.pure (oW els.length)|_=>none
 |.EU x=>match x.ev s.slots with|.d (.sc (.string b))=>fH.pure (oW b.size)|_=>none
 |.CH n=>fH.pure (oW n)|.Xw x=>match x.ev s.slots with|.d (.sc (.string b))=>fH.pure (.d (.sl (b.data.toList.map λc=>[.sc (.int .u8 c.toNat)])))|_=>none
 |.Xv x=>(dc s.mem (x.ev s.slots)).bind λels=>(bytesOf els).map λl=>.bW {val:=lT (.string (mA l)),cV:=[],cD:=[],rd:=cZ (x.ev s.slots)}|.EV x y=>match x.ev s.slots,y.ev s.slots with|.d (.sc (.int k a)),.d (.sc (.int k' b))=>if k=k' then fH.pure (lT (.int k (min a b)))else none|_,_=>none
 |.EW x y=>match x.ev s.slots,y.ev s.slots with|.d (.sc (.int k a)),.d (.sc (.int k' b))=>if k=k' then fH.pure (lT (.int k (max a b)))else none|_,_=>none
 |.append sz bytes x y=>(dA s (!Nat.beq row 0) (tU row (s.mem.length-1) dst).1 (tU row (s.mem.length-1) dst).2 aO sz bytes (x.ev s.slots) (y.ev s.slots)).map .bW|.nY sz bytes z x n=>(gh (n.ev s.slots)).bind λk=>if z.length=sz/\k<=eV/\k*bytes<=jP then(dA s (!Nat.beq row 0) (s.mem.length-1) dst aO sz bytes (x.ev s.slots) (.d (.sl (List.replicate k z)))).map .bW else none|.sliceB n sz x=>match x.ev s.slots with
  |.ptr lv sl ah i off=>match Nat.beq i 0with|true=>fH.pure (.fe lv sl ah off n sz)|false=>none
  |_=>none
 |.q8 lo n sz x=>match x.ev s.slots with
  |.ptr lv sl ah i off=>match Nat.beq i 0&&Nat.blt lo n with|true=>fH.pure (.fe lv sl ah (off+lo*sz) (n-lo) sz)|false=>none
  |_=>none
 |.clear sz z x=>match x.ev s.slots with
  |.ref lv sl ah off ln sz'=>match rowAt s.mem lv sl ah with|some els=>if sz'=sz/\off+ln<=els.length/\z.length=sz then some (.bW {val:=jF,cV:=[(lv,sl,some (.row ah (splice els off (List.replicate ln z))))],cD:=[],rd:=[cq lv sl]})else none|none=>none
  |_=>none
 |.grow sz x n=>match x.ev s.slots,gh (n.ev s.slots)with|.own [] .full,some _=>some (.bW {val:=.own [] (.cD aO sz),cV:=[],cD:=[(aO,true)],rd:=[]})|_,_=>none
 |.clone sz bytes x=>match dc s.mem (x.ev s.slots)with|some _=>(dA s (!Nat.beq row 0) (s.mem.length-1) dst aO sz bytes (.own [] .full) (x.ev s.slots)).map .bW|none=>none
 |.mkSet=>some (.bW {val:=.mp (s.mem.length-1) dst aO,cV:=[(s.mem.length-1,dst,some (.mp aO []))],cD:=[],rd:=[]})|.GO m k=>match m.ev s.slots,k.ev s.slots with|.mp lv sl ah,.d (.sc (.string b))=>(setAt s.mem lv sl ah).map λks=>.bW {val:=lT (.bool (hasB ks b.data.toList)),cV:=[],cD:=[],rd:=[cq lv sl]}|_,_=>none
 |.GP m k=>match m.ev s.slots,k.ev s.slots with|.mp lv sl ah,.d (.sc (.string b))=>(setAt s.mem lv sl ah).map λks=>.bW {val:=jF,cV:=[(lv,sl,some (.mp ah (q9 ks b.data.toList)))],cD:=[],rd:=[cq lv sl]}|_,_=>none
 |.sort x=>(xZ s (x.ev s.slots)).map .bW|.compact x=>(lV s aO (x.ev s.slots)).map .bW|.bad=>none|.copy sz x y=>match x.ev s.slots,gi s.mem (y.ev s.slots)with
  |.fe lv sl ah off n sz',some news=>match nZ s.mem lv sl ah with|some cs=>if sz'=sz/\off+n*sz<=cs.length/\news.all (λe=>e.length==sz)then some (.bW {val:=oW (min news.length n),cV:=[(lv,sl,some (.box ah (splice cs off ((news.take (min news.length n)).flatten.map .d))))],cD:=[],rd:=cq lv sl::cZ (y.ev s.slots)})else none|none=>none
  |.ref lv sl ah off ln sz',some news=>match rowAt s.mem lv sl ah with|some els=>if sz'=sz/\off+ln<=els.length/\news.all (λe=>e.length==sz)then some (.bW {val:=oW (min news.length ln),cV:=[(lv,sl,some (.row ah (splice els off (news.take (min news.length ln)))))],cD:=[],rd:=cq lv sl::cZ (y.ev s.slots)})else none|none=>none
  |_,_=>none
 |.makeSlice sz bytes z l c=>match gh (l.ev s.slots),gh (c.ev s.slots)with|some l,some c=>if l<=c/\bytes*c<=jP/\c<=eV/\z.length=sz then some (.bW {val:=.ref (s.mem.length-1) dst aO 0 l sz,cV:=[(s.mem.length-1,dst,some (.row aO (List.replicate l z)))],cD:=[],rd:=[]})else none|_,_=>none
 |.makeFunc f cap=>if(GR s.slots cap).all lI then fH.pure (.gp f (GR s.slots cap))else none|.call f args=>match Nat.beq row 7with|true=>j0 call s f (GR s.slots args)|false=>match Nat.beq row 8with|true=>p6 call s f (GR s.slots args)|false=>match Nat.beq row 9with|true=>ni call s aO f (GR s.slots args)|false=>match Nat.beq row 10with|true=>nj call s aO f (GR s.slots args)|false=>gr call (sh f) row s (s.mem.length-1) dst aO f (GR s.slots args)
 |.uT f args=>match sh f with|true=>gr call true row s (s.mem.length-1) dst aO f (GR s.slots args)|false=>j0 call s f (GR s.slots args)
 |.zZ x args=>match x.ev s.slots with|.gp f cap=>gr call (sh f) row s (s.mem.length-1) dst aO f (GR s.slots args++cap)|_=>none
def jB(s:Tr AV)(o:bz):Option Bool:=match o.gd with|none=>some true|some (g,b)=>match jG s g with|.d (.sc (.bool t))=>some (t==b)|.iY _=>some false|_=>none
def bz.step(call:Call)(sh:Nat->Bool)(s:St)(aO:Nat)(o:bz):Option hU:=match jB s.slots o with|none=>none|some true=>o.op.run call sh s o.row (o.dst.getD 0) aO|some false=>fH.pure jF
def kS(call:Call)(sh:Nat->Bool)(mB:Nat):Nat->List bz->St->Option St|_,[],s=>some s|i,o::r,s=>match o.step call sh s (mB+i)with|none=>none|some e=>kS call sh mB (i+1) r (s.app o.dst e)
def meets(a b:List (Nat×Nat×Nat)):Bool:=a.any λk=>b.contains k
def kM:hU->Bool|.bW e=>!(e.rd.isEmpty&&e.cV.isEmpty&&e.cD.isEmpty)|.all ..=>true
def uW:hU->hU->Bool|.bW a,.bW b=>meets a.rd b.wr||meets a.wr b.rd||meets a.wr b.wr|a,b=>kM a&&kM b
def clear(nh:Nat)(e:hU):List (Nat×hU)->Bool|[]=>true|(i,x)::r=>(nh.testBit i||!uW x e)&&clear nh e r
def j3(call:Call)(sh:Nat->Bool)(mB:Nat):Nat->List bz->List (Nat×hU)->St->Option St|_,[],_,s=>some s|i,o::r,past,s=>match o.step call sh s (mB+i)with|none=>none|some e=>match clear o.nh e past with|true=>j3 call sh mB (i+1) r ((i,e)::past) (s.app o.dst e)|false=>none
def jc(call:Call)(sh:Nat->Bool)(ops:List bz)(draw:Bool)(s:St):Option St:=let s':={s with nv:=s.nv+ops.length};match draw with|false=>kS call sh s.nv 0 ops s'|true=>j3 call sh s.nv 0 ops [] s'
inductive AX where|normal|exit(id:Nat)|ret deriving Inhabited
def exec(call:Call)(sh:Nat->Bool):Nat->AC->St->Option (AX×St)|0,_,_=>none|n+1,c,s=>match c with
 |.skip=>some (.normal,s)|.region ops draw=>(jc call sh ops draw s).map λs'=>(.normal,s')|.seq a b=>match exec call sh n a s with|some (.normal,s')=>exec call sh n b s'|r=>r
 |.cond c a b=>match ja (c.ev s.slots)with|some true=>exec call sh n a s|some false=>exec call sh n b s|none=>none
 |.block id c=>match exec call sh n c s with
  |some (.exit id',s')=>match Nat.beq id' id with|true=>some (.normal,s')|false=>some (.exit id',s')
  |r=>r
 |.loop c=>match exec call sh n c s with|some (.normal,s')=>exec call sh n (.loop c) s'|r=>r
 |.exit id=>some (.exit id,s)|.ret=>some (.ret,s)
def GV(s:St):z6->Option AV
 |.t n=>match fM (jG s.slots n)with|true=>some (jG s.slots n)|false=>none
 |.cell n sz agg=>(qN s.mem sz (jG s.slots n)).bind (gD agg)
def kT(s:St):List z6->Option (List AV)|[]=>some []|x::r=>match GV s x,kT s r with|some y,some ys=>some (y::ys)|_,_=>none
def ju:List AV->AV|[v]=>v|vs=>.iY vs
def eg:Nat->List AV->Tr AV->Tr AV|_,[],t=>t|i,x::r,t=>eg (i+1) r (t.set i (some x))
def U6(Fs:Nat->Option tF):Nat->Call|0,_,_,_,_,_=>none|n+1,f,args,mem,aI,nv=>match Fs f with|none=>none|some fn=>match Nat.beq args.length fn.np with|false=>none|true=>match exec (U6 Fs n) (λg=>((Fs g).map (·.sh)).getD false) n fn.body {slots:=eg 0 args .lf,mem,aI,nv}with|some (.normal,s)|some (.ret,s)=>(kT s fn.res).map λvs=>(ju vs,s.mem,s.aI,s.nv)|_=>none
end Go.bJ
