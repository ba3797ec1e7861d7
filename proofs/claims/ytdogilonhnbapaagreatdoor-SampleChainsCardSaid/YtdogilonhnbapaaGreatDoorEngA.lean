/- An abstract machine over pure data: definitions. It mirrors what a cut of Go code computes, without addresses, capacities or the tape. -/
import Derived.Orders
set_option linter.unusedVariables false
set_option linter.unusedSimpArgs false
namespace Go.bI
open Go
inductive D where|sc(v:Value)|sl(els:List (List D))|er deriving Inhabited
inductive Rm where|full|cB(ai sz:Nat)|bA deriving Inhabited
inductive AV where|d(x:D)|own(els:List (List D))(o:Rm)|agg(cs:List AV)|iF(vs:List AV)|ref(lv sl ai off len sz:Nat)|ptr(lv sl ai i off:Nat)|ff(lv sl ai off n sz:Nat)|fJ(e:List D)(off:Nat)|gm(f:Nat)(cap:List AV)|mp(lv sl ai:Nat)deriving Inhabited
inductive bC where|row(ai:Nat)(els:List (List D))|box(ai:Nat)(cells:List AV)|OF(ai:Nat)(els:List (List D))|mp(ai:Nat)(ks:List (List UInt8))deriving Inhabited
inductive Tr(α:Type)where|lf|nd(v:Option α)(l r:Tr α)deriving Inhabited
def Tr.get?{α:Type}:Tr α->Nat->Option α|.lf,_=>none|.nd v l r,n=>match Nat.beq n 0with|true=>v|false=>match Nat.beq (n%2) 1with|true=>l.get? (n/2)|false=>r.get? (n/2-1)
def Tr.top{α:Type}:Tr α->Option α|.lf=>none|.nd v _ _=>v
def Tr.left{α:Type}:Tr α->Tr α|.lf=>.lf|.nd _ l _=>l
def Tr.right{α:Type}:Tr α->Tr α|.lf=>.lf|.nd _ _ r=>r
def Tr.Rn{α:Type}:Nat->Tr α->Nat->Option α->Tr α|0,t,_,_=>t|f+1,t,n,x=>match Nat.beq n 0with|true=>.nd x t.left t.right|false=>match Nat.beq (n%2) 1with|true=>.nd t.top (Tr.Rn f t.left (n/2) x) t.right|false=>.nd t.top t.left (Tr.Rn f t.right (n/2-1) x)
def Tr.set{α:Type}(t:Tr α)(n:Nat)(x:Option α):Tr α:=Tr.Rn (n+1) t n x
structure St where
 slots:Tr AV
 mem:List (Tr bC)aG:Tr Unit
 nv:Nat deriving Inhabited
inductive bZ where|t(n:Nat)|c(v:AV)deriving Inhabited
def jH:AV:=.iF []
def jt(s:Tr AV)(n:Nat):AV:=(s.get? n).getD jH
def bZ.ev(s:Tr AV):bZ->AV|.t n=>jt s n|.c v=>v
inductive cq where|HQ(x:bZ)|pick(c a b:bZ)|alloc(zero:List AV)|box(x:bZ)|build(zero:List AV)(parts:List (Nat×Nat×bZ))|buildSlice(sz n:Nat)(zero:List D)(parts:List (Nat×bZ))|load(sz:Nat)(agg:Bool)(x:bZ)|store(sz:Nat)(x v:bZ)|nilCheck(x:bZ)|bin(op:BinOp)(x y:bZ)|VT(neg:Bool)(x y:bZ)|VU(neg:Bool)(sz:Nat)(cells:List (Nat×Nat))(x y:bZ)|yp(neg:Bool)(x:bZ)|un(op:UnOp)(x:bZ)|conv(k:IntKind)(x:bZ)|field(off sz:Nat)(agg:Bool)(x:bZ)|fieldAddr(off:Nat)(x:bZ)|indexAddr(sz:Nat)(x i:bZ)|j0(n sz:Nat)(x i:bZ)|qd(n sz:Nat)(agg:Bool)(x i:bZ)|qe(x i:bZ)|slice(sz:Nat)(x:bZ)(lo hi mx:Option bZ)|qf(x:bZ)(lo hi:Option bZ)|extract(x:bZ)(i:Nat)|len(x:bZ)|Fy(x:bZ)|HR(x:bZ)|ZG(x:bZ)|ZH(x:bZ)|mkSet|HS(m k:bZ)|HT(m k:bZ)|Db(n:Nat)|Fz(x y:bZ)|FA(x y:bZ)|append(sz bytes:Nat)(x y:bZ)|od(sz bytes:Nat)(z:List D)(x n:bZ)|copy(sz:Nat)(x y:bZ)|makeSlice(sz bytes:Nat)(zero:List D)(len cap:bZ)|makeFunc(f:Nat)(cap:List bZ)|sliceB(n sz:Nat)(x:bZ)|rK(lo n sz:Nat)(x:bZ)|clear(sz:Nat)(zero:List D)(x:bZ)|grow(sz:Nat)(x n:bZ)|clone(sz bytes:Nat)(x:bZ)|sort(x:bZ)|compact(x:bZ)|bad|call(f:Nat)(args:List bZ)|vi(f:Nat)(args:List bZ)|AF(x:bZ)(args:List bZ)deriving Inhabited
structure bB where
 dst:Option Nat
 op:cq
 gd:Option (Nat×Bool)nB:Nat
 row:Nat deriving Inhabited
inductive AC where|skip|region(ops:List bB)(draw:Bool)|seq(a b:AC)|cond(c:bZ)(a b:AC)|block(id:Nat)(c:AC)|loop(c:AC)|exit(id:Nat)|ret deriving Inhabited
inductive AG where|t(n:Nat)|cell(n sz:Nat)(agg:Bool)deriving Inhabited
structure tV where
 np:Nat
 nt:Nat
 res:List AG
 body:AC
 sh:Bool deriving Inhabited
def aK(m:List (Tr bC))(lv sl:Nat):Option bC:=(m[lv]?).bind λt=>t.get? sl
def cj(m:List (Tr bC))(lv sl:Nat)(e:Option bC):List (Tr bC):=m.modify lv λt=>t.set sl e
def rowAt(m:List (Tr bC))(lv sl ai:Nat):Option (List (List D)):=match aK m lv sl with
 |some (.row v els)=>match Nat.beq v ai with|true=>some els|false=>none
 |_=>none
def gE(m:List (Tr bC))(lv sl ai:Nat):Option (List AV):=match aK m lv sl with
 |some (.box v cs)=>match Nat.beq v ai with|true=>some cs|false=>none
 |_=>none
def setAt(m:List (Tr bC))(lv sl ai:Nat):Option (List (List UInt8)):=match aK m lv sl with
 |some (.mp v ks)=>match Nat.beq v ai with|true=>some ks|false=>none
 |_=>none
def hasB(ks:List (List UInt8))(k:List UInt8):Bool:=ks.any λl=>decide (k=l)
def rL(ks:List (List UInt8))(k:List UInt8):List (List UInt8):=match hasB ks k with|true=>ks|false=>ks++[k]
def qV(m:List (Tr bC))(lv sl ai:Nat):Option (List (List D)):=match aK m lv sl with
 |some (.row v els)=>match Nat.beq v ai with|true=>some els|false=>none
 |some (.OF v els)=>match Nat.beq v ai with|true=>some els|false=>none
 |_=>none
def dm(m:List (Tr bC)):AV->Option (List (List D))|.d (.sl els)=>some els|.own els _=>some els|.ref lv sl ai off len _=>(qV m lv sl ai).bind λels=>if off+len<=els.length then some ((els.drop off).take len)else none|_=>none
def cellsOf:AV->Option (List AV)|.agg cs=>some cs|.iF _=>none|v=>some [v]
def zS(m:List (Tr bC)):AV->Option (D×List (Nat×Nat))|.d x=>some (x,[])|.own els .full=>some (.sl els,[])|.own els (.cB _ _)=>some (.sl els,[])|.ref lv sl ai off len sz=>(dm m (.ref lv sl ai off len sz)).map λels=>(.sl els,[(lv,sl)])|_=>none
def Dc(m:List (Tr bC)):List AV->Option (List D×List (Nat×Nat))|[]=>some ([],[])|x::r=>match zS m x,Dc m r with|some (y,k),some (ys,ks)=>some (y::ys,k++ks)|_,_=>none
def DF(m:List (Tr bC))(x:AV):Option (List D×List (Nat×Nat)):=(cellsOf x).bind (Dc m)
def splice{α:Type}(cs:List α)(off:Nat)(new:List α):List α:=cs.take off++new++cs.drop (off+new.length)
def DG(op:BinOp)(k:IntKind)(a b:Int):Option Int:=let x:=BitVec.ofInt k.bits a;let y:=BitVec.ofInt k.bits b;match op with|.and=>some (k.wrap (x&&&y).toNat)|.or=>some (k.wrap (x|||y).toNat)|.xor=>some (k.wrap (x^^^y).toNat)|.andNot=>some (k.wrap (x&&&~~~y).toNat)|_=>none
def FB(op:BinOp)(k:IntKind)(a:Int)(k':IntKind)(b:Int):Option Value:=match op with|.shl=>if b<0then none else some (.int k (k.wrap (a*2^min b.toNat k.bits)))|.shr=>if b<0then none else some (.int k (a.fdiv (2^min b.toNat k.bits)))|op=>if k≠k' then none else match op with|.add=>some (.int k (k.wrap (a+b)))|.sub=>some (.int k (k.wrap (a-b)))|.mul=>some (.int k (k.wrap (a*b)))|.quo=>if b=0then none else some (.int k (k.wrap (a.tdiv b)))|.rem=>if b=0then none else some (.int k (a.tmod b))|.and|.or|.xor|.andNot=>(DG op k a b).map (.int k)|.eql=>some (.bool (a==b))|.neq=>some (.bool (a !=b))|.lss=>some (.bool (a<b))|.leq=>some (.bool (a<=b))|.gtr=>some (.bool (a>b))|.geq=>some (.bool (a>=b))|_=>none
def KE(op:BinOp)(x y:ByteArray):Option Value:=match op with|.add=>if((x.size+y.size:Nat):Int)>IntKind.i64.max then none else some (.string (x++y))|.eql=>some (.bool (x.toList==y.toList))|.neq=>some (.bool !(x.toList==y.toList))|.lss=>some (.bool (Op.bytesLess x.toList y.toList))|.leq=>some (.bool (Op.bytesLess x.toList y.toList||x.toList==y.toList))|.gtr=>some (.bool !(Op.bytesLess x.toList y.toList||x.toList==y.toList))|.geq=>some (.bool !(Op.bytesLess x.toList y.toList))|_=>none
def Ro(op:BinOp):AV->AV->Option Value|.d (.sc (.int k a)),.d (.sc (.int k' b))=>FB op k a k' b|.d (.sc (.string a)),.d (.sc (.string b))=>KE op a b|_,_=>none
def HU(kd:Nat):AV->AV->Option Bool
 |.d (.sc (.bool a)),.d (.sc (.bool b))=>match kd with|0=>some (a==b)|_=>none
 |.d (.sc (.int k a)),.d (.sc (.int k' b))=>match kd with|1=>if k=k' then some (a==b)else none|_=>none
 |.d (.sc (.string a)),.d (.sc (.string b))=>match kd with|0=>none|1=>none|_=>some (a==b)
 |_,_=>none
def lX(xs ys:List AV):List (Nat×Nat)->Option Bool|[]=>some true|o::r=>match xs[o.1]?,ys[o.1]?with
 |some x,some y=>match HU o.2 x y with|some true=>lX xs ys r|some false=>some false|none=>none
 |_,_=>none
def unA(op:UnOp):AV->Option Value
 |.d (.sc (.bool b))=>match op with|.not=>some (.bool !b)|_=>none
 |.d (.sc (.int k n))=>match op with|.neg=>some (.int k (k.wrap (0-n)))|.xor=>(DG .xor k (if k.signed then-1 else k.max) n).map (.int k)|_=>none
 |_=>none
def rM:AV->Option Int|.d (.sc (.int _ n))=>some n|_=>none
def gh(x:AV):Option Nat:=(rM x).bind λn=>if 0<=n then some n.toNat else none
def je:AV->Option Bool|.d (.sc (.bool b))=>some b|_=>none
def lY(v:Value):AV:=.d (.sc v)
def o9(n:Nat):AV:=.d (.sc (.int .i64 n))
def lP:AV->Bool|.agg _|.iF _|.gm _ _=>false|_=>true
structure fH where
 val:AV
 cX:List (Nat×Nat×Option bC)cB:List (Nat×Bool)rd:List (Nat×Nat×Nat)deriving Inhabited
inductive gB where|bX(e:fH)|all(val:AV)(mem:List (Tr bC))(aG:Tr Unit)(nv:Nat)deriving Inhabited
def fH.pure(v:AV):Option gB:=some (.bX {val:=v,cX:=[],cB:=[],rd:=[]})
def bL(lv sl:Nat):Nat×Nat×Nat:=(0,lv,sl)
def jX(v:Nat):Nat×Nat×Nat:=(1,v,0)
def fH.wr(e:fH):List (Nat×Nat×Nat):=e.cX.map (λu=>bL u.1 u.2.1)++e.cB.map λu=>jX u.1
def di:AV->List (Nat×Nat×Nat)|.ref lv sl _ _ _ _=>[bL lv sl]|.ptr lv sl _ _ _=>[bL lv sl]|.ff lv sl _ _ _ _=>[bL lv sl]|.mp lv sl _=>[bL lv sl]|_=>[]
def dQ:AV->List (Nat×Nat×Nat)|.agg cs=>cs.flatMap di|v=>di v
def bz(m:List (Tr bC)):List (Nat×Nat×Option bC)->List (Tr bC)|[]=>m|(lv,sl,e)::r=>bz (cj m lv sl e) r
def dR(t:Tr Unit):List (Nat×Bool)->Tr Unit|[]=>t|(v,b)::r=>dR (t.set v (if b then some ()else none)) r
def vj(s:Tr AV)(dst:Option Nat)(v:AV):Tr AV:=match dst with|some n=>s.set n (some v)|none=>s
def St.app(s:St)(dst:Option Nat):gB->St|.bX e=>{slots:=vj s.slots dst e.val,mem:=bz s.mem e.cX,aG:=dR s.aG e.cB,nv:=s.nv}|.all v m t n=>{slots:=vj s.slots dst v,mem:=m,aG:=t,nv:=n}
abbrev Call:=Nat->List AV->List (Tr bC)->Tr Unit->Nat->Option (AV×List (Tr bC)×Tr Unit×Nat)
def cR(m:List (Tr bC)):AV->Option AV|.d x=>some (.d x)|.own els .bA=>some (.own els .bA)|.own els _=>some (.d (.sl els))|.ref lv sl ai off len sz=>(dm m (.ref lv sl ai off len sz)).map λels=>.own els .bA|.gm f []=>some (.gm f [])|_=>none
def ep(m:List (Tr bC)):AV->Option (AV×List (Nat×Nat))|.own els .bA=>some (.own els .bA,[])|.gm f []=>some (.gm f [],[])|x=>(zS m x).map λ(y,k)=>(.d y,k)
def fh(m:List (Tr bC)):List AV->Option (List AV×List (Nat×Nat))|[]=>some ([],[])|x::r=>match ep m x,fh m r with|some (y,k),some (ys,ks)=>some (y::ys,k++ks)|_,_=>none
def xe(m:List (Tr bC)):AV->Option (AV×List (Nat×Nat))|.agg cs=>(fh m cs).map λ(ys,ks)=>(.agg ys,ks)|x=>(cR m x).map λy=>(y,[])
def pg(m:List (Tr bC)):List AV->Option (List AV×List (Nat×Nat))|[]=>some ([],[])|x::r=>match xe m x,pg m r with|some (y,k),some (ys,ks)=>some (y::ys,k++ks)|_,_=>none
def oe(top pk:Nat):Bool:=!Nat.beq pk 0&&!Nat.beq top 0
def bu(cm:List (Tr bC))(top pk k:Nat)(lv sl ai:Nat):AV->Option (AV×List (List (List D)))
 |.d x=>some (.d x,[])|.own els .full=>match !Nat.beq (pk/65536) 0&&Nat.beq k (pk%65536),els with|true,[]=>some (.ref lv sl ai 0 0 (pk/65536),[[]])|_,els=>match oe top pk||Nat.beq (pk%65536) 65535with|true=>some (.own els .full,[])|false=>some (.d (.sl els),[])
 |.own els (.cB v tz)=>match oe top pk with|true=>some (.own els (.cB v tz),[])|false=>some (.d (.sl els),[])
 |.ref cG dF gG off len sz=>match Nat.ble top cG with|false=>some (.ref cG dF gG off len sz,[])|true=>match dm cm (.ref cG dF gG off len sz)with|none=>none|some els=>match Nat.beq pk 0with|true=>some (.d (.sl els),[])|false=>match Nat.beq k (pk%65536)with
  |true=>match rowAt cm cG dF gG with|some _=>some (.ref lv sl ai 0 len sz,[els])|none=>none
  |false=>match rowAt cm cG dF gG with|some _=>none|none=>some (.d (.sl els),[])
 |.gm f []=>some (.gm f [],[])|_=>none
def cL(cm:List (Tr bC))(top pk lv sl ai:Nat):Nat->List AV->Option (List AV×List (List (List D)))|_,[]=>some ([],[])|k,x::r=>match bu cm top pk k lv sl ai x,cL cm top pk lv sl ai (k+1) r with|some (y,u),some (ys,us)=>some (y::ys,u++us)|_,_=>none
def kV(cm:List (Tr bC))(top pk lv sl ai k:Nat):AV->Option (AV×List (List (List D)))|.agg cs=>(cL cm top pk lv sl ai k cs).map λ(vs,u)=>(.agg vs,u)|x=>bu cm top pk k lv sl ai x
def fK(cm:List (Tr bC))(top pk lv sl ai:Nat):Nat->List AV->Option (List AV×List (List (List D)))|_,[]=>some ([],[])|k,x::r=>match kV cm top pk lv sl ai k x,fK cm top pk lv sl ai (k+64) r with|some (y,u),some (ys,us)=>some (y::ys,u++us)|_,_=>none
def gu(cm:List (Tr bC))(top pk lv sl ai:Nat):AV->Option (AV×List (List (List D)))|.iF vs=>(fK cm top pk lv sl ai 1 vs).map λ(vs,u)=>(.iF vs,u)|x=>kV cm top pk lv sl ai 1 x
def j4(lv sl ai:Nat):List (List (List D))->Option (List (Nat×Nat×Option bC))|[]=>some []|[els]=>some [(lv,sl,some (.row ai els))]|_=>none
def bC.lZ:bC->Option bC|.row v els=>some (.OF v els)|.box _ _=>none|.OF v els=>some (.OF v els)|.mp _ _=>none
def dS(m:List (Tr bC))(ks:List (Nat×Nat)):List (Nat×Nat×Option bC):=ks.map λk=>(k.1,k.2,(aK m k.1 k.2).bind bC.lZ)
def iG(ks:List (Nat×Nat)):List (Nat×Nat×Nat):=ks.map λk=>bL k.1 k.2
def fL:AV->Bool|.iF _=>false|_=>true
def AH:AV->Bool|.d _=>true|_=>false
def xg:AV->Bool|.agg cs=>cs.all AH|x=>AH x
def FC:AV->Bool|.iF vs=>vs.all xg|x=>xg x
def rN(cs:List AV):List (Tr bC):=cj [.lf,.lf] 0 0 (some (.box 0 cs))
def og:AV->Option AV|.d x=>some (.d x)|.own els .full=>some (.d (.sl els))|.own els (.cB _ _)=>some (.d (.sl els))|_=>none
def jw:List AV->Option (List AV)|[]=>some []|x::r=>match og x,jw r with|some y,some ys=>some (y::ys)|_,_=>none
def FD:AV->Option AV|.agg cs=>(jw cs).map .agg|x=>og x
def oh:List AV->Option (List AV)|[]=>some []|x::r=>match FD x,oh r with|some y,some ys=>some (y::ys)|_,_=>none
def rO(call:Call)(s:St)(f lb sb vb:Nat)(args:List AV):Option gB:=match gE s.mem lb sb vb with|none=>none|some cs=>match jw cs,oh args with
 |some cs0,some aJ=>match call f (.ptr 0 0 0 0 0::aJ) (rN cs0) .lf 1with|none=>none|some (r,cm,_,_)=>match gE cm 0 0 0with|none=>none|some cs'=>match cL cm 1 0 0 0 0 0 cs',gu cm 1 0 0 0 0 r with
  |some (ds,[]),some (val,[])=>match ds.all AH&&FC val with|true=>some (.bX {val,cX:=[(lb,sb,some (.box vb ds))],cB:=[],rd:=bL lb sb::args.flatMap dQ})|false=>none
  |_,_=>none
 |_,_=>none
def om:List AV->Option (Nat×Nat×Nat×List AV)
 |.ptr lv sl ai i off::r=>match Nat.beq i 0&&Nat.beq off 0with|true=>some (lv,sl,ai,r)|false=>none
 |_=>none
def fM(call:Call)(shared:Bool)(row:Nat)(s:St)(lv sl aO:Nat)(f:Nat)(args:List AV):Option gB:=match shared with
 |false=>match om args with|some (lb,sb,vb,rest)=>rO call s f lb sb vb rest|none=>match pg s.mem args with|none=>none|some (aJ,ks)=>match call f aJ [.lf] .lf 0with|none=>none|some (r,cm,_,_)=>match gu cm 0 row lv sl aO r with|none=>none|some (v,us)=>match j4 lv sl aO us with|none=>none|some u=>some (.bX {val:=v,cX:=dS s.mem ks++u,cB:=[],rd:=args.flatMap dQ})
 |true=>match args.all fL with|false=>none|true=>match call f args (s.mem++[.lf]) s.aG s.nv with|none=>none|some (r,cm,ts,n)=>match gu cm s.mem.length row lv sl aO r with|none=>none|some (v,us)=>match j4 lv sl aO us with|none=>none|some u=>some (.all v (bz (cm.take s.mem.length) u) ts n)
def xh(m:List (Tr bC)):AV->Option (AV×List (Nat×Nat))|.agg cs=>(fh m cs).map λ(ys,ks)=>(.agg ys,ks)|x=>ep m x
def qW(m:List (Tr bC)):List AV->Option (List AV×List (Nat×Nat))|[]=>some ([],[])|x::r=>match xh m x,qW m r with|some (y,k),some (ys,ks)=>some (y::ys,k++ks)|_,_=>none
def nC(call:Call)(s:St)(aO f:Nat)(args:List AV):Option gB:=match qW s.mem args with|none=>none|some (aJ,ks)=>match call f aJ [.lf] .lf 0with|none=>none|some (r,cm,_,_)=>match gu cm 0 0 0 0 aO r with|some (v,[])=>some (.bX {val:=v,cX:=dS s.mem ks,cB:=[],rd:=args.flatMap dQ})|_=>none
def oS(m:List (Tr bC)):List AV->Option (List AV)|[]=>some []|x::r=>match cR m x,oS m r with|some y,some ys=>some (y::ys)|_,_=>none
def qX(m:List (Tr bC)):AV->Option AV|.agg cs=>(oS m cs).map .agg|x=>cR m x
def qg(m:List (Tr bC)):List AV->Option (List AV)|[]=>some []|x::r=>match qX m x,qg m r with|some y,some ys=>some (y::ys)|_,_=>none
def nD(call:Call)(s:St)(aO f:Nat)(args:List AV):Option gB:=match qg s.mem args with|none=>none|some aJ=>match call f aJ [.lf] .lf 0with|none=>none|some (r,cm,_,_)=>match gu cm 0 0 0 0 aO r with|some (v,[])=>some (.bX {val:=v,cX:=[],cB:=[],rd:=args.flatMap dQ})|_=>none
def qh(call:Call)(s:St)(f:Nat)(args:List AV):Option gB:=match args.all fL with|false=>none|true=>match call f args (s.mem++[.lf]) s.aG s.nv with|none=>none|some (r,cm,ts,n)=>some (.all r cm ts n)
def hU(m:List (Tr bC)):AV->Option D|.d x=>some x|.own els _=>some (.sl els)|.ref lv sl ai off len sz=>(dm m (.ref lv sl ai off len sz)).map .sl|_=>none
def iH(m:List (Tr bC)):List AV->Option (List D)|[]=>some []|x::r=>match hU m x,iH m r with|some y,some ys=>some (y::ys)|_,_=>none
def chunk{α:Type}(sz:Nat):Nat->List α->List (List α)|0,_=>[]|n+1,l=>l.take sz::chunk sz n (l.drop sz)
def kR(m:List (Tr bC)):AV->Option AV
 |.agg cs=>(iH m cs).map λds=>.agg (ds.map .d)|.gm f []=>some (.gm f [])|.ff lv sl ai off n sz=>match gE m lv sl ai with|some cs=>if off+n*sz<=cs.length then(iH m ((cs.drop off).take (n*sz))).map λds=>.d (.sl (chunk sz n ds))else none|none=>none
 |x=>(hU m x).map .d
def vk(m:List (Tr bC)):List AV->Option (List AV)|[]=>some []|x::r=>match kR m x,vk m r with|some y,some ys=>some (y::ys)|_,_=>none
def qi(m:List (Tr bC)):AV->List (Nat×Nat×Nat)|.ff lv sl ai _ _ _=>bL lv sl::(match gE m lv sl ai with|some cs=>cs.flatMap di|none=>[])|v=>dQ v
def AI:AV->Bool|.d (.sc _)=>true|.d (.sl [])=>true|_=>false
def DH:AV->Bool|.agg cs=>cs.all AI|x=>AI x
def Rp:AV->Bool|.iF vs=>vs.all DH|x=>DH x
def j5(call:Call)(s:St)(f:Nat)(args:List AV):Option gB:=match vk s.mem args with|none=>none|some aJ=>match call f aJ [.lf] .lf 0with|none=>none|some (r,cm,_,_)=>match gu cm 0 0 0 0 0 r with
 |some (v,[])=>match Rp v with|true=>some (.bX {val:=v,cX:=[],cB:=[],rd:=args.flatMap (qi s.mem)})|false=>none
 |_=>none
def uo(row top dst:Nat):Nat×Nat:=match Nat.beq (row%65536) 5with|true=>(0,1000000+row/65536)|false=>(top,dst)
def HV(s:Tr AV)(l:List bZ):List AV:=l.map (·.ev s)
def pq(s:Tr AV):List AV->List (Nat×Nat×bZ)->Option (List AV)|cs,[]=>some cs|cs,(off,sz,x)::r=>match cellsOf (x.ev s)with|some new=>if new.length=sz/\off+sz<=cs.length then pq s (splice cs off new) r else none|none=>none
def pz(m:List (Tr bC))(s:Tr AV)(sz:Nat):List (List D)->List (Nat×bZ)->Option (List (List D)×List (Nat×Nat))|els,[]=>some (els,[])|els,(i,x)::r=>match DF m (x.ev s)with|some (e,ks)=>if e.length=sz/\i<els.length then match pz m s sz (els.set i e) r with|some (els',ks')=>some (els',ks++ks')|none=>none else none|none=>none
def qY(m:List (Tr bC))(sz:Nat):AV->Option (List AV)
 |.ptr lv sl ai i off=>match aK m lv sl with
  |some (.box v cs)=>match Nat.beq v ai,Nat.beq i 0with|true,true=>if off+sz<=cs.length then some ((cs.drop off).take sz)else none|_,_=>none
  |some (.row v els)=>match Nat.beq v ai with
   |true=>match els[i]?with|some e=>if off+sz<=e.length then some (((e.drop off).take sz).map .d)else none|none=>none
   |false=>none
  |some (.OF v els)=>match Nat.beq v ai with
   |true=>match els[i]?with|some e=>if off+sz<=e.length then some (((e.drop off).take sz).map .d)else none|none=>none
   |false=>none
  |some (.mp _ _)=>none|none=>none
 |.fJ e off=>if off+sz<=e.length then some (((e.drop off).take sz).map .d)else none|_=>none
def gH(agg:Bool)(cs:List AV):Option AV:=match agg with|true=>some (.agg cs)|false=>match cs with|[v]=>some v|_=>none
def qj(m:List (Tr bC))(sz:Nat)(p v:AV):Option fH:=
 match p,cellsOf v with|.ptr lv sl ai i off,some new=>if new.length=sz then match aK m lv sl with
  |some (.box v cs)=>match Nat.beq v ai,Nat.beq i 0with|true,true=>if off+sz<=cs.length then some {val:=jH,cX:=[(lv,sl,some (.box v (splice cs off new)))],cB:=[],rd:=[bL lv sl]}else none|_,_=>none
  |some (.row v els)=>match Nat.beq v ai with
   |true=>match els[i]?,Dc m new with|some e,some (ds,ks)=>if off+sz<=e.length/\¬(lv,sl)∈ks then some {val:=jH,cX:=dS m ks++[(lv,sl,some (.row v (els.set i (splice e off ds))))],cB:=[],rd:=bL lv sl::iG ks}else none|_,_=>none
   |false=>none
  |some (.OF _ _)=>none|some (.mp _ _)=>none|none=>none else none|_,_=>none
def gi(m:List (Tr bC)):AV->Option (List (List D))|.d (.sc (.string b))=>some (b.data.toList.map λc=>[.sc (.int .u8 c.toNat)])|x=>dm m x
def eT:Nat:=9223372036854775807
def jO:Nat:=140737488355328
def dA(s:St)(row:Bool)(lv sl aO sz bytes:Nat)(x y:AV):Option fH:=match gi s.mem y with|none=>none|some news=>if news.all (λe=>e.length==sz)then match x with
 |.own els .full=>if els.all (λe=>e.length==sz)/\els.length+news.length<=eT/\(els.length+news.length)*bytes<=jO then match row with|false=>some {val:=.own (els++news) (.cB aO sz),cX:=[],cB:=[(aO,true)],rd:=di y}|true=>if els.isEmpty=false/\news.isEmpty=true then none else some {val:=.ref lv sl aO 0 (els.length+news.length) sz,cX:=[(lv,sl,some (.row aO (els++news)))],cB:=[],rd:=di y}else none|.own els (.cB v tz)=>if tz=sz/\els.length+news.length<=eT/\(els.length+news.length)*bytes<=jO/\(s.aG.get? v).isSome then some {val:=.own (els++news) (.cB aO sz),cX:=[],cB:=[(v,false),(aO,true)],rd:=jX v::di y}else none|.ref cG dF ai off len sz'=>match rowAt s.mem cG dF ai with|some els=>if sz'=sz/\off+len<=els.length/\len+news.length<=eT/\(len+news.length)*bytes<=jO then some {val:=.ref cG dF aO 0 (len+news.length) sz,cX:=[(cG,dF,some (.row aO ((els.drop off).take len++news)))],cB:=[],rd:=bL cG dF::di y}else none|none=>none
 |_=>none else none
def bytesOf:List (List D)->Option (List UInt8)|[]=>some []|[.sc (.int .u8 n)]::r=>(bytesOf r).map (UInt8.ofNat n.toNat::·)|_=>none
def mC(l:List UInt8):ByteArray:=⟨l.toArray⟩
def HW(s:St)(aO sz:Nat)(x:AV)(l:Nat)(hi:Option Nat):Option fH:=match x with
 |.ref lv sl ai off len sz'=>match rowAt s.mem lv sl ai with|some els=>if sz'=sz/\l<=hi.getD len/\hi.getD len<=len/\off+len<=els.length then some {val:=.ref lv sl aO 0 (hi.getD len-l) sz,cX:=[(lv,sl,some (.row aO ((els.drop (off+l)).take (hi.getD len-l))))],cB:=[],rd:=[bL lv sl]}else none|none=>none
 |_=>none
def isRow:AV->Bool|.ref ..=>true|_=>false
def HX(s:St)(lv dst aO:Nat)(x:AV):Option fH:=match x with
 |.ref cG dF ai off len sz=>match rowAt s.mem cG dF ai with
  |some els=>match Nat.ble (off+len) els.length with|true=>some {val:=.ref lv dst aO 0 len sz,cX:=[(cG,dF,none),(lv,dst,some (.row aO ((els.drop off).take len)))],cB:=[],rd:=[bL cG dF]}|false=>none
  |none=>none
 |_=>none
def rP:List (List D)->Option (List Int)|[]=>some []|[.sc (.int .i64 z)]::r=>(rP r).map (z::·)|_=>none
def iA(l:List Int):List (List D):=l.map λz=>[.sc (.int .i64 z)]
def AJ(x:Int):List Int->List Int|[]=>[x]|y::r=>match decide (x<=y)with|true=>x::y::r|false=>y::AJ x r
def jo:List Int->List Int|[]=>[]|x::r=>AJ x (jo r)
def yq(s:St)(x:AV):Option fH:=match x with
 |.own [] .full=>some {val:=jH,cX:=[],cB:=[],rd:=[]}|.ref lv sl ai off len sz=>match rowAt s.mem lv sl ai with|some els=>(rP els).bind λzs=>if off=0/\len=els.length/\sz=1/\els.length<4611686018427387904then some {val:=jH,cX:=[(lv,sl,some (.row ai (iA (jo zs))))],cB:=[],rd:=[bL lv sl]}else none|none=>none
 |_=>none
def jq:List Int->List Int|[]=>[]|x::r=>match r with|[]=>[x]|y::_=>match decide (x=y)with|true=>jq r|false=>x::jq r
def l5(s:St)(aO:Nat)(x:AV):Option fH:=match x with
 |.own [] .full=>some {val:=.own [] .full,cX:=[],cB:=[],rd:=[]}|.ref lv sl ai off len sz=>match rowAt s.mem lv sl ai with|some els=>(rP els).bind λzs=>if off=0/\len=els.length/\sz=1/\els.length<4611686018427387904then some {val:=.ref lv sl aO 0 (jq zs).length 1,cX:=[(lv,sl,some (.row aO (iA (jq zs))))],cB:=[],rd:=[bL lv sl]}else none|none=>none
 |_=>none
def Rq(row:Nat):Bool:=Nat.beq (row%65536) 4||(Nat.beq (row%65536) 6&&!Nat.beq (row/65536) 0)
def zT(row lv dst aO:Nat)(x:AV):fH:=match Rq row,x with|true,.own [] .full=>{val:=.ref lv dst aO 0 0 (row/65536),cX:=[(lv,dst,some (.row aO []))],cB:=[],rd:=[]}|_,v=>{val:=v,cX:=[],cB:=[],rd:=[]}
def fq(x:Option bZ)(s:Tr AV)(dflt:Nat):Option Nat:=match x with|none=>some dflt|some o=>gh (o.ev s)
def eU(sz:Nat)(x:AV)(lo:Nat)(hi mx:Option Nat):Option AV:=match x with
 |.d (.sl els)=>let h:=hi.getD els.length;match mx with|none=>if lo<=h/\h<=els.length/\els.all (λe=>e.length==sz)then some (.d (.sl ((els.drop lo).take (h-lo))))else none|some k=>if lo<=h/\h=k/\h<=els.length/\els.all (λe=>e.length==sz)then some (.own ((els.drop lo).take (h-lo)) .full)else none
 |.own els o=>let h:=hi.getD els.length;match mx with|none=>if lo<=h/\h<=els.length/\els.all (λe=>e.length==sz)then match o with|.bA=>some (.own ((els.drop lo).take (h-lo)) .bA)|.full=>if h=els.length then some (.own (els.drop lo) .full)else some (.d (.sl ((els.drop lo).take (h-lo))))|.cB _ _=>some (.d (.sl ((els.drop lo).take (h-lo))))else none|some k=>if lo<=h/\h=k/\h<=els.length/\els.all (λe=>e.length==sz)then match o with|.bA=>if h=lo then some (.own [] .full)else none|_=>some (.own ((els.drop lo).take (h-lo)) .full)else none
 |.ref lv sl ai off len sz'=>let h:=hi.getD len;match mx with|none=>if lo<=h/\h<=len/\sz'=sz then some (.ref lv sl ai (off+lo) (h-lo) sz)else none|some k=>if lo=h/\h=k/\h<=len then some (.own [] .full)else none
 |_=>none
def cq.run(call:Call)(sh:Nat->Bool)(s:St)(row:Nat)(dst aO:Nat):cq->Option gB
 |.HQ x=>match Nat.beq (row%65536) 6&&isRow (x.ev s.slots)with|true=>(HX s (s.mem.length-1) dst aO (x.ev s.slots)).map .bX|false=>some (.bX (zT row (s.mem.length-1) dst aO (x.ev s.slots)))
 |.pick c a b=>(je (c.ev s.slots)).bind λt=>fH.pure (if t then a.ev s.slots else b.ev s.slots)|.alloc z=>some (.bX {val:=.ptr (s.mem.length-1) dst aO 0 0,cX:=[(s.mem.length-1,dst,some (.box aO z))],cB:=[],rd:=[]})|.box x=>(cellsOf (x.ev s.slots)).map λcs=>.bX {val:=.ptr (s.mem.length-1) dst aO 0 0,cX:=[(s.mem.length-1,dst,some (.box aO cs))],cB:=[],rd:=[]}|.build z ps=>(pq s.slots z ps).bind λcs=>fH.pure (.agg cs)|.buildSlice sz n z ps=>match Nat.beq row 2with
  |true=>match Nat.beq n 0with|true=>none|false=>(pq s.slots ((List.replicate n z).flatten.map .d) (ps.map λp=>(p.1*sz,sz,p.2))).map λcs=>.bX {val:=.ff (s.mem.length-1) dst aO 0 n sz,cX:=[(s.mem.length-1,dst,some (.box aO cs))],cB:=[],rd:=[]}
  |false=>match pz s.mem s.slots sz (List.replicate n z) ps with|none=>none|some (els,ks)=>match Nat.beq row 0with|true=>some (.bX {val:=.own els .full,cX:=dS s.mem ks,cB:=[],rd:=iG ks})|false=>if(s.mem.length-1,dst)∈ks then none else some (.bX {val:=.ref (s.mem.length-1) dst aO 0 n sz,cX:=dS s.mem ks++[(s.mem.length-1,dst,some (.row aO els))],cB:=[],rd:=iG ks})
 |.load sz agg x=>(qY s.mem sz (x.ev s.slots)).bind λcs=>(gH agg cs).map λv=>.bX {val:=v,cX:=[],cB:=[],rd:=di (x.ev s.slots)}|.store sz x v=>(qj s.mem sz (x.ev s.slots) (v.ev s.slots)).map .bX|.nilCheck x=>match x.ev s.slots with|.ptr lv sl ai i off=>fH.pure (.ptr lv sl ai i off)|.fJ e off=>fH.pure (.fJ e off)|.gm f cs=>fH.pure (.gm f cs)|_=>none
 |.bin op x y=>(Ro op (x.ev s.slots) (y.ev s.slots)).bind λv=>fH.pure (lY v)|.VT neg x y=>match je (x.ev s.slots),je (y.ev s.slots)with|some a,some b=>fH.pure (lY (.bool (if neg then !(a==b)else a==b)))|_,_=>none
 |.VU neg sz cells x y=>match x.ev s.slots,y.ev s.slots with|.agg xs,.agg ys=>if xs.length≠sz\/ys.length≠sz then none else(lX xs ys cells).bind λb=>fH.pure (lY (.bool (if neg then !b else b)))|_,_=>none
 |.yp neg x=>match x.ev s.slots with|.d .er=>fH.pure (lY (.bool neg))|.d (.sc .nilIface)=>fH.pure (lY (.bool !neg))|_=>none
 |.un op x=>(unA op (x.ev s.slots)).bind λv=>fH.pure (lY v)|.conv k x=>(rM (x.ev s.slots)).bind λn=>fH.pure (lY (.int k (k.wrap n)))|.field off sz agg x=>match x.ev s.slots with|.agg cs=>if off+sz<=cs.length then(gH agg ((cs.drop off).take sz)).bind fH.pure else none|_=>none
 |.fieldAddr off x=>match x.ev s.slots with|.ptr lv sl ai i o=>fH.pure (.ptr lv sl ai i (o+off))|.fJ e o=>fH.pure (.fJ e (o+off))|_=>none
 |.indexAddr sz x i=>(gh (i.ev s.slots)).bind λn=>match x.ev s.slots with
  |.d (.sl els)=>match els[n]?with|some e=>if e.length=sz then fH.pure (.fJ e 0)else none|none=>none
  |.own els _=>match els[n]?with|some e=>if e.length=sz then fH.pure (.fJ e 0)else none|none=>none
  |.ref lv sl ai off ln sz'=>if n<ln/\sz'=sz then fH.pure (.ptr lv sl ai (off+n) 0)else none|.ff lv sl ai off ln sz'=>if n<ln/\sz'=sz then fH.pure (.ptr lv sl ai 0 (off+n*sz))else none|_=>none
 |.j0 n sz x i=>(gh (i.ev s.slots)).bind λk=>if k<n then match x.ev s.slots with|.ptr lv sl ai j o=>fH.pure (.ptr lv sl ai j (o+k*sz))|.fJ e o=>fH.pure (.fJ e (o+k*sz))|_=>none else none|.qd n sz agg x i=>(gh (i.ev s.slots)).bind λk=>match x.ev s.slots with|.agg cs=>if k<n/\k*sz+sz<=cs.length then(gH agg ((cs.drop (k*sz)).take sz)).bind fH.pure else none|_=>none
 |.qe x i=>(gh (i.ev s.slots)).bind λk=>match x.ev s.slots with
  |.d (.sc (.string b))=>match b.data.toList[k]?with|some c=>fH.pure (lY (.int .u8 c.toNat))|none=>none
  |_=>none
 |.slice sz x lo hi mx=>match fq lo s.slots 0,fq hi s.slots 0,fq mx s.slots 0with
  |some l,some h,some k=>match Nat.beq row 3&&(mx.isNone&&isRow (x.ev s.slots))with|true=>(HW s aO sz (x.ev s.slots) l (hi.map λ_=>h)).map .bX|false=>(eU sz (x.ev s.slots) l (hi.map λ_=>h) (mx.map λ_=>k)).bind fH.pure
  |_,_,_=>none
 |.qf x lo hi=>match x.ev s.slots with
  |.d (.sc (.string b))=>match fq lo s.slots 0,fq hi s.slots b.size with|some l,some h=>if l<=h/\h<=b.size then fH.pure (lY (.string (b.extract l h)))else none|_,_=>none
  |_=>none
 |.extract x i=>match x.ev s.slots with|.iF vs=>(vs[i]?).bind fH.pure|_=>none
 |.len x=>match x.ev s.slots with|.d (.sl els)=>fH.pure (o9 els.length)|.own els _=>fH.pure (o9 els.length)|.ref _ _ _ _ n _=>fH.pure (o9 n)|.ff _ _ _ _ n _=>fH.pure (o9 n)|_=>none
 |.HR x=>match x.ev s.slots with|.own els .full=>fH.pure (o9 els.length)|_=>none
 |.Fy x=>match x.ev s.slots with|.d (.sc (.string b))=>fH.pure (o9 b.size)|_=>none
 |.Db n=>fH.pure (o9 n)|.ZH x=>match x.ev s.slots with|.d (.sc (.string b))=>fH.pure (.d (.sl (b.data.toList.map λc=>[.sc (.int .u8 c.toNat)])))|_=>none
 |.ZG x=>(dm s.mem (x.ev s.slots)).bind λels=>(bytesOf els).map λl=>.bX {val:=lY (.string (mC l)),cX:=[],cB:=[],rd:=di (x.ev s.slots)}|.Fz x y=>match x.ev s.slots,y.ev s.slots with|.d (.sc (.int k a)),.d (.sc (.int k' b))=>if k=k' then fH.pure (lY (.int k (min a b)))else none|_,_=>none
 |.FA x y=>match x.ev s.slots,y.ev s.slots with|.d (.sc (.int k a)),.d (.sc (.int k' b))=>if k=k' then fH.pure (lY (.int k (max a b)))else none|_,_=>none
 |.append sz bytes x y=>(dA s (!Nat.beq row 0) (uo row (s.mem.length-1) dst).1 (uo row (s.mem.length-1) dst).2 aO sz bytes (x.ev s.slots) (y.ev s.slots)).map .bX|.od sz bytes z x n=>(gh (n.ev s.slots)).bind λk=>if z.length=sz/\k<=eT/\k*bytes<=jO then(dA s (!Nat.beq row 0) (s.mem.length-1) dst aO sz bytes (x.ev s.slots) (.d (.sl (List.replicate k z)))).map .bX else none|.sliceB n sz x=>match x.ev s.slots with
  |.ptr lv sl ai i off=>match Nat.beq i 0with|true=>fH.pure (.ff lv sl ai off n sz)|false=>none
  |_=>none
 |.rK lo n sz x=>match x.ev s.slots with
  |.ptr lv sl ai i off=>match Nat.beq i 0&&Nat.blt lo n with|true=>fH.pure (.ff lv sl ai (off+lo*sz) (n-lo) sz)|false=>none
  |_=>none
 |.clear sz z x=>match x.ev s.slots with
  |.ref lv sl ai off ln sz'=>match rowAt s.mem lv sl ai with|some els=>if sz'=sz/\off+ln<=els.length/\z.length=sz then some (.bX {val:=jH,cX:=[(lv,sl,some (.row ai (splice els off (List.replicate ln z))))],cB:=[],rd:=[bL lv sl]})else none|none=>none
  |_=>none
 |.grow sz x n=>match x.ev s.slots,gh (n.ev s.slots)with|.own [] .full,some _=>some (.bX {val:=.own [] (.cB aO sz),cX:=[],cB:=[(aO,true)],rd:=[]})|_,_=>none
 |.clone sz bytes x=>match dm s.mem (x.ev s.slots)with|some _=>(dA s (!Nat.beq row 0) (s.mem.length-1) dst aO sz bytes (.own [] .full) (x.ev s.slots)).map .bX|none=>none
 |.mkSet=>some (.bX {val:=.mp (s.mem.length-1) dst aO,cX:=[(s.mem.length-1,dst,some (.mp aO []))],cB:=[],rd:=[]})|.HS m k=>match m.ev s.slots,k.ev s.slots with|.mp lv sl ai,.d (.sc (.string b))=>(setAt s.mem lv sl ai).map λks=>.bX {val:=lY (.bool (hasB ks b.data.toList)),cX:=[],cB:=[],rd:=[bL lv sl]}|_,_=>none
 |.HT m k=>match m.ev s.slots,k.ev s.slots with|.mp lv sl ai,.d (.sc (.string b))=>(setAt s.mem lv sl ai).map λks=>.bX {val:=jH,cX:=[(lv,sl,some (.mp ai (rL ks b.data.toList)))],cB:=[],rd:=[bL lv sl]}|_,_=>none
 |.sort x=>(yq s (x.ev s.slots)).map .bX|.compact x=>(l5 s aO (x.ev s.slots)).map .bX|.bad=>none|.copy sz x y=>match x.ev s.slots,gi s.mem (y.ev s.slots)with
  |.ff lv sl ai off n sz',some news=>match gE s.mem lv sl ai with|some cs=>if sz'=sz/\off+n*sz<=cs.length/\news.all (λe=>e.length==sz)then some (.bX {val:=o9 (min news.length n),cX:=[(lv,sl,some (.box ai (splice cs off ((news.take (min news.length n)).flatten.map .d))))],cB:=[],rd:=bL lv sl::di (y.ev s.slots)})else none|none=>none
  |.ref lv sl ai off ln sz',some news=>match rowAt s.mem lv sl ai with|some els=>if sz'=sz/\off+ln<=els.length/\news.all (λe=>e.length==sz)then some (.bX {val:=o9 (min news.length ln),cX:=[(lv,sl,some (.row ai (splice els off (news.take (min news.length ln)))))],cB:=[],rd:=bL lv sl::di (y.ev s.slots)})else none|none=>none
  |_,_=>none
 |.makeSlice sz bytes z l c=>match gh (l.ev s.slots),gh (c.ev s.slots)with|some l,some c=>if l<=c/\bytes*c<=jO/\c<=eT/\z.length=sz then some (.bX {val:=.ref (s.mem.length-1) dst aO 0 l sz,cX:=[(s.mem.length-1,dst,some (.row aO (List.replicate l z)))],cB:=[],rd:=[]})else none|_,_=>none
 |.makeFunc f cap=>if(HV s.slots cap).all lP then fH.pure (.gm f (HV s.slots cap))else none|.call f args=>match Nat.beq row 7with|true=>j5 call s f (HV s.slots args)|false=>match Nat.beq row 8with|true=>qh call s f (HV s.slots args)|false=>match Nat.beq row 9with|true=>nC call s aO f (HV s.slots args)|false=>match Nat.beq row 10with|true=>nD call s aO f (HV s.slots args)|false=>fM call (sh f) row s (s.mem.length-1) dst aO f (HV s.slots args)
 |.vi f args=>match sh f with|true=>fM call true row s (s.mem.length-1) dst aO f (HV s.slots args)|false=>j5 call s f (HV s.slots args)
 |.AF x args=>match x.ev s.slots with|.gm f cap=>fM call (sh f) row s (s.mem.length-1) dst aO f (HV s.slots args++cap)|_=>none
def jC(s:Tr AV)(o:bB):Option Bool:=match o.gd with|none=>some true|some (g,b)=>match jt s g with|.d (.sc (.bool t))=>some (t==b)|.iF _=>some false|_=>none
def bB.step(call:Call)(sh:Nat->Bool)(s:St)(aO:Nat)(o:bB):Option gB:=match jC s.slots o with|none=>none|some true=>o.op.run call sh s o.row (o.dst.getD 0) aO|some false=>fH.pure jH
def kW(call:Call)(sh:Nat->Bool)(mD:Nat):Nat->List bB->St->Option St|_,[],s=>some s|i,o::r,s=>match o.step call sh s (mD+i)with|none=>none|some e=>kW call sh mD (i+1) r (s.app o.dst e)
def meets(a b:List (Nat×Nat×Nat)):Bool:=a.any λk=>b.contains k
def kS:gB->Bool|.bX e=>!(e.rd.isEmpty&&e.cX.isEmpty&&e.cB.isEmpty)|.all ..=>true
def vl:gB->gB->Bool|.bX a,.bX b=>meets a.rd b.wr||meets a.wr b.rd||meets a.wr b.wr|a,b=>kS a&&kS b
def clear(nB:Nat)(e:gB):List (Nat×gB)->Bool|[]=>true|(i,x)::r=>(nB.testBit i||!vl x e)&&clear nB e r
def j6(call:Call)(sh:Nat->Bool)(mD:Nat):Nat->List bB->List (Nat×gB)->St->Option St|_,[],_,s=>some s|i,o::r,past,s=>match o.step call sh s (mD+i)with|none=>none|some e=>match clear o.nB e past with|true=>j6 call sh mD (i+1) r ((i,e)::past) (s.app o.dst e)|false=>none
def jf(call:Call)(sh:Nat->Bool)(ops:List bB)(draw:Bool)(s:St):Option St:=let s':={s with nv:=s.nv+ops.length};match draw with|false=>kW call sh s.nv 0 ops s'|true=>j6 call sh s.nv 0 ops [] s'
inductive AX where|normal|exit(id:Nat)|ret deriving Inhabited
def exec(call:Call)(sh:Nat->Bool):Nat->AC->St->Option (AX×St)|0,_,_=>none|n+1,c,s=>match c with
 |.skip=>some (.normal,s)|.region ops draw=>(jf call sh ops draw s).map λs'=>(.normal,s')|.seq a b=>match exec call sh n a s with|some (.normal,s')=>exec call sh n b s'|r=>r
 |.cond c a b=>match je (c.ev s.slots)with|some true=>exec call sh n a s|some false=>exec call sh n b s|none=>none
 |.block id c=>match exec call sh n c s with
  |some (.exit id',s')=>match Nat.beq id' id with|true=>some (.normal,s')|false=>some (.exit id',s')
  |r=>r
 |.loop c=>match exec call sh n c s with|some (.normal,s')=>exec call sh n (.loop c) s'|r=>r
 |.exit id=>some (.exit id,s)|.ret=>some (.ret,s)
def HY(s:St):AG->Option AV
 |.t n=>match fL (jt s.slots n)with|true=>some (jt s.slots n)|false=>none
 |.cell n sz agg=>(qY s.mem sz (jt s.slots n)).bind (gH agg)
def kX(s:St):List AG->Option (List AV)|[]=>some []|x::r=>match HY s x,kX s r with|some y,some ys=>some (y::ys)|_,_=>none
def jr:List AV->AV|[v]=>v|vs=>.iF vs
def dU:Nat->List AV->Tr AV->Tr AV|_,[],t=>t|i,x::r,t=>dU (i+1) r (t.set i (some x))
def VV(Fs:Nat->Option tV):Nat->Call|0,_,_,_,_,_=>none|n+1,f,args,mem,aG,nv=>match Fs f with|none=>none|some fn=>match Nat.beq args.length fn.np with|false=>none|true=>match exec (VV Fs n) (λg=>((Fs g).map (·.sh)).getD false) n fn.body {slots:=dU 0 args .lf,mem,aG,nv}with|some (.normal,s)|some (.ret,s)=>(kX s fn.res).map λvs=>(jr vs,s.mem,s.aG,s.nv)|_=>none
end Go.bI
