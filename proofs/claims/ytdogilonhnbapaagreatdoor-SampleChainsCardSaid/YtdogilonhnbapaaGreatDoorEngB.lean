/- From the model's code to the abstract machine's code: a function that the kernel runs. -/
import Derived.Test.YtdogilonhnbapaaGreatDoorEngA
set_option linter.unusedVariables false
set_option linter.unusedSimpArgs false
namespace Go.bI
open Go
def ir:Value->Option AV
 |.slice none 0 0=>some (.own [] .full)|.slice _ _ _=>none|.agg _=>none|.tuple _=>none|.func fn first cap=>match fn with|.func f=>if first.size=0/\cap.size=0then some (.gm f [])else none|_=>none
 |v=>some (.d (.sc v))
def fu:List Value->Option (List AV)|[]=>some []|v::r=>match ir v,fu r with|some x,some xs=>some (x::xs)|_,_=>none
def uq:Value->Option AV|.agg cs=>(fu cs.toList).map .agg|.tuple vs=>if vs.size=0then some (.iF [])else none|v=>ir v
def ur:Value->Option D|.slice none 0 0=>some (.sl [])|.slice _ _ _=>none|.agg _=>none|.tuple _=>none|.func _ _ _=>none|v=>some (.sc v)
def jg:List Value->Option (List D)|[]=>some []|v::r=>match ur v,jg r with|some x,some xs=>some (x::xs)|_,_=>none
def cY:Operand->Option bZ|.tmp t=>some (.t t)|.const v=>(uq v).map .c|.func f=>some (.c (.gm f []))|.global _=>none
def ju:List Operand->Option (List bZ)|[]=>some []|x::r=>match cY x,ju r with|some y,some ys=>some (y::ys)|_,_=>none
def qk:Option Operand->Option (Option bZ)|none=>some none|some x=>(cY x).map some
def nE(P:Program)(t:TypeId):Option Bool:=match P.underlying t with|some (.struct _)|some (.array _ _)=>some true|some _=>some false|none=>none
def nF(P:Program)(t:TypeId):Option (List Value):=(P.info? t).bind λi=>i.zero.map λv=>v.cells.toList
def de(P:Program)(t:TypeId):Option Nat:=(P.info? t).map (·.size)
def oo(P:Program):Nat->TypeId->Nat->Option (List (Nat×Nat))|0,_,_=>none|n+1,t,off=>match de P t,P.underlying t with|some 1,some .bool=>some [(off,0)]|some 1,some (.int _)=>some [(off,1)]|some 1,some .string=>some [(off,2)]|some sz,some (.struct fs)=>if P.stoodInHeld t then none else fs.toList.foldr (λf acc=>match acc,de P f.type with|some l,some fz=>if f.name= "_"\/sz<f.offset+fz then none else(oo P n f.type (off+f.offset)).map (·++l)|_,_=>none) (some [])|_,_=>none
def rQ(place:Nat->Option (Nat×Nat)):List (Nat×Operand)->Option (List (Nat×Nat×bZ))|[]=>some []|(i,x)::r=>match place i,cY x,rQ place r with|some (off,sz),some y,some ys=>some ((off,sz,y)::ys)|_,_,_=>none
def FE(P:Program)(fs:Array Field):Option (List (Nat×Nat)):=fs.toList.mapM λf=>(P.info? f.type).map λi=>(f.offset,i.size)
def oq:List (Nat×Operand)->Option (List (Nat×bZ))|[]=>some []|(i,x)::r=>match cY x,oq r with|some y,some ys=>some ((i,y)::ys)|_,_=>none
def Nd(P:Program)(op:BinOp)(neg:Bool)(t:TypeId)(x y:bZ):Option cq:=match P.underlying t with
 |some .bool=>some (.VT neg x y)|some (.int _)|some .string=>some (.bin op x y)|some (.slice _)=>some .bad|some (.interface _)=>match y with|.c (.d (.sc .nilIface))=>some (.yp neg x)|_=>none
 |some (.struct _)=>if P.eqGuardType P.depth t then none else match oo P 20 t 0,de P t with|some l,some sz=>some (.VU neg sz l x y)|_,_=>none
 |_=>none
def vm(P:Program)(t:TypeId):Option (Nat×Nat):=match P.underlying t with
 |some (.slice e)=>match P.info? e,nF P e with|some i,some z=>if 0<i.size/\z.length=i.size then some (i.size,i.bytes)else none|_,_=>none
 |_=>none
def Rr(P:Program):Nat->TypeId->Bool|0,_=>false|n+1,t=>match P.underlying t with|some .bool|some (.int _)|some .string=>true|some (.struct fs)=>fs.toList.all λf=>Rr P n f.type|some (.array _ e)=>Rr P n e|_=>false
def ags(P:Program)(f:Nat):Bool:=match P.funcs[f]?with|some fn=>fn.resultTypes.toList.all (Rr P 20)|none=>false
def ald(P:Program)(f:Nat):Bool:=match P.funcs[f]?with
 |some fn=>match fn.params.toList with
  |t::_=>match P.underlying t with|some (.pointer _)=>true|_=>false
  |[]=>false
 |none=>false
def Rs(P:Program)(eD:Nat->Option TypeId)(c:Go.Call):Option cq:=match c.callee with
 |.value (.func f)=>match eD f,c.args.toList with
  |some t,[x]=>match Nat.beq t 1000000with|true=>(cY x).map .sort|false=>match Nat.beq t 1000001with|true=>(cY x).map .compact|false=>match vm P t,cY x with|some (sz,Ae),some x=>some (.clone sz Ae x)|_,_=>none
  |some _,_=>none|none,_=>match ags P f&&!ald P f with|true=>(ju c.args.toList).map (.vi f)|false=>(ju c.args.toList).map (.call f)
 |.value (.tmp t)=>(ju c.args.toList).map (.AF (.t t))|.value _=>none|.invoke _ _=>none|.builtin b=>match b,c.args.toList,c.argTypes.toList with
  |.len,[x],[t]=>match P.underlying t with
   |some (.slice _)=>(cY x).map .len|some .string=>(cY x).map .Fy|some (.array n _)=>some (.Db n)|some (.pointer e)=>match P.underlying e with|some (.array n _)=>some (.Db n)|_=>none
   |_=>none
  |.append,[x,y],[t,u]=>match P.underlying t,P.underlying u with|some (.slice e),some (.int _)=>(match vm P t,(nF P e).bind jg,cY x,cY y with|some (sz,Ae),some z,some x,some y=>if z.length=sz then some (.od sz Ae z x y)else none|_,_,_,_=>none)|_,some (.int _)=>none|_,some (.slice _)=>(match vm P t,cY x,cY y with|some (sz,Ae),some x,some y=>some (.append sz Ae x y)|_,_,_=>none)|_,some .string=>(match vm P t,cY x,cY y with|some (sz,Ae),some x,some y=>some (.append sz Ae x y)|_,_,_=>none)|_,_=>none
  |.copy,[x,y],[t,_]=>match P.underlying t with
   |some (.slice e)=>match P.info? e,cY x,cY y with|some i,some x,some y=>if 0<i.size then some (.copy i.size x y)else none|_,_,_=>none
   |_=>none
  |.clear,[x],[t]=>match P.underlying t with
   |some (.slice e)=>match de P e,(nF P e).bind jg,cY x with|some sz,some z,some x=>if z.length=sz/\0<sz then some (.clear sz z x)else none|_,_,_=>none
   |_=>none
  |.cap,[x],[t]=>match P.underlying t with|some (.slice _)=>(cY x).map .HR|_=>none
  |.min,[x,y],_=>match cY x,cY y with|some x,some y=>some (.Fz x y)|_,_=>none
  |.max,[x,y],_=>match cY x,cY y with|some x,some y=>some (.FA x y)|_,_=>none
  |_,_,_=>none
def C5(P:Program)(eD:Nat->Option TypeId):Go.Op->Option cq
 |.move x|.assign x=>(cY x).map .HQ|.pick c a b=>match cY c,cY a,cY b with|some c,some a,some b=>some (.pick c a b)|_,_,_=>none
 |.alloc t=>(nF P t).bind λz=>(fu z).map .alloc|.box _ x=>(cY x).map .box|.build t ps=>match nF P t,P.underlying t with
  |some z,some (.struct fs)=>match fu z,FE P fs with|some z,some pl=>(rQ (pl.toArray[·]?) ps.toList).map (.build z)|_,_=>none
  |some z,some (.array _ e)=>match fu z,de P e with|some z,some sz=>(rQ (λi=>some (i*sz,sz)) ps.toList).map (.build z)|_,_=>none
  |_,_=>none
 |.buildSlice t n ps=>match P.underlying t with
  |some (.slice e)=>match de P e,(nF P e).bind jg,oq ps.toList with|some sz,some z,some l=>if n*sz<=16777216/\z.length=sz/\0<sz then some (.buildSlice sz n z l)else none|_,_,_=>none
  |_=>none
 |.load t x=>match de P t,nE P t,cY x with|some sz,some agg,some x=>if agg\/sz=1then some (.load sz agg x)else none|_,_,_=>none
 |.store t x v=>match de P t,cY x,cY v with|some sz,some x,some v=>some (.store sz x v)|_,_,_=>none
 |.nilCheck x=>(cY x).map .nilCheck|.binOp op t x y _=>match cY x,cY y with
  |some x,some y=>match op with|.eql=>Nd P op false t x y|.neq=>Nd P op true t x y|op=>some (.bin op x y)
  |_,_=>none
 |.unOp op _ x=>(cY x).map (.un op)|.convert src dst x=>match P.underlying src,P.underlying dst with
  |some _,some (.int k)=>(cY x).map (.conv k)|some (.slice e),some .string=>match P.underlying e with|some (.int .u8)=>(cY x).map .ZG|_=>none
  |some .string,some (.slice e)=>match P.underlying e with|some (.int .u8)=>(cY x).map .ZH|_=>none
  |_,_=>none
 |.field t x f=>match P.underlying t with
  |some (.struct fs)=>match fs[f]?with
   |some f=>match de P f.type,nE P f.type,cY x with|some sz,some agg,some x=>if agg\/sz=1then some (.field f.offset sz agg x)else none|_,_,_=>none
   |none=>none
  |_=>none
 |.fieldAddr t x f=>match P.underlying t with
  |some (.struct fs)=>match fs[f]?with
   |some f=>match de P f.type,cY x with|some sz,some x=>if sz=0then none else some (.fieldAddr f.offset x)|_,_=>none
   |none=>none
  |_=>none
 |.indexAddr t x i=>match P.underlying t with
  |some (.slice e)=>match de P e,cY x,cY i with|some sz,some x,some i=>if sz=0then none else some (.indexAddr sz x i)|_,_,_=>none
  |some (.array n e)=>match de P e,cY x,cY i with|some sz,some x,some i=>some (.j0 n sz x i)|_,_,_=>none
  |_=>none
 |.index t x i=>match P.underlying t with
  |some (.array n e)=>match de P e,nE P e,cY x,cY i with|some sz,some agg,some x,some i=>if agg\/sz=1then some (.qd n sz agg x i)else none|_,_,_,_=>none
  |some .string=>match cY x,cY i with|some x,some i=>some (.qe x i)|_,_=>none
  |_=>none
 |.slice t x lo hi mx=>match P.underlying t with
  |some (.slice e)=>match de P e,cY x,qk lo,qk hi,qk mx with|some sz,some x,some lo,some hi,some mx=>if sz=0\/(mx.isSome/\hi.isNone)then none else some (.slice sz x lo hi mx)|_,_,_,_,_=>none
  |some (.array n e)=>match lo,hi,mx,de P e,cY x with|none,none,none,some sz,some x=>if n=0then none else some (.sliceB n sz x)|some (.const (.int .i64 k)),none,none,some sz,some x=>if 0<=k then some (.rK k.toNat n sz x)else none|_,_,_,_,_=>none
  |some .string=>match cY x,qk lo,qk hi,mx with|some x,some lo,some hi,none=>some (.qf x lo hi)|_,_,_,_=>none
  |_=>none
 |.extract x i=>(cY x).map λx=>.extract x i|.makeFunc fn first cap=>match fn with|.func f=>if first.size=0then(ju cap.toList).map (.makeFunc f)else none|_=>none
 |.makeSlice t l c=>match P.underlying t with
  |some (.slice e)=>match P.info? e,(nF P e).bind jg,cY l,cY c with|some i,some z,some l,some c=>if 0<i.size then some (.makeSlice i.size i.bytes z l c)else none|_,_,_,_=>none
  |_=>none
 |.makeMap t none=>match P.underlying t with
  |some (.map k e)=>match P.underlying k,P.underlying e with|some .string,some .bool=>some .mkSet|_,_=>none
  |_=>none
 |.lookup t m x false=>match P.underlying t with
  |some (.map k e)=>match P.underlying k,(P.info? e).bind (·.zero),cY m,cY x with|some .string,some (.bool false),some m,some x=>some (.HS m x)|_,_,_,_=>none
  |_=>none
 |.mapUpdate t m x v=>match v,P.underlying t with
  |.const (.bool true),some (.map k _)=>match P.underlying k,cY m,cY x with|some .string,some m,some x=>some (.HT m x)|_,_,_=>none
  |_,_=>none
 |.call c=>Rs P eD c|.panic _=>some .bad|.makeInterface _ _=>some .bad|_=>none
def gdP(ops:Array Oper):Option (Nat×Bool)->Option (Option (Nat×Bool))|none=>some none|some (j,b)=>((ops[j]?).bind (·.dst)).map λd=>some (d,b)
def ZI(P:Program)(eD:Nat->Option TypeId)(nt:Nat)(rows:List (Nat×Nat))(ops:Array Oper)(nB:Nat)(o:Oper):Option bB:=match C5 P eD o.op,gdP ops o.guard with|some a,some g=>if(o.dst.getD 0)<nt then some {dst:=o.dst,op:=a,gd:=g,nB:=nB,row:=(rows.lookup (o.dst.getD 0)).getD 0}else none|_,_=>none
def xj(P:Program)(eD:Nat->Option TypeId)(nt:Nat)(rows:List (Nat×Nat))(ops:Array Oper):List (Oper×Nat)->Option (List bB)|[]=>some []|(o,b)::r=>match ZI P eD nt rows ops b o,xj P eD nt rows ops r with|some a,some aJ=>some (a::aJ)|_,_=>none
def cq.ju:cq->List bZ|.HQ x|.box x|.yp _ x|.nilCheck x|.un _ x|.conv _ x|.field _ _ _ x|.fieldAddr _ x|.extract x _|.len x|.Fy x|.HR x|.ZG x|.ZH x|.sliceB _ _ x|.rK _ _ _ x|.clear _ _ x|.clone _ _ x|.sort x|.compact x|.load _ _ x=>[x]|.pick a b c=>[a,b,c]|.build _ ps=>ps.map (·.2.2)|.buildSlice _ _ _ ps=>ps.map (·.2)|.store _ x y|.bin _ x y|.VT _ x y|.VU _ _ _ x y|.indexAddr _ x y|.j0 _ _ x y|.qd _ _ _ x y|.qe x y|.Fz x y|.FA x y|.append _ _ x y|.od _ _ _ x y|.copy _ x y|.makeSlice _ _ _ x y|.grow _ x y|.HS x y|.HT x y=>[x,y]|.slice _ x a b c=>x::(a.toList++b.toList++c.toList)|.qf x a b=>x::(a.toList++b.toList)|.makeFunc _ l|.call _ l|.vi _ l=>l|.AF x l=>x::l|.alloc _|.Db _|.mkSet|.bad=>[]
def bZ.slot:bZ->List Nat|.t n=>[n]|.c _=>[]
def bB.looks(o:bB):List Nat:=o.op.ju.flatMap bZ.slot++(match o.gd with|some (g,_)=>[g]|none=>[])
def KF(l:List Nat)(n:Nat):Bool:=l.any λm=>Nat.beq m n
def AK(d:Option Nat)(y:bB):Bool:=match d with|some d=>!KF y.looks d|none=>true
def Nf(d e:Option Nat):Bool:=match d,e with|some d,some e=>!Nat.beq d e|_,_=>true
def bB.apart(x y:bB):Bool:=AK x.dst y&&AK y.dst x&&Nf x.dst y.dst
def Af(y:bB):Nat->List bB->Bool|_,[]=>true|i,x::r=>(y.nB.testBit i||x.apart y)&&Af y (i+1) r
def l6(past:List bB):List bB->Bool|[]=>true|y::r=>Af y 0 past&&l6 (past++[y]) r
def Edge.FF(e:Edge):Bool:=Region.binds .any e
def agt(past:List Nat)(o:Oper):Nat:=o.after.toList.foldl (λb e=>if Edge.FF e then(b|||(1<<<e.on))|||past.getD e.on 0 else b) 0
def agu(past:List Nat):List Oper->List Nat|[]=>past|o::r=>agu (past++[agt past o]) r
def FG(nB:List Nat)(i:Nat)(o:Oper)(b:Nat):Bool:=(o.after.toList.all λe=>!Edge.FF e||Nat.blt e.on i)&&(List.range i).all λj=>!b.testBit j||o.after.toList.any λe=>Edge.FF e&&(Nat.beq e.on j||(Nat.blt j e.on&&(nB.getD e.on 0).testBit j))
def DI(nB:List Nat):Nat->List Oper->List Nat->Bool|_,[],_=>true|i,o::r,b::bs=>FG nB i o b&&DI nB (i+1) r bs|_,_::_,[]=>false
def VW(P:Program)(eD:Nat->Option TypeId)(nt:Nat)(rows:List (Nat×Nat))(ops:Array Oper)(draw:Bool):Option AC:=match draw with|false=>(xj P eD nt rows ops (ops.toList.map λo=>(o,0))).map λl=>.region l false|true=>let b:=agu [] ops.toList;match b.length==ops.size&&DI b 0 ops.toList b,xj P eD nt rows ops (ops.toList.zip b)with|true,some l=>if l6 [] l then some (.region l true)else none|_,_=>none
def gb:Nat:=4294967296
def gid(l:Nat):Nat:=gb+2*l
def zU(l:Nat):Nat:=gb+2*l+1
def leaves(p:Nat->Bool):AC->Bool|.seq a b=>leaves p a&&leaves p b|.cond _ a b=>leaves p a&&leaves p b|.block _ c=>leaves p c|.loop c=>leaves p c|.exit id=>p id|_=>true
def abM:Code->Option Nat|.label l=>some l|_=>none
def ZJ:Code->Option Nat
 |.seq a b=>match abM a with|some l=>some l|none=>ZJ b
 |_=>none
def Rt(l:Nat)(c:AC):Option AC:=match leaves (λid=>Nat.blt id gb||Nat.beq id (gid l)) c with|true=>some (.block (zU l) (.loop (.block (gid l) (.seq c (.exit (zU l))))))|false=>none
def dG(P:Program)(eD:Nat->Option TypeId)(nt:Nat)(rows:List (Nat×Nat)):Code->Option Nat->Option AC
 |.seq a b,some l=>match abM a with
  |some l'=>match Nat.beq l' l,dG P eD nt rows b none with|true,some c=>Rt l c|_,_=>none
  |none=>match findLabel a l,dG P eD nt rows a none,dG P eD nt rows b (some l)with|none,some a,some b=>if leaves (λid=>Nat.blt id gb) a then some (.seq a b)else none|_,_,_=>none
 |.skip,none=>some .skip|.region _ ops draw,none=>VW P eD nt rows ops draw|.seq a b,none=>match dG P eD nt rows a none,dG P eD nt rows b none with|some a,some b=>some (.seq a b)|_,_=>none
 |.cond c a b,none=>match cY c,dG P eD nt rows a none,dG P eD nt rows b none with|some c,some a,some b=>some (.cond c a b)|_,_,_=>none
 |.block id c,none=>match Nat.blt id gb with|true=>(dG P eD nt rows c none).map (.block id)|false=>none
 |.loop c,none=>(dG P eD nt rows c none).map .loop|.exit id,none=>match Nat.blt id gb with|true=>some (.exit id)|false=>none
 |.goto l,none=>some (.exit (gid l))|.scope c,none=>match ZJ c with|some l=>dG P eD nt rows c (some l)|none=>none
 |.ret,none=>some .ret|_,_=>none
def agv(P:Program)(eD:Nat->Option TypeId)(nt:Nat)(rows:List (Nat×Nat))(c:Code):Option AC:=dG P eD nt rows c none
def abN(P:Program):ResultVar->Option AG|.tmp t=>some (.t t)|.cell a t=>match de P t,nE P t with|some sz,some agg=>if agg\/sz=1then some (.cell a sz agg)else none|_,_=>none
def HZ(P:Program):List ResultVar->Option (List AG)|[]=>some []|x::r=>match abN P x,HZ P r with|some y,some ys=>some (y::ys)|_,_=>none
structure Mode where rows:List (Nat×Nat)sh:Bool deriving Inhabited
def Dd(P:Program)(eD:Nat->Option TypeId)(md:Nat->Mode)(f:Nat):Option tV:=match P.funcs[f]?with|none=>none|some fn=>match fn.body with|none=>none|some c=>if fn.name== "runtime.NumGoroutine"then none else match agv P eD fn.ntmps (md f).rows c,HZ P fn.results.toList with|some b,some rs=>let np:=fn.params.size+fn.nfree;if np<=fn.ntmps then some {np,nt:=fn.ntmps,res:=rs,body:=b,sh:=(md f).sh}else none|_,_=>none
end Go.bI
