/- From the model's code to the abstract machine's code: a function that the kernel runs. -/
import Derived.Test.YtkdilffhbejjaaaGreatEngA
set_option linter.unusedVariables false
set_option linter.unusedSimpArgs false
namespace Go.bM
open Go
def iR:Value->Option AV
 |.slice none 0 0=>some (.own [] .full)|.slice _ _ _=>none|.agg _=>none|.tuple _=>none|.func fn first cap=>match fn with|.func f=>if first.size=0/\cap.size=0then some (.fk f [])else none|_=>none
 |v=>some (.d (.sc v))
def fK:List Value->Option (List AV)|[]=>some []|v::r=>match iR v,fK r with|some x,some xs=>some (x::xs)|_,_=>none
def uM:Value->Option AV|.agg cs=>(fK cs.toList).map .agg|.tuple vs=>if vs.size=0then some (.jF [])else none|v=>iR v
def uN:Value->Option D|.slice none 0 0=>some (.sl [])|.slice _ _ _=>none|.agg _=>none|.tuple _=>none|.func _ _ _=>none|v=>some (.sc v)
def jJ:List Value->Option (List D)|[]=>some []|v::r=>match uN v,jJ r with|some x,some xs=>some (x::xs)|_,_=>none
def dh:Operand->Option cc|.tmp t=>some (.t t)|.const v=>(uM v).map .c|.func f=>some (.c (.fk f []))|.global _=>none
def jf:List Operand->Option (List cc)|[]=>some []|x::r=>match dh x,jf r with|some y,some ys=>some (y::ys)|_,_=>none
def qL:Option Operand->Option (Option cc)|none=>some none|some x=>(dh x).map some
def oe(P:Program)(t:TypeId):Option Bool:=match P.underlying t with|some (.struct _)|some (.array _ _)=>some true|some _=>some false|none=>none
def og(P:Program)(t:TypeId):Option (List Value):=(P.info? t).bind λi=>i.zero.map λv=>v.cells.toList
def dB(P:Program)(t:TypeId):Option Nat:=(P.info? t).map (·.size)
def oS(P:Program):Nat->TypeId->Nat->Option (List (Nat×Nat))|0,_,_=>none|n+1,t,off=>match dB P t,P.underlying t with|some 1,some .bool=>some [(off,0)]|some 1,some (.int _)=>some [(off,1)]|some 1,some .string=>some [(off,2)]|some sz,some (.struct fs)=>if P.stoodInHeld t then none else fs.toList.foldr (λf acc=>match acc,dB P f.type with|some l,some fz=>if f.name= "_"\/sz<f.offset+fz then none else(oS P n f.type (off+f.offset)).map (·++l)|_,_=>none) (some [])|_,_=>none
def sr(place:Nat->Option (Nat×Nat)):List (Nat×Operand)->Option (List (Nat×Nat×cc))|[]=>some []|(i,x)::r=>match place i,dh x,sr place r with|some (off,sz),some y,some ys=>some ((off,sz,y)::ys)|_,_,_=>none
def FU(P:Program)(fs:Array Field):Option (List (Nat×Nat)):=fs.toList.mapM λf=>(P.info? f.type).map λi=>(f.offset,i.size)
def oT:List (Nat×Operand)->Option (List (Nat×cc))|[]=>some []|(i,x)::r=>match dh x,oT r with|some y,some ys=>some ((i,y)::ys)|_,_=>none
def MU(P:Program)(op:BinOp)(neg:Bool)(t:TypeId)(x y:cc):Option ct:=match P.underlying t with
 |some .bool=>some (.W6 neg x y)|some (.int _)|some .string=>some (.bin op x y)|some (.slice _)=>some .bad|some (.interface _)=>match y with|.c (.d (.sc .nilIface))=>some (.yR neg x)|_=>none
 |some (.struct _)=>if P.eqGuardType P.depth t then none else match oS P 20 t 0,dB P t with|some l,some sz=>some (.W7 neg sz l x y)|_,_=>none
 |_=>none
def vI(P:Program)(t:TypeId):Option (Nat×Nat):=match P.underlying t with
 |some (.slice e)=>match P.info? e,og P e with|some i,some z=>if 0<i.size/\z.length=i.size then some (i.size,i.bytes)else none|_,_=>none
 |_=>none
def Q6(P:Program):Nat->TypeId->Bool|0,_=>false|n+1,t=>match P.underlying t with|some .bool|some (.int _)|some .string=>true|some (.struct fs)=>fs.toList.all λf=>Q6 P n f.type|some (.array _ e)=>Q6 P n e|_=>false
def afE(P:Program)(f:Nat):Bool:=match P.funcs[f]?with|some fn=>fn.resultTypes.toList.all (Q6 P 20)|none=>false
def amd(P:Program)(f:Nat):Bool:=match P.funcs[f]?with
 |some fn=>match fn.params.toList with
  |t::_=>match P.underlying t with|some (.pointer _)=>true|_=>false
  |[]=>false
 |none=>false
def Q7(P:Program)(dm:Nat->Option TypeId)(c:Go.Call):Option ct:=match c.callee with
 |.value (.func f)=>match dm f,c.args.toList with
  |some t,[x]=>match Nat.beq t 1000000with|true=>(dh x).map .sort|false=>match Nat.beq t 1000001with|true=>(dh x).map .compact|false=>match vI P t,dh x with|some (sz,AA),some x=>some (.clone sz AA x)|_,_=>none
  |some _,_=>none|none,_=>match afE P f&&!amd P f with|true=>(jf c.args.toList).map (.vF f)|false=>(jf c.args.toList).map (.call f)
 |.value (.tmp t)=>(jf c.args.toList).map (.yS (.t t))|.value _=>none|.invoke _ _=>none|.builtin b=>match b,c.args.toList,c.argTypes.toList with
  |.len,[x],[t]=>match P.underlying t with
   |some (.slice _)=>(dh x).map .len|some .string=>(dh x).map .FO|some (.array n _)=>some (.DN n)|some (.pointer e)=>match P.underlying e with|some (.array n _)=>some (.DN n)|_=>none
   |_=>none
  |.append,[x,y],[t,u]=>match P.underlying t,P.underlying u with|some (.slice e),some (.int _)=>(match vI P t,(og P e).bind jJ,dh x,dh y with|some (sz,AA),some z,some x,some y=>if z.length=sz then some (.oP sz AA z x y)else none|_,_,_,_=>none)|_,some (.int _)=>none|_,some (.slice _)=>(match vI P t,dh x,dh y with|some (sz,AA),some x,some y=>some (.append sz AA x y)|_,_,_=>none)|_,some .string=>(match vI P t,dh x,dh y with|some (sz,AA),some x,some y=>some (.append sz AA x y)|_,_,_=>none)|_,_=>none
  |.copy,[x,y],[t,_]=>match P.underlying t with
   |some (.slice e)=>match P.info? e,dh x,dh y with|some i,some x,some y=>if 0<i.size then some (.copy i.size x y)else none|_,_,_=>none
   |_=>none
  |.clear,[x],[t]=>match P.underlying t with
   |some (.slice e)=>match dB P e,(og P e).bind jJ,dh x with|some sz,some z,some x=>if z.length=sz/\0<sz then some (.clear sz z x)else none|_,_,_=>none
   |_=>none
  |.cap,[x],[t]=>match P.underlying t with|some (.slice _)=>(dh x).map .HT|_=>none
  |.min,[x,y],_=>match dh x,dh y with|some x,some y=>some (.FP x y)|_,_=>none
  |.max,[x,y],_=>match dh x,dh y with|some x,some y=>some (.FQ x y)|_,_=>none
  |_,_,_=>none
def DG(P:Program)(dm:Nat->Option TypeId):Go.Op->Option ct
 |.move x|.assign x=>(dh x).map .HS|.pick c a b=>match dh c,dh a,dh b with|some c,some a,some b=>some (.pick c a b)|_,_,_=>none
 |.alloc t=>(og P t).bind λz=>(fK z).map .alloc|.box _ x=>(dh x).map .box|.build t ps=>match og P t,P.underlying t with
  |some z,some (.struct fs)=>match fK z,FU P fs with|some z,some pl=>(sr (pl.toArray[·]?) ps.toList).map (.build z)|_,_=>none
  |some z,some (.array _ e)=>match fK z,dB P e with|some z,some sz=>(sr (λi=>some (i*sz,sz)) ps.toList).map (.build z)|_,_=>none
  |_,_=>none
 |.buildSlice t n ps=>match P.underlying t with
  |some (.slice e)=>match dB P e,(og P e).bind jJ,oT ps.toList with|some sz,some z,some l=>if n*sz<=16777216/\z.length=sz/\0<sz then some (.buildSlice sz n z l)else none|_,_,_=>none
  |_=>none
 |.load t x=>match dB P t,oe P t,dh x with|some sz,some agg,some x=>if agg\/sz=1then some (.load sz agg x)else none|_,_,_=>none
 |.store t x v=>match dB P t,dh x,dh v with|some sz,some x,some v=>some (.store sz x v)|_,_,_=>none
 |.nilCheck x=>(dh x).map .nilCheck|.binOp op t x y _=>match dh x,dh y with
  |some x,some y=>match op with|.eql=>MU P op false t x y|.neq=>MU P op true t x y|op=>some (.bin op x y)
  |_,_=>none
 |.unOp op _ x=>(dh x).map (.un op)|.convert src dst x=>match P.underlying src,P.underlying dst with
  |some _,some (.int k)=>(dh x).map (.conv k)|some (.slice e),some .string=>match P.underlying e with|some (.int .u8)=>(dh x).map .Zr|_=>none
  |some .string,some (.slice e)=>match P.underlying e with|some (.int .u8)=>(dh x).map .Zs|_=>none
  |_,_=>none
 |.field t x f=>match P.underlying t with
  |some (.struct fs)=>match fs[f]?with
   |some f=>match dB P f.type,oe P f.type,dh x with|some sz,some agg,some x=>if agg\/sz=1then some (.field f.offset sz agg x)else none|_,_,_=>none
   |none=>none
  |_=>none
 |.fieldAddr t x f=>match P.underlying t with
  |some (.struct fs)=>match fs[f]?with
   |some f=>match dB P f.type,dh x with|some sz,some x=>if sz=0then none else some (.fieldAddr f.offset x)|_,_=>none
   |none=>none
  |_=>none
 |.indexAddr t x i=>match P.underlying t with
  |some (.slice e)=>match dB P e,dh x,dh i with|some sz,some x,some i=>if sz=0then none else some (.indexAddr sz x i)|_,_,_=>none
  |some (.array n e)=>match dB P e,dh x,dh i with|some sz,some x,some i=>some (.kJ n sz x i)|_,_,_=>none
  |_=>none
 |.index t x i=>match P.underlying t with
  |some (.array n e)=>match dB P e,oe P e,dh x,dh i with|some sz,some agg,some x,some i=>if agg\/sz=1then some (.qE n sz agg x i)else none|_,_,_,_=>none
  |some .string=>match dh x,dh i with|some x,some i=>some (.qF x i)|_,_=>none
  |_=>none
 |.slice t x lo hi mx=>match P.underlying t with
  |some (.slice e)=>match dB P e,dh x,qL lo,qL hi,qL mx with|some sz,some x,some lo,some hi,some mx=>if sz=0\/(mx.isSome/\hi.isNone)then none else some (.slice sz x lo hi mx)|_,_,_,_,_=>none
  |some (.array n e)=>match lo,hi,mx,dB P e,dh x with|none,none,none,some sz,some x=>if n=0then none else some (.sliceB n sz x)|some (.const (.int .i64 k)),none,none,some sz,some x=>if 0<=k then some (.r9 k.toNat n sz x)else none|_,_,_,_,_=>none
  |some .string=>match dh x,qL lo,qL hi,mx with|some x,some lo,some hi,none=>some (.qG x lo hi)|_,_,_,_=>none
  |_=>none
 |.extract x i=>(dh x).map λx=>.extract x i|.makeFunc fn first cap=>match fn with|.func f=>if first.size=0then(jf cap.toList).map (.makeFunc f)else none|_=>none
 |.makeSlice t l c=>match P.underlying t with
  |some (.slice e)=>match P.info? e,(og P e).bind jJ,dh l,dh c with|some i,some z,some l,some c=>if 0<i.size then some (.makeSlice i.size i.bytes z l c)else none|_,_,_,_=>none
  |_=>none
 |.makeMap t none=>match P.underlying t with
  |some (.map k e)=>match P.underlying k,P.underlying e with|some .string,some .bool=>some .mkSet|_,_=>none
  |_=>none
 |.lookup t m x false=>match P.underlying t with
  |some (.map k e)=>match P.underlying k,(P.info? e).bind (·.zero),dh m,dh x with|some .string,some (.bool false),some m,some x=>some (.HU m x)|_,_,_,_=>none
  |_=>none
 |.mapUpdate t m x v=>match v,P.underlying t with
  |.const (.bool true),some (.map k _)=>match P.underlying k,dh m,dh x with|some .string,some m,some x=>some (.HV m x)|_,_,_=>none
  |_,_=>none
 |.call c=>Q7 P dm c|.panic _=>some .bad|.makeInterface _ _=>some .bad|_=>none
def gdP(ops:Array Oper):Option (Nat×Bool)->Option (Option (Nat×Bool))|none=>some none|some (j,b)=>((ops[j]?).bind (·.dst)).map λd=>some (d,b)
def Zt(P:Program)(dm:Nat->Option TypeId)(nt:Nat)(rows:List (Nat×Nat))(ops:Array Oper)(n9:Nat)(o:Oper):Option bE:=match DG P dm o.op,gdP ops o.guard with|some a,some g=>if(o.dst.getD 0)<nt then some {dst:=o.dst,op:=a,gd:=g,n9:=n9,row:=(rows.lookup (o.dst.getD 0)).getD 0}else none|_,_=>none
def xE(P:Program)(dm:Nat->Option TypeId)(nt:Nat)(rows:List (Nat×Nat))(ops:Array Oper):List (Oper×Nat)->Option (List bE)|[]=>some []|(o,b)::r=>match Zt P dm nt rows ops b o,xE P dm nt rows ops r with|some a,some aO=>some (a::aO)|_,_=>none
def ct.jf:ct->List cc|.HS x|.box x|.yR _ x|.nilCheck x|.un _ x|.conv _ x|.field _ _ _ x|.fieldAddr _ x|.extract x _|.len x|.FO x|.HT x|.Zr x|.Zs x|.sliceB _ _ x|.r9 _ _ _ x|.clear _ _ x|.clone _ _ x|.sort x|.compact x|.load _ _ x=>[x]|.pick a b c=>[a,b,c]|.build _ ps=>ps.map (·.2.2)|.buildSlice _ _ _ ps=>ps.map (·.2)|.store _ x y|.bin _ x y|.W6 _ x y|.W7 _ _ _ x y|.indexAddr _ x y|.kJ _ _ x y|.qE _ _ _ x y|.qF x y|.FP x y|.FQ x y|.append _ _ x y|.oP _ _ _ x y|.copy _ x y|.makeSlice _ _ _ x y|.grow _ x y|.HU x y|.HV x y=>[x,y]|.slice _ x a b c=>x::(a.toList++b.toList++c.toList)|.qG x a b=>x::(a.toList++b.toList)|.makeFunc _ l|.call _ l|.vF _ l=>l|.yS x l=>x::l|.alloc _|.DN _|.mkSet|.bad=>[]
def cc.slot:cc->List Nat|.t n=>[n]|.c _=>[]
def bE.looks(o:bE):List Nat:=o.op.jf.flatMap cc.slot++(match o.gd with|some (g,_)=>[g]|none=>[])
def KI(l:List Nat)(n:Nat):Bool:=l.any λm=>Nat.beq m n
def A9(d:Option Nat)(y:bE):Bool:=match d with|some d=>!KI y.looks d|none=>true
def MV(d e:Option Nat):Bool:=match d,e with|some d,some e=>!Nat.beq d e|_,_=>true
def bE.apart(x y:bE):Bool:=A9 x.dst y&&A9 y.dst x&&MV x.dst y.dst
def AB(y:bE):Nat->List bE->Bool|_,[]=>true|i,x::r=>(y.n9.testBit i||x.apart y)&&AB y (i+1) r
def mP(eg:List bE):List bE->Bool|[]=>true|y::r=>AB y 0 eg&&mP (eg++[y]) r
def Edge.FV(e:Edge):Bool:=Region.binds .any e
def afF(eg:List Nat)(o:Oper):Nat:=o.after.toList.foldl (λb e=>if Edge.FV e then(b|||(1<<<e.on))|||eg.getD e.on 0 else b) 0
def afG(eg:List Nat):List Oper->List Nat|[]=>eg|o::r=>afG (eg++[afF eg o]) r
def FX(n9:List Nat)(i:Nat)(o:Oper)(b:Nat):Bool:=(o.after.toList.all λe=>!Edge.FV e||Nat.blt e.on i)&&(List.range i).all λj=>!b.testBit j||o.after.toList.any λe=>Edge.FV e&&(Nat.beq e.on j||(Nat.blt j e.on&&(n9.getD e.on 0).testBit j))
def Ed(n9:List Nat):Nat->List Oper->List Nat->Bool|_,[],_=>true|i,o::r,b::bs=>FX n9 i o b&&Ed n9 (i+1) r bs|_,_::_,[]=>false
def W9(P:Program)(dm:Nat->Option TypeId)(nt:Nat)(rows:List (Nat×Nat))(ops:Array Oper)(draw:Bool):Option AC:=match draw with|false=>(xE P dm nt rows ops (ops.toList.map λo=>(o,0))).map λl=>.region l false|true=>let b:=afG [] ops.toList;match b.length==ops.size&&Ed b 0 ops.toList b,xE P dm nt rows ops (ops.toList.zip b)with|true,some l=>if mP [] l then some (.region l true)else none|_,_=>none
def gb:Nat:=4294967296
def gid(l:Nat):Nat:=gb+2*l
def Ap(l:Nat):Nat:=gb+2*l+1
def leaves(p:Nat->Bool):AC->Bool|.seq a b=>leaves p a&&leaves p b|.cond _ a b=>leaves p a&&leaves p b|.block _ c=>leaves p c|.loop c=>leaves p c|.exit id=>p id|_=>true
def abd:Code->Option Nat|.label l=>some l|_=>none
def Zu:Code->Option Nat
 |.seq a b=>match abd a with|some l=>some l|none=>Zu b
 |_=>none
def Q8(l:Nat)(c:AC):Option AC:=match leaves (λid=>Nat.blt id gb||Nat.beq id (gid l)) c with|true=>some (.block (Ap l) (.loop (.block (gid l) (.seq c (.exit (Ap l))))))|false=>none
def dU(P:Program)(dm:Nat->Option TypeId)(nt:Nat)(rows:List (Nat×Nat)):Code->Option Nat->Option AC
 |.seq a b,some l=>match abd a with
  |some l'=>match Nat.beq l' l,dU P dm nt rows b none with|true,some c=>Q8 l c|_,_=>none
  |none=>match findLabel a l,dU P dm nt rows a none,dU P dm nt rows b (some l)with|none,some a,some b=>if leaves (λid=>Nat.blt id gb) a then some (.seq a b)else none|_,_,_=>none
 |.skip,none=>some .skip|.region _ ops draw,none=>W9 P dm nt rows ops draw|.seq a b,none=>match dU P dm nt rows a none,dU P dm nt rows b none with|some a,some b=>some (.seq a b)|_,_=>none
 |.cond c a b,none=>match dh c,dU P dm nt rows a none,dU P dm nt rows b none with|some c,some a,some b=>some (.cond c a b)|_,_,_=>none
 |.block id c,none=>match Nat.blt id gb with|true=>(dU P dm nt rows c none).map (.block id)|false=>none
 |.loop c,none=>(dU P dm nt rows c none).map .loop|.exit id,none=>match Nat.blt id gb with|true=>some (.exit id)|false=>none
 |.goto l,none=>some (.exit (gid l))|.scope c,none=>match Zu c with|some l=>dU P dm nt rows c (some l)|none=>none
 |.ret,none=>some .ret|_,_=>none
def Q9(P:Program)(dm:Nat->Option TypeId)(nt:Nat)(rows:List (Nat×Nat))(c:Code):Option AC:=dU P dm nt rows c none
def abe(P:Program):ResultVar->Option Am|.tmp t=>some (.t t)|.cell a t=>match dB P t,oe P t with|some sz,some agg=>if agg\/sz=1then some (.cell a sz agg)else none|_,_=>none
def Ee(P:Program):List ResultVar->Option (List Am)|[]=>some []|x::r=>match abe P x,Ee P r with|some y,some ys=>some (y::ys)|_,_=>none
structure Mode where rows:List (Nat×Nat)sh:Bool deriving Inhabited
def Og(P:Program)(dm:Nat->Option TypeId)(md:Nat->Mode)(f:Nat):Option qC:=match P.funcs[f]?with|none=>none|some fn=>match fn.body with|none=>none|some c=>if fn.name== "runtime.NumGoroutine"then none else match Q9 P dm fn.ntmps (md f).rows c,Ee P fn.results.toList with|some b,some rs=>let np:=fn.params.size+fn.nfree;if np<=fn.ntmps then some {np,nt:=fn.ntmps,res:=rs,body:=b,sh:=(md f).sh}else none|_,_=>none
end Go.bM
