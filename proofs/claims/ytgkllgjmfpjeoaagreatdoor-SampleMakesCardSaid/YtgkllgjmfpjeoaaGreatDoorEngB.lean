/- From the model's code to the abstract machine's code: a function that the kernel runs. -/
import Derived.Test.YtgkllgjmfpjeoaaGreatDoorEngA
set_option linter.unusedVariables false
set_option linter.unusedSimpArgs false
namespace Go.bJ
open Go
def ir:Value->Option AV
 |.slice none 0 0=>some (.own [] .full)|.slice _ _ _=>none|.agg _=>none|.tuple _=>none|.func fn first cap=>match fn with|.func f=>if first.size=0/\cap.size=0then some (.gp f [])else none|_=>none
 |v=>some (.d (.sc v))
def fu:List Value->Option (List AV)|[]=>some []|v::r=>match ir v,fu r with|some x,some xs=>some (x::xs)|_,_=>none
def tV:Value->Option AV|.agg cs=>(fu cs.toList).map .agg|.tuple vs=>if vs.size=0then some (.iY [])else none|v=>ir v
def tW:Value->Option D|.slice none 0 0=>some (.sl [])|.slice _ _ _=>none|.agg _=>none|.tuple _=>none|.func _ _ _=>none|v=>some (.sc v)
def jd:List Value->Option (List D)|[]=>some []|v::r=>match tW v,jd r with|some x,some xs=>some (x::xs)|_,_=>none
def cU:Operand->Option bT|.tmp t=>some (.t t)|.const v=>(tV v).map .c|.func f=>some (.c (.gp f []))|.global _=>none
def jt:List Operand->Option (List bT)|[]=>some []|x::r=>match cU x,jt r with|some y,some ys=>some (y::ys)|_,_=>none
def p9:Option Operand->Option (Option bT)|none=>some none|some x=>(cU x).map some
def nq(P:Program)(t:TypeId):Option Bool:=match P.underlying t with|some (.struct _)|some (.array _ _)=>some true|some _=>some false|none=>none
def nu(P:Program)(t:TypeId):Option (List Value):=(P.info? t).bind λi=>i.zero.map λv=>v.cells.toList
def cY(P:Program)(t:TypeId):Option Nat:=(P.info? t).map (·.size)
def n5(P:Program):Nat->TypeId->Nat->Option (List (Nat×Nat))|0,_,_=>none|n+1,t,off=>match cY P t,P.underlying t with|some 1,some .bool=>some [(off,0)]|some 1,some (.int _)=>some [(off,1)]|some 1,some .string=>some [(off,2)]|some sz,some (.struct fs)=>if P.stoodInHeld t then none else fs.toList.foldr (λf acc=>match acc,cY P f.type with|some l,some fz=>if f.name= "_"\/sz<f.offset+fz then none else(n5 P n f.type (off+f.offset)).map (·++l)|_,_=>none) (some [])|_,_=>none
def rq(place:Nat->Option (Nat×Nat)):List (Nat×Operand)->Option (List (Nat×Nat×bT))|[]=>some []|(i,x)::r=>match place i,cU x,rq place r with|some (off,sz),some y,some ys=>some ((off,sz,y)::ys)|_,_,_=>none
def E0(P:Program)(fs:Array Field):Option (List (Nat×Nat)):=fs.toList.mapM λf=>(P.info? f.type).map λi=>(f.offset,i.size)
def n6:List (Nat×Operand)->Option (List (Nat×bT))|[]=>some []|(i,x)::r=>match cU x,n6 r with|some y,some ys=>some ((i,y)::ys)|_,_=>none
def L6(P:Program)(op:BinOp)(neg:Bool)(t:TypeId)(x y:bT):Option cj:=match P.underlying t with
 |some .bool=>some (.U4 neg x y)|some (.int _)|some .string=>some (.bin op x y)|some (.slice _)=>some .bad|some (.interface _)=>match y with|.c (.d (.sc .nilIface))=>some (.xY neg x)|_=>none
 |some (.struct _)=>if P.eqGuardType P.depth t then none else match n5 P 20 t 0,cY P t with|some l,some sz=>some (.U5 neg sz l x y)|_,_=>none
 |_=>none
def uX(P:Program)(t:TypeId):Option (Nat×Nat):=match P.underlying t with
 |some (.slice e)=>match P.info? e,nu P e with|some i,some z=>if 0<i.size/\z.length=i.size then some (i.size,i.bytes)else none|_,_=>none
 |_=>none
def Qj(P:Program):Nat->TypeId->Bool|0,_=>false|n+1,t=>match P.underlying t with|some .bool|some (.int _)|some .string=>true|some (.struct fs)=>fs.toList.all λf=>Qj P n f.type|some (.array _ e)=>Qj P n e|_=>false
def adp(P:Program)(f:Nat):Bool:=match P.funcs[f]?with|some fn=>fn.resultTypes.toList.all (Qj P 20)|none=>false
def aiz(P:Program)(f:Nat):Bool:=match P.funcs[f]?with
 |some fn=>match fn.params.toList with
  |t::_=>match P.underlying t with|some (.pointer _)=>true|_=>false
  |[]=>false
 |none=>false
def Qk(P:Program)(eB:Nat->Option TypeId)(c:Go.Call):Option cj:=match c.callee with
 |.value (.func f)=>match eB f,c.args.toList with
  |some t,[x]=>match Nat.beq t 1000000with|true=>(cU x).map .sort|false=>match Nat.beq t 1000001with|true=>(cU x).map .compact|false=>match uX P t,cU x with|some (sz,zE),some x=>some (.clone sz zE x)|_,_=>none
  |some _,_=>none|none,_=>match adp P f&&!aiz P f with|true=>(jt c.args.toList).map (.uT f)|false=>(jt c.args.toList).map (.call f)
 |.value (.tmp t)=>(jt c.args.toList).map (.zZ (.t t))|.value _=>none|.invoke _ _=>none|.builtin b=>match b,c.args.toList,c.argTypes.toList with
  |.len,[x],[t]=>match P.underlying t with
   |some (.slice _)=>(cU x).map .len|some .string=>(cU x).map .EU|some (.array n _)=>some (.CH n)|some (.pointer e)=>match P.underlying e with|some (.array n _)=>some (.CH n)|_=>none
   |_=>none
  |.append,[x,y],[t,u]=>match P.underlying t,P.underlying u with|some (.slice e),some (.int _)=>(match uX P t,(nu P e).bind jd,cU x,cU y with|some (sz,zE),some z,some x,some y=>if z.length=sz then some (.nY sz zE z x y)else none|_,_,_,_=>none)|_,some (.int _)=>none|_,some (.slice _)=>(match uX P t,cU x,cU y with|some (sz,zE),some x,some y=>some (.append sz zE x y)|_,_,_=>none)|_,some .string=>(match uX P t,cU x,cU y with|some (sz,zE),some x,some y=>some (.append sz zE x y)|_,_,_=>none)|_,_=>none
  |.copy,[x,y],[t,_]=>match P.underlying t with
   |some (.slice e)=>match P.info? e,cU x,cU y with|some i,some x,some y=>if 0<i.size then some (.copy i.size x y)else none|_,_,_=>none
   |_=>none
  |.clear,[x],[t]=>match P.underlying t with
   |some (.slice e)=>match cY P e,(nu P e).bind jd,cU x with|some sz,some z,some x=>if z.length=sz/\0<sz then some (.clear sz z x)else none|_,_,_=>none
   |_=>none
  |.cap,[x],[t]=>match P.underlying t with|some (.slice _)=>(cU x).map .GN|_=>none
  |.min,[x,y],_=>match cU x,cU y with|some x,some y=>some (.EV x y)|_,_=>none
  |.max,[x,y],_=>match cU x,cU y with|some x,some y=>some (.EW x y)|_,_=>none
  |_,_,_=>none
def Cz(P:Program)(eB:Nat->Option TypeId):Go.Op->Option cj
 |.move x|.assign x=>(cU x).map .GM|.pick c a b=>match cU c,cU a,cU b with|some c,some a,some b=>some (.pick c a b)|_,_,_=>none
 |.alloc t=>(nu P t).bind λz=>(fu z).map .alloc|.box _ x=>(cU x).map .box|.build t ps=>match nu P t,P.underlying t with
  |some z,some (.struct fs)=>match fu z,E0 P fs with|some z,some pl=>(rq (pl.toArray[·]?) ps.toList).map (.build z)|_,_=>none
  |some z,some (.array _ e)=>match fu z,cY P e with|some z,some sz=>(rq (λi=>some (i*sz,sz)) ps.toList).map (.build z)|_,_=>none
  |_,_=>none
 |.buildSlice t n ps=>match P.underlying t with
  |some (.slice e)=>match cY P e,(nu P e).bind jd,n6 ps.toList with|some sz,some z,some l=>if n*sz<=16777216/\z.length=sz/\0<sz then some (.buildSlice sz n z l)else none|_,_,_=>none
  |_=>none
 |.load t x=>match cY P t,nq P t,cU x with|some sz,some agg,some x=>if agg\/sz=1then some (.load sz agg x)else none|_,_,_=>none
 |.store t x v=>match cY P t,cU x,cU v with|some sz,some x,some v=>some (.store sz x v)|_,_,_=>none
 |.nilCheck x=>(cU x).map .nilCheck|.binOp op t x y _=>match cU x,cU y with
  |some x,some y=>match op with|.eql=>L6 P op false t x y|.neq=>L6 P op true t x y|op=>some (.bin op x y)
  |_,_=>none
 |.unOp op _ x=>(cU x).map (.un op)|.convert src dst x=>match P.underlying src,P.underlying dst with
  |some _,some (.int k)=>(cU x).map (.conv k)|some (.slice e),some .string=>match P.underlying e with|some (.int .u8)=>(cU x).map .Xv|_=>none
  |some .string,some (.slice e)=>match P.underlying e with|some (.int .u8)=>(cU x).map .Xw|_=>none
  |_,_=>none
 |.field t x f=>match P.underlying t with
  |some (.struct fs)=>match fs[f]?with
   |some f=>match cY P f.type,nq P f.type,cU x with|some sz,some agg,some x=>if agg\/sz=1then some (.field f.offset sz agg x)else none|_,_,_=>none
   |none=>none
  |_=>none
 |.fieldAddr t x f=>match P.underlying t with
  |some (.struct fs)=>match fs[f]?with
   |some f=>match cY P f.type,cU x with|some sz,some x=>if sz=0then none else some (.fieldAddr f.offset x)|_,_=>none
   |none=>none
  |_=>none
 |.indexAddr t x i=>match P.underlying t with
  |some (.slice e)=>match cY P e,cU x,cU i with|some sz,some x,some i=>if sz=0then none else some (.indexAddr sz x i)|_,_,_=>none
  |some (.array n e)=>match cY P e,cU x,cU i with|some sz,some x,some i=>some (.jY n sz x i)|_,_,_=>none
  |_=>none
 |.index t x i=>match P.underlying t with
  |some (.array n e)=>match cY P e,nq P e,cU x,cU i with|some sz,some agg,some x,some i=>if agg\/sz=1then some (.pY n sz agg x i)else none|_,_,_,_=>none
  |some .string=>match cU x,cU i with|some x,some i=>some (.pZ x i)|_,_=>none
  |_=>none
 |.slice t x lo hi mx=>match P.underlying t with
  |some (.slice e)=>match cY P e,cU x,p9 lo,p9 hi,p9 mx with|some sz,some x,some lo,some hi,some mx=>if sz=0\/(mx.isSome/\hi.isNone)then none else some (.slice sz x lo hi mx)|_,_,_,_,_=>none
  |some (.array n e)=>match lo,hi,mx,cY P e,cU x with|none,none,none,some sz,some x=>if n=0then none else some (.sliceB n sz x)|some (.const (.int .i64 k)),none,none,some sz,some x=>if 0<=k then some (.q8 k.toNat n sz x)else none|_,_,_,_,_=>none
  |some .string=>match cU x,p9 lo,p9 hi,mx with|some x,some lo,some hi,none=>some (.p4 x lo hi)|_,_,_,_=>none
  |_=>none
 |.extract x i=>(cU x).map λx=>.extract x i|.makeFunc fn first cap=>match fn with|.func f=>if first.size=0then(jt cap.toList).map (.makeFunc f)else none|_=>none
 |.makeSlice t l c=>match P.underlying t with
  |some (.slice e)=>match P.info? e,(nu P e).bind jd,cU l,cU c with|some i,some z,some l,some c=>if 0<i.size then some (.makeSlice i.size i.bytes z l c)else none|_,_,_,_=>none
  |_=>none
 |.makeMap t none=>match P.underlying t with
  |some (.map k e)=>match P.underlying k,P.underlying e with|some .string,some .bool=>some .mkSet|_,_=>none
  |_=>none
 |.lookup t m x false=>match P.underlying t with
  |some (.map k e)=>match P.underlying k,(P.info? e).bind (·.zero),cU m,cU x with|some .string,some (.bool false),some m,some x=>some (.GO m x)|_,_,_,_=>none
  |_=>none
 |.mapUpdate t m x v=>match v,P.underlying t with
  |.const (.bool true),some (.map k _)=>match P.underlying k,cU m,cU x with|some .string,some m,some x=>some (.GP m x)|_,_,_=>none
  |_,_=>none
 |.call c=>Qk P eB c|.panic _=>some .bad|.makeInterface _ _=>some .bad|_=>none
def gdP(ops:Array Oper):Option (Nat×Bool)->Option (Option (Nat×Bool))|none=>some none|some (j,b)=>((ops[j]?).bind (·.dst)).map λd=>some (d,b)
def Xx(P:Program)(eB:Nat->Option TypeId)(nt:Nat)(rows:List (Nat×Nat))(ops:Array Oper)(nh:Nat)(o:Oper):Option bz:=match Cz P eB o.op,gdP ops o.guard with|some a,some g=>if(o.dst.getD 0)<nt then some {dst:=o.dst,op:=a,gd:=g,nh:=nh,row:=(rows.lookup (o.dst.getD 0)).getD 0}else none|_,_=>none
def wP(P:Program)(eB:Nat->Option TypeId)(nt:Nat)(rows:List (Nat×Nat))(ops:Array Oper):List (Oper×Nat)->Option (List bz)|[]=>some []|(o,b)::r=>match Xx P eB nt rows ops b o,wP P eB nt rows ops r with|some a,some aL=>some (a::aL)|_,_=>none
def cj.jt:cj->List bT|.GM x|.box x|.xY _ x|.nilCheck x|.un _ x|.conv _ x|.field _ _ _ x|.fieldAddr _ x|.extract x _|.len x|.EU x|.GN x|.Xv x|.Xw x|.sliceB _ _ x|.q8 _ _ _ x|.clear _ _ x|.clone _ _ x|.sort x|.compact x|.load _ _ x=>[x]|.pick a b c=>[a,b,c]|.build _ ps=>ps.map (·.2.2)|.buildSlice _ _ _ ps=>ps.map (·.2)|.store _ x y|.bin _ x y|.U4 _ x y|.U5 _ _ _ x y|.indexAddr _ x y|.jY _ _ x y|.pY _ _ _ x y|.pZ x y|.EV x y|.EW x y|.append _ _ x y|.nY _ _ _ x y|.copy _ x y|.makeSlice _ _ _ x y|.grow _ x y|.GO x y|.GP x y=>[x,y]|.slice _ x a b c=>x::(a.toList++b.toList++c.toList)|.p4 x a b=>x::(a.toList++b.toList)|.makeFunc _ l|.call _ l|.uT _ l=>l|.zZ x l=>x::l|.alloc _|.CH _|.mkSet|.bad=>[]
def bT.slot:bT->List Nat|.t n=>[n]|.c _=>[]
def bz.looks(o:bz):List Nat:=o.op.jt.flatMap bT.slot++(match o.gd with|some (g,_)=>[g]|none=>[])
def JQ(l:List Nat)(n:Nat):Bool:=l.any λm=>Nat.beq m n
def Aa(d:Option Nat)(y:bz):Bool:=match d with|some d=>!JQ y.looks d|none=>true
def L7(d e:Option Nat):Bool:=match d,e with|some d,some e=>!Nat.beq d e|_,_=>true
def bz.apart(x y:bz):Bool:=Aa x.dst y&&Aa y.dst x&&L7 x.dst y.dst
def zF(y:bz):Nat->List bz->Bool|_,[]=>true|i,x::r=>(y.nh.testBit i||x.apart y)&&zF y (i+1) r
def lW(past:List bz):List bz->Bool|[]=>true|y::r=>zF y 0 past&&lW (past++[y]) r
def Edge.E1(e:Edge):Bool:=Region.binds .any e
def adq(past:List Nat)(o:Oper):Nat:=o.after.toList.foldl (λb e=>if Edge.E1 e then(b|||(1<<<e.on))|||past.getD e.on 0 else b) 0
def adr(past:List Nat):List Oper->List Nat|[]=>past|o::r=>adr (past++[adq past o]) r
def E3(nh:List Nat)(i:Nat)(o:Oper)(b:Nat):Bool:=(o.after.toList.all λe=>!Edge.E1 e||Nat.blt e.on i)&&(List.range i).all λj=>!b.testBit j||o.after.toList.any λe=>Edge.E1 e&&(Nat.beq e.on j||(Nat.blt j e.on&&(nh.getD e.on 0).testBit j))
def Da(nh:List Nat):Nat->List Oper->List Nat->Bool|_,[],_=>true|i,o::r,b::bs=>E3 nh i o b&&Da nh (i+1) r bs|_,_::_,[]=>false
def U7(P:Program)(eB:Nat->Option TypeId)(nt:Nat)(rows:List (Nat×Nat))(ops:Array Oper)(draw:Bool):Option AC:=match draw with|false=>(wP P eB nt rows ops (ops.toList.map λo=>(o,0))).map λl=>.region l false|true=>let b:=adr [] ops.toList;match b.length==ops.size&&Da b 0 ops.toList b,wP P eB nt rows ops (ops.toList.zip b)with|true,some l=>if lW [] l then some (.region l true)else none|_,_=>none
def gb:Nat:=4294967296
def gid(l:Nat):Nat:=gb+2*l
def zp(l:Nat):Nat:=gb+2*l+1
def leaves(p:Nat->Bool):AC->Bool|.seq a b=>leaves p a&&leaves p b|.cond _ a b=>leaves p a&&leaves p b|.block _ c=>leaves p c|.loop c=>leaves p c|.exit id=>p id|_=>true
def ZC:Code->Option Nat|.label l=>some l|_=>none
def Xy:Code->Option Nat
 |.seq a b=>match ZC a with|some l=>some l|none=>Xy b
 |_=>none
def Ql(l:Nat)(c:AC):Option AC:=match leaves (λid=>Nat.blt id gb||Nat.beq id (gid l)) c with|true=>some (.block (zp l) (.loop (.block (gid l) (.seq c (.exit (zp l))))))|false=>none
def dF(P:Program)(eB:Nat->Option TypeId)(nt:Nat)(rows:List (Nat×Nat)):Code->Option Nat->Option AC
 |.seq a b,some l=>match ZC a with
  |some l'=>match Nat.beq l' l,dF P eB nt rows b none with|true,some c=>Ql l c|_,_=>none
  |none=>match findLabel a l,dF P eB nt rows a none,dF P eB nt rows b (some l)with|none,some a,some b=>if leaves (λid=>Nat.blt id gb) a then some (.seq a b)else none|_,_,_=>none
 |.skip,none=>some .skip|.region _ ops draw,none=>U7 P eB nt rows ops draw|.seq a b,none=>match dF P eB nt rows a none,dF P eB nt rows b none with|some a,some b=>some (.seq a b)|_,_=>none
 |.cond c a b,none=>match cU c,dF P eB nt rows a none,dF P eB nt rows b none with|some c,some a,some b=>some (.cond c a b)|_,_,_=>none
 |.block id c,none=>match Nat.blt id gb with|true=>(dF P eB nt rows c none).map (.block id)|false=>none
 |.loop c,none=>(dF P eB nt rows c none).map .loop|.exit id,none=>match Nat.blt id gb with|true=>some (.exit id)|false=>none
 |.goto l,none=>some (.exit (gid l))|.scope c,none=>match Xy c with|some l=>dF P eB nt rows c (some l)|none=>none
 |.ret,none=>some .ret|_,_=>none
def L8(P:Program)(eB:Nat->Option TypeId)(nt:Nat)(rows:List (Nat×Nat))(c:Code):Option AC:=dF P eB nt rows c none
def ZD(P:Program):ResultVar->Option z6|.tmp t=>some (.t t)|.cell a t=>match cY P t,nq P t with|some sz,some agg=>if agg\/sz=1then some (.cell a sz agg)else none|_,_=>none
def GW(P:Program):List ResultVar->Option (List z6)|[]=>some []|x::r=>match ZD P x,GW P r with|some y,some ys=>some (y::ys)|_,_=>none
structure Mode where rows:List (Nat×Nat)sh:Bool deriving Inhabited
def CJ(P:Program)(eB:Nat->Option TypeId)(md:Nat->Mode)(f:Nat):Option tF:=match P.funcs[f]?with|none=>none|some fn=>match fn.body with|none=>none|some c=>if fn.name== "runtime.NumGoroutine"then none else match L8 P eB fn.ntmps (md f).rows c,GW P fn.results.toList with|some b,some rs=>let np:=fn.params.size+fn.nfree;if np<=fn.ntmps then some {np,nt:=fn.ntmps,res:=rs,body:=b,sh:=(md f).sh}else none|_,_=>none
end Go.bJ
