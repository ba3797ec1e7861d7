/- A machine over typed data that the kernel runs with unknown data: what a cut of Go code computes becomes a Lean function. Definitions. -/
import Derived.Test.YtkdilffhbejjaaaGreatEngB
set_option linter.unusedVariables false
set_option linter.unusedSimpArgs false
namespace Go.Sym
open Go Go.bM
inductive qD where|mk(kind:Int)(int:Int)(text:List UInt8)(list:List qD)(cut:Bool)deriving Inhabited
def qD.kind:qD->Int|.mk k _ _ _ _=>k
def qD.int:qD->Int|.mk _ i _ _ _=>i
def qD.text:qD->List UInt8|.mk _ _ s _ _=>s
def qD.list:qD->List qD|.mk _ _ _ l _=>l
def qD.cut:qD->Bool|.mk _ _ _ _ c=>c
inductive Ty where|val|int(k:IntKind)|bool|str|sl(t:Ty)|unit|prod(a b:Ty)|sum(a b:Ty)deriving DecidableEq,Inhabited
@[reducible]def Ty.den:Ty->Type|.val=>qD|.int _=>Int|.bool=>Bool|.str=>List UInt8|.sl t=>List t.den|.unit=>Unit|.prod a b=>a.den×b.den|.sum a b=>a.den⊕b.den
structure fS where
 t:Ty
 v:t.den
def u0(a b:Ty)(x:a.den):Option b.den:=match decEq a b with|.isTrue h=>some (h▸x)|.isFalse _=>none
def jS(a b:Ty)(x:List a.den):Option (List b.den):=match decEq a b with|.isTrue h=>some (h▸x)|.isFalse _=>none
def Ty.size:Ty->Nat|.val=>5|.int _|.bool|.str|.sl _=>1|.unit=>0|.prod a b=>a.size+b.size|.sum _ _=>0
inductive Ow where|d|full|app(v:Nat)|bC deriving Inhabited
inductive Cell where|int(k:IntKind)(a:Int)|bool(b:Bool)|er(b:Bool)|str(s:List UInt8)|raw(v:Value)|nil(full:Bool)|sl(t:Ty)(l:List t.den)(o:Ow)|ref(lv sl au:Nat)(t:Ty)|j0(lv sl au:Nat)(t:Ty)(off len:Nat)|ptr(lv sl au i off:Nat)|fW(t:Ty)(x:t.den)(off:Nat)|fF(lv sl au off n sz:Nat)|mp(lv sl au:Nat)deriving Inhabited
inductive V2 where|c(x:Cell)|agg(cs:List Cell)|fk(f:Nat)(cap:List Cell)|jF(vs:List (Bool×List Cell))deriving Inhabited
inductive E2 where|row(au:Nat)(t:Ty)(l:List t.den)|box(au:Nat)(cs:List Cell)|set(au:Nat)(l:List (List UInt8))deriving Inhabited
structure S2 where
 slots:Tr V2
 outer:List (Tr V2)mem:List (Tr E2)aK:Tr Unit
 nv:Nat deriving Inhabited
mutual def Lm:qD->List D|.mk k i s l c=>[.sc (.int .u8 k),.sc (.int .i64 i),.sc (.string ⟨s.toArray⟩),.sl (EK l),.sc (.bool c)]def EK:List qD->List (List D)|[]=>[]|v::r=>Lm v::EK r end
def fy:(t:Ty)->t.den->List D|.val,v=>Lm v|.int k,a=>[.sc (.int k a)]|.bool,b=>[.sc (.bool b)]|.str,s=>[.sc (.string ⟨s.toArray⟩)]|.sl t,l=>[.sl (List.map (fy t) l)]|.unit,_=>[]|.prod a b,x=>fy a x.1++fy b x.2|.sum _ _,_=>[]
def jl:(t:Ty)->t.den->List Cell|.val,v=>[.int .u8 v.kind,.int .i64 v.int,.str v.text,.sl .val v.list .d,.bool v.cut]|.int k,a=>[.int k a]|.bool,b=>[.bool b]|.str,s=>[.str s]|.sl t,l=>[.sl t l .d]|.unit,_=>[]|.prod a b,x=>jl a x.1++jl b x.2|.sum _ _,_=>[]
def IC(k:IntKind):List Cell->Option (Int×List Cell)
 |.int k' a::r=>match decEq k k' with|.isTrue _=>some (a,r)|.isFalse _=>none
 |_=>none
def Gw:List Cell->Option (Bool×List Cell)|.bool b::r=>some (b,r)|_=>none
def Nd:List Cell->Option (List UInt8×List Cell)|.str s::r=>some (s,r)|_=>none
def XB(t:Ty):List Cell->Option (List t.den×List Cell)
 |.nil _::r=>some ([],r)|.sl t' l _::r=>match jS t' t l with|some l=>some (l,r)|none=>none
 |_=>none
def ZH(cs:List Cell):Option (qD×List Cell):=match IC .u8 cs with
 |some (k,r)=>match IC .i64 r with
  |some (i,r)=>match Nd r with
   |some (s,r)=>match XB .val r with
    |some (l,r)=>match Gw r with|some (c,r)=>some (.mk k i s l c,r)|none=>none
    |none=>none
   |none=>none
  |none=>none
 |none=>none
def zq:(t:Ty)->List Cell->Option (t.den×List Cell)
 |.val,cs=>ZH cs|.int k,cs=>IC k cs|.bool,cs=>Gw cs|.str,cs=>Nd cs|.sl t,cs=>XB t cs|.unit,r=>some ((),r)|.prod a b,r=>match zq a r with
  |some (x,r')=>match zq b r' with|some (y,r'')=>some ((x,y),r'')|none=>none
  |none=>none
 |.sum _ _,_=>none
def zu(t:Ty)(cs:List Cell):Option t.den:=match zq t cs with|some (x,[])=>some x|_=>none
def abG:Value->Cell|.int k a=>.int k a|.bool b=>.bool b|.string b=>.str b.data.toList|v=>.raw v
def XC:AV->Option Cell|.d (.sc v)=>some (abG v)|.own [] .full=>some (.nil true)|_=>none
def BN:List AV->Option (List Cell)|[]=>some []|x::r=>match XC x,BN r with|some y,some ys=>some (y::ys)|_,_=>none
def abH:AV->Option V2|.agg cs=>(BN cs).map .agg|.jF []=>some (.jF [])|.fk f []=>some (.fk f [])|x=>(XC x).map .c
def XD:D->Option Cell|.sc v=>some (abG v)|.sl []=>some (.nil false)|_=>none
def sG:List D->Option (List Cell)|[]=>some []|x::r=>match XD x,sG r with|some y,some ys=>some (y::ys)|_,_=>none
def jO(m:List (Tr E2))(lv sl:Nat):Option E2:=(m[lv]?).bind λt=>t.get? sl
def BO(m:List (Tr E2))(lv sl:Nat)(e:Option E2):List (Tr E2):=m.modify lv λt=>t.set sl e
def gr(m:List (Tr E2)):List (Nat×Nat×Option E2)->List (Tr E2)|[]=>m|(lv,sl,e)::r=>gr (BO m lv sl e) r
structure SL where
 t:Ty
 l:List t.den
def rowOf(m:List (Tr E2))(lv sl au:Nat):Option SL:=match jO m lv sl with
 |some (.row v t l)=>match Nat.beq v au with|true=>some ⟨t,l⟩|false=>none
 |_=>none
def Nf(m:List (Tr E2))(lv sl au:Nat):Option (List (List UInt8)):=match jO m lv sl with
 |some (.set v l)=>match Nat.beq v au with|true=>some l|false=>none
 |_=>none
def Ln(m:List (Tr E2)):Cell->Option (Cell×List (Nat×Nat))
 |.int k a=>some (.int k a,[])|.bool b=>some (.bool b,[])|.str s=>some (.str s,[])|.raw v=>some (.raw v,[])|.nil _=>some (.nil false,[])|.sl _ _ .bC=>none|.sl t l _=>some (.sl t l .d,[])|.ref lv sl au _=>match rowOf m lv sl au with|some r=>some (.sl r.t r.l .d,[(lv,sl)])|none=>none
 |.j0 lv sl au _ off len=>match rowOf m lv sl au with|some r=>some (.sl r.t ((r.l.drop off).take len) .d,[(lv,sl)])|none=>none
 |_=>none
def mN(m:List (Tr E2)):List Cell->Option (List Cell×List (Nat×Nat))|[]=>some ([],[])|x::r=>match Ln m x,mN m r with|some (y,k),some (ys,ks)=>some (y::ys,k++ks)|_,_=>none
structure ID where
 val:V2
 di:List (Nat×Nat×Option E2)cK:List (Nat×Bool)rd:List (Nat×Nat×Nat)deriving Inhabited
inductive gY where|ck(e:ID)|all(val:V2)(s:S2)deriving Inhabited
def ID.wr(e:ID):List (Nat×Nat×Nat):=e.di.map (λu=>cB u.1 u.2.1)++e.cK.map λu=>kH u.1
def kS(v:V2):gY:=.ck {val:=v,di:=[],cK:=[],rd:=[]}
def ef(c:Cell):gY:=kS (.c c)
def sH:Cell->List (Nat×Nat×Nat)|.ref lv sl _ _=>[cB lv sl]|.j0 lv sl _ _ _ _=>[cB lv sl]|.ptr lv sl _ _ _=>[cB lv sl]|.fF lv sl _ _ _ _=>[cB lv sl]|.mp lv sl _=>[cB lv sl]|_=>[]
def Gx:V2->List (Nat×Nat×Nat)|.c x=>sH x|.agg cs=>cs.flatMap sH|_=>[]
def kT(ks:List (Nat×Nat)):List (Nat×Nat×Option E2):=ks.map λk=>(k.1,k.2,none)
def XE(s:Tr V2)(dst:Option Nat)(v:V2):Tr V2:=match dst with|some n=>s.set n (some v)|none=>s
def S2.app(s:S2)(dst:Option Nat):gY->S2|.ck e=>{slots:=XE s.slots dst e.val,outer:=s.outer,mem:=gr s.mem e.di,aK:=eu s.aK e.cK,nv:=s.nv}|.all v s'=>{s' with slots:=XE s'.slots dst v}
def Cell.still:Cell->Bool|.ref ..|.j0 ..|.ptr ..|.fF ..|.mp ..=>false|.sl _ _ (.app _)=>false|_=>true
def V2.still:V2->Bool|.c x=>x.still|.agg cs=>cs.all Cell.still|.fk _ cs=>cs.all Cell.still|.jF vs=>vs.all λv=>v.2.all Cell.still
def loose:Tr V2->Tr V2|.lf=>.lf|.nd v l r=>.nd (match v with|none=>none|some x=>match x.still with|true=>none|false=>some x) (loose l) (loose r)
def merge:Tr V2->Tr V2->Tr V2|.lf,_=>.lf|.nd v l r,b=>.nd (match v with|none=>none|some x=>match x.still with|true=>some x|false=>b.top) (merge l b.left) (merge r b.right)
def jG(s:S2):cc->Option V2|.t n=>s.slots.get? n|.c v=>abH v
def Gy(s:S2):List cc->Option (List V2)|[]=>some []|x::r=>match jG s x,Gy s r with|some y,some ys=>some (y::ys)|_,_=>none
def V2.cells?:V2->Option (List Cell)|.c x=>some [x]|.agg cs=>some cs|_=>none
def BP(agg:Bool)(cs:List Cell):Option V2:=match agg with|true=>some (.agg cs)|false=>match cs with|[x]=>some (.c x)|_=>none
section
variable{α:Type}
def aF(b:Bool)(k:Option α):Option α:=cond b k none
def idx{β:Type}(l:List β)(i:Int):Option β:=cond (decide (0<=i)) (l[i.toNat]?) none
def OU:Nat->Nat->(Nat->Option α)->Option α|0,_,_=>none|n+1,k,F=>cond (Nat.beq k n) (F n) (OU n k F)
def ga(i:Int)(n:Nat):Bool:=decide (0<=i)&&decide (i.toNat<n)
def room(n b:Nat):Bool:=decide (n<=fm)&&decide (n*b<=ku)
def BQ{β:Type}(news l:List β):List β:=news.take (min news.length l.length)++l.drop (news.take (min news.length l.length)).length
def bK(s:List UInt8):List Int:=s.map λc=>(c.toNat:Int)
def jm(v:Option V2)(k:Cell->Option α):Option α:=match v with|some (.c x)=>k x|_=>none
def OV(v:Option V2)(k:Int->Option α):Option α:=match v with|some (.c (.int _ n))=>k n|_=>none
def GA(v:Option V2)(k:Nat->Option α):Option α:=OV v λn=>aF (decide (0<=n)) (k n.toNat)
def wD(v:Option V2)(k:Bool->Option α):Option α:=match v with|some (.c (.bool b))=>k b|_=>none
def cu{β:Type}(o:Option β)(k:β->Option α):Option α:=match o with|some x=>k x|none=>none
def au1:Value->Option Cell|.int k a=>some (.int k a)|.bool b=>some (.bool b)|_=>none
def abI(op:BinOp)(k:IntKind)(a:Int)(k':IntKind)(b:Int)(K:Cell->Option α):Option α:=match op with|.shl=>aF (!decide (b<0)) (K (.int k (k.wrap (a*2^min b.toNat k.bits))))|.shr=>aF (!decide (b<0)) (K (.int k (a.fdiv (2^min b.toNat k.bits))))|op=>match decEq k k' with|.isFalse _=>none|.isTrue _=>match op with|.add=>K (.int k (k.wrap (a+b)))|.sub=>K (.int k (k.wrap (a-b)))|.mul=>K (.int k (k.wrap (a*b)))|.quo=>aF (!decide (b=0)) (K (.int k (k.wrap (a.tdiv b))))|.rem=>aF (!decide (b=0)) (K (.int k (a.tmod b)))|.and=>K (.int k (k.wrap (BitVec.ofInt k.bits a&&&BitVec.ofInt k.bits b).toNat))|.or=>K (.int k (k.wrap (BitVec.ofInt k.bits a|||BitVec.ofInt k.bits b).toNat))|.xor=>K (.int k (k.wrap (BitVec.ofInt k.bits a^^^BitVec.ofInt k.bits b).toNat))|.andNot=>K (.int k (k.wrap (BitVec.ofInt k.bits a&&&~~~(BitVec.ofInt k.bits b)).toNat))|.eql=>K (.bool (a==b))|.neq=>K (.bool (a !=b))|.lss=>K (.bool (decide (a<b)))|.leq=>K (.bool (decide (a<=b)))|.gtr=>K (.bool (decide (a>b)))|.geq=>K (.bool (decide (a>=b)))|_=>none
def abJ(op:BinOp)(x y:List UInt8)(K:Cell->Option α):Option α:=match op with|.add=>aF (!decide (((x.length+y.length:Nat):Int)>IntKind.i64.max)) (K (.str (x++y)))|.eql=>K (.bool (x==y))|.neq=>K (.bool !(x==y))|.lss=>K (.bool (Op.bytesLess x y))|.leq=>K (.bool (Op.bytesLess x y||x==y))|.gtr=>K (.bool !(Op.bytesLess x y||x==y))|.geq=>K (.bool !(Op.bytesLess x y))|_=>none
def abK(op:BinOp)(x y:Cell)(K:Cell->Option α):Option α:=match x,y with|.int k a,.int k' b=>abI op k a k' b K|.str a,.str b=>abJ op a b K|_,_=>none
def RK(kd:Nat):Cell->Cell->Option Bool
 |.bool a,.bool b=>match kd with|0=>some (a==b)|_=>none
 |.int k a,.int k' b=>match kd with
  |1=>match decEq k k' with|.isTrue _=>some (a==b)|.isFalse _=>none
  |_=>none
 |.str a,.str b=>match kd with|0=>none|1=>none|_=>some (a==b)
 |_,_=>none
def GB(xs ys:List Cell):List (Nat×Nat)->Option Bool|[]=>some true|o::r=>match xs[o.1]?,ys[o.1]?,GB xs ys r with|some x,some y,some b'=>(RK o.2 x y).map λb=>b&&b'|_,_,_=>none
def unK(op:UnOp)(x:Cell)(K:Cell->Option α):Option α:=match x with
 |.bool b=>match op with|.not=>K (.bool !b)|_=>none
 |.int k n=>match op with|.neg=>K (.int k (k.wrap (0-n)))|.xor=>K (.int k (k.wrap (BitVec.ofInt k.bits (if k.signed then-1 else k.max)^^^BitVec.ofInt k.bits n).toNat))|_=>none
 |_=>none
def oW(m:List (Tr E2))(x:Cell)(e:Option Ty)(K:SL->Option α):Option α:=match x with|.sl t l _=>K ⟨t,l⟩|.nil _=>cu e λt=>K ⟨t,[]⟩|.ref lv sl au _=>cu (rowOf m lv sl au) K|.j0 lv sl au _ off len=>cu (rowOf m lv sl au) λr=>aF (decide (off+len<=r.l.length)) (K ⟨r.t,(r.l.drop off).take len⟩)|.str s=>K ⟨.int .u8,bK s⟩|_=>none
def EL(s:S2):List Cell->List (Nat×Nat×cc)->Option (List Cell)|cs,[]=>some cs|cs,(off,sz,x)::r=>match(jG s x).bind V2.cells? with
 |some new=>match Nat.beq new.length sz&&Nat.ble (off+sz) cs.length with|true=>EL s (bM.splice cs off new) r|false=>none
 |none=>none
def BR(s:S2)(sz:Nat):List (List Cell)->List (Nat×cc)->Option (List (List Cell)×List (Nat×Nat))|els,[]=>some (els,[])|els,(i,x)::r=>match((jG s x).bind V2.cells?).bind (mN s.mem)with
 |some (e,ks)=>match Nat.beq e.length sz&&Nat.blt i els.length with
  |true=>match BR s sz (els.set i e) r with|some (els',ks')=>some (els',ks++ks')|none=>none
  |false=>none
 |none=>none
def BS(t:Ty):List (List Cell)->Option (List t.den)|[]=>some []|e::r=>match zu t e,BS t r with|some x,some xs=>some (x::xs)|_,_=>none
def BT:List V2->Option (List Cell)|[]=>some []|.c x::r=>(BT r).map (x::·)|_=>none
def Ng(m:List (Tr E2))(sz:Nat)(p:Cell)(K:List Cell->Option α):Option α:=match p with
 |.ptr lv sl au i off=>match jO m lv sl with
  |some (.box v cs)=>match Nat.beq v au&&Nat.beq i 0&&Nat.ble (off+sz) cs.length with|true=>K ((cs.drop off).take sz)|false=>none
  |some (.row v t l)=>match Nat.beq v au&&Nat.ble (off+sz) t.size with|true=>Option.bind l[i]? λx=>K (((jl t x).drop off).take sz)|false=>none
  |some (.set _ _)=>none|none=>none
 |.fW t x off=>match Nat.ble (off+sz) t.size with|true=>K (((jl t x).drop off).take sz)|false=>none
 |_=>none
def BU(ks:List (Nat×Nat))(lv sl:Nat):Bool:=ks.any λk=>Nat.beq k.1 lv&&Nat.beq k.2 sl
def Lo(m:List (Tr E2))(sz:Nat)(p:Cell)(new:List Cell)(K:gY->Option α):Option α:=match p,Nat.beq new.length sz with
 |.ptr lv sl au i off,true=>match jO m lv sl with
  |some (.box v cs)=>match Nat.beq v au&&Nat.beq i 0&&Nat.ble (off+sz) cs.length with|true=>K (.ck {val:=.jF [],di:=[(lv,sl,some (.box v (bM.splice cs off new)))],cK:=[],rd:=[cB lv sl]})|false=>none
  |some (.row v t l)=>match Nat.beq v au&&Nat.ble (off+sz) t.size,mN m new with
   |true,some (new,ks)=>match BU ks lv sl with|true=>none|false=>Option.bind l[i]? λx=>cu (zu t (bM.splice (jl t x) off new)) λy=>K (.ck {val:=.jF [],di:=kT ks++[(lv,sl,some (.row v t (l.set i y)))],cK:=[],rd:=cB lv sl::jg ks})
   |_,_=>none
  |some (.set _ _)=>none|none=>none
 |_,_=>none
def OW(s:S2)(row:Bool)(lv sl aT sz bytes:Nat)(x y:Cell)(e:Option Ty)(K:gY->Option α):Option α:=match x with
 |.nil true=>oW s.mem y e λn=>match Nat.beq n.t.size sz with|true=>aF (room n.l.length bytes) (match row with|false=>K (.ck {val:=.c (.sl n.t n.l (.app aT)),di:=[],cK:=[(aT,true)],rd:=sH y})|true=>K (.ck {val:=.c (.ref lv sl aT n.t),di:=[(lv,sl,some (.row aT n.t n.l))],cK:=[],rd:=sH y}))|false=>none
 |.sl t l .full=>oW s.mem y (some t) λn=>match Nat.beq t.size sz,jS n.t t n.l with|true,some news=>aF (room (l.length+news.length) bytes) (match row with|false=>K (.ck {val:=.c (.sl t (l++news) (.app aT)),di:=[],cK:=[(aT,true)],rd:=sH y})|true=>aF (l.isEmpty||!news.isEmpty) (K (.ck {val:=.c (.ref lv sl aT t),di:=[(lv,sl,some (.row aT t (l++news)))],cK:=[],rd:=sH y})))|_,_=>none
 |.sl t l (.app v)=>oW s.mem y (some t) λn=>match Nat.beq t.size sz,jS n.t t n.l,row,s.aK.get? v with|true,some news,false,some ()=>aF (room (l.length+news.length) bytes) (K (.ck {val:=.c (.sl t (l++news) (.app aT)),di:=[],cK:=[(v,false),(aT,true)],rd:=kH v::sH y}))|_,_,_,_=>none
 |.ref cM cZ au t=>cu (rowOf s.mem cM cZ au) λr=>oW s.mem y (some t) λn=>match Nat.beq t.size sz,jS r.t t r.l,jS n.t t n.l with|true,some l,some news=>aF (room (l.length+news.length) bytes) (K (.ck {val:=.c (.ref cM cZ aT t),di:=[(cM,cZ,some (.row aT t (l++news)))],cK:=[],rd:=cB cM cZ::sH y}))|_,_,_=>none
 |.j0 cM cZ au t off len=>cu (rowOf s.mem cM cZ au) λr=>oW s.mem y (some t) λn=>match Nat.beq t.size sz,jS r.t t r.l,jS n.t t n.l with|true,some l,some news=>aF (decide (off+len<=l.length)&&room (len+news.length) bytes) (K (.ck {val:=.c (.ref cM cZ aT t),di:=[(cM,cZ,some (.row aT t ((l.drop off).take len++news)))],cK:=[],rd:=cB cM cZ::sH y}))|_,_,_=>none
 |_=>none
def u5(x:Option cc)(s:S2)(K:Option Nat->Option α):Option α:=match x with|none=>K none|some o=>GA (jG s o) λn=>K (some n)
def oX{β:Type}(l:List β)(lo hi:Option Nat):List β:=match lo,hi with|none,none=>l|some a,none=>l.drop a|none,some b=>l.take b|some a,some b=>(l.drop a).take (b-a)
def nI(n:Nat)(lo hi:Option Nat):Bool:=match lo,hi with|none,none=>true|some a,none=>decide (a<=n)|none,some b=>decide (b<=n)|some a,some b=>decide (a<=b)&&decide (b<=n)
def Aw(lo:Option Nat):Nat:=lo.getD 0
def Cell.nL:Cell->Bool|.ref ..=>true|.j0 ..=>true|_=>false
def V2.nL:V2->Bool|.c x=>x.nL|_=>false
def abL(m:List (Tr E2))(sz aT:Nat)(x:Cell)(lo hi:Option Nat)(K:gY->Option α):Option α:=match x with
 |.ref lv sl au t=>cu (rowOf m lv sl au) λr=>match Nat.beq t.size sz,jS r.t t r.l with|true,some l=>aF (nI l.length lo hi) (K (.ck {val:=.c (.ref lv sl aT t),di:=[(lv,sl,some (.row aT t (oX l lo hi)))],cK:=[],rd:=[cB lv sl]}))|_,_=>none
 |_=>none
def Lp(m:List (Tr E2))(sz:Nat)(x:Cell)(lo hi mx:Option Nat)(K:Cell->Option α):Option α:=match x with
 |.sl t l o=>match Nat.beq t.size sz with
  |true=>match mx with|none=>aF (nI l.length lo hi) (match o with
   |.bC=>K (.sl t (oX l lo hi) .bC)|.full=>match hi with|none=>K (.sl t (oX l lo hi) .full)|some _=>K (.sl t (oX l lo hi) .d)
   |_=>K (.sl t (oX l lo hi) .d))|some m=>match o,hi with|.bC,_=>none|_,none=>none|_,some h=>aF (nI l.length lo hi&&Nat.beq h m) (K (.sl t (oX l lo hi) .full))
  |false=>none
 |.nil f=>match mx with|none=>aF (nI 0 lo hi) (K (.nil f))|some _=>none
 |.ref lv sl au t=>match Nat.beq t.size sz,mx with|true,none=>cu (rowOf m lv sl au) λr=>aF (nI r.l.length lo hi) (K (.j0 lv sl au t (Aw lo) (hi.getD r.l.length-Aw lo)))|_,_=>none
 |.j0 lv sl au t off len=>match Nat.beq t.size sz,mx with|true,none=>aF (nI len lo hi) (K (.j0 lv sl au t (off+Aw lo) (hi.getD len-Aw lo)))|_,_=>none
 |_=>none
end
inductive gZ where|int(k:IntKind)|bool|er|str|sl(t:Ty)(o:Ow)|nil(full:Bool)|ref(lv sl au:Nat)(t:Ty)|ptr(lv sl au i off:Nat)|fW(t:Ty)(off:Nat)|mp(lv sl au:Nat)deriving Inhabited
inductive tZ where|c(x:gZ)|agg(l:List gZ)|fk(f:Nat)(l:List gZ)deriving Inhabited
inductive Nh where|row(au:Nat)(t:Ty)|box(au:Nat)(l:List gZ)|set(au:Nat)deriving Inhabited
@[reducible]def rS:List Ty->Ty|[]=>.unit|[a]=>a|a::b::r=>.prod a (rS (b::r))
def unpack:(ts:List Ty)->(rS ts).den->List fS|[],_=>[]|[a],x=>[⟨a,x⟩]|a::b::r,x=>⟨a,x.1⟩::unpack (b::r) x.2
def pack:(ts:List Ty)->List fS->Option (rS ts).den
 |[],[]=>some ()|[a],[d]=>u0 d.t a d.v|a::b::r,d::ds=>match u0 d.t a d.v,pack (b::r) ds with|some x,some y=>some (x,y)|_,_=>none
 |_,_=>none
def gZ.fill:gZ->List fS->Option (Cell×List fS)|.int _,⟨.int k,a⟩::r=>some (.int k a,r)|.bool,⟨.bool,b⟩::r=>some (.bool b,r)|.er,⟨.bool,b⟩::r=>some (.er b,r)|.str,⟨.str,s⟩::r=>some (.str s,r)|.sl _ o,⟨.sl t,l⟩::r=>some (.sl t l o,r)|.nil f,r=>some (.nil f,r)|.ref lv sq au t,r=>some (.ref lv sq au t,r)|.ptr lv sq au i off,r=>some (.ptr lv sq au i off,r)|.fW _ off,⟨t,x⟩::r=>some (.fW t x off,r)|.mp lv sq au,r=>some (.mp lv sq au,r)|_,_=>none
def dx:List gZ->List fS->Option (List Cell×List fS)|[],r=>some ([],r)|c::cs,r=>match c.fill r with
 |some (x,r')=>match dx cs r' with|some (xs,r'')=>some (x::xs,r'')|none=>none
 |none=>none
def tZ.fill:tZ->List fS->Option (V2×List fS)
 |.c x,r=>match x.fill r with|some (y,r')=>some (.c y,r')|none=>none
 |.agg l,r=>match dx l r with|some (y,r')=>some (.agg y,r')|none=>none
 |.fk f l,r=>match dx l r with|some (y,r')=>some (.fk f y,r')|none=>none
def Nh.fill:Nh->List fS->Option (E2×List fS)
 |.row au _,⟨.sl t,l⟩::r=>some (.row au t l,r)|.box au l,r=>match dx l r with|some (y,r')=>some (.box au y,r')|none=>none
 |.set au,⟨.sl .str,l⟩::r=>some (.set au l,r)|_,_=>none
abbrev Ren:=List (Nat×Option Nat)
def gZ.get:gZ->Cell->Option (List fS×Ren)
 |.int k,.int k' a=>match decEq k k' with|.isTrue _=>some ([⟨.int k',a⟩],[])|.isFalse _=>none
 |.bool,.bool b=>some ([⟨.bool,b⟩],[])|.er,.er b=>some ([⟨.bool,b⟩],[])|.str,.str s=>some ([⟨.str,s⟩],[])|.sl t o,.nil f=>match o,f with|.d,_=>some ([⟨.sl t,[]⟩],[])|.bC,_=>some ([⟨.sl t,[]⟩],[])|.full,true=>some ([⟨.sl t,[]⟩],[])|.app v,true=>some ([⟨.sl t,[]⟩],[(v,none)])|_,_=>none
 |.sl _ o,.sl t' l o'=>match o,o' with|.bC,_=>some ([⟨.sl t',l⟩],[])|.d,.bC=>none|.d,_=>some ([⟨.sl t',l⟩],[])|.full,.full=>some ([⟨.sl t',l⟩],[])|.app v,.full=>some ([⟨.sl t',l⟩],[(v,none)])|.app v,.app v'=>some ([⟨.sl t',l⟩],[(v,some v')])|_,_=>none
 |.nil true,.nil true=>some ([],[])|.nil false,.nil _=>some ([],[])|.ref lv sq au t,.ref cM sq' gF t'=>match Nat.beq lv cM&&Nat.beq sq sq',decEq t t' with|true,.isTrue _=>some ([],[(au,some gF)])|_,_=>none
 |.ptr lv sq au i off,.ptr cM sq' gF i' off'=>match Nat.beq lv cM&&Nat.beq sq sq'&&Nat.beq i i'&&Nat.beq off off' with|true=>some ([],[(au,some gF)])|false=>none
 |.fW _ off,.fW t' x off'=>match Nat.beq off off' with|true=>some ([⟨t',x⟩],[])|false=>none
 |.mp lv sq au,.mp cM sq' gF=>match Nat.beq lv cM&&Nat.beq sq sq' with|true=>some ([],[(au,some gF)])|false=>none
 |_,_=>none
def zw:List gZ->List Cell->Option (List fS×Ren)
 |[],[]=>some ([],[])|c::cs,x::xs=>match c.get x,zw cs xs with|some (d,r),some (ds,rs)=>some (d++ds,r++rs)|_,_=>none
 |_,_=>none
def tZ.get:tZ->V2->Option (List fS×Ren)
 |.c x,.c y=>x.get y|.agg l,.agg cs=>zw l cs|.fk f l,.fk f' cs=>match Nat.beq f f' with|true=>zw l cs|false=>none
 |_,_=>none
def Nh.get:Nh->E2->Option (List fS×Ren)
 |.row au _,.row gF t' l=>some ([⟨.sl t',l⟩],[(au,some gF)])|.box au l,.box gF cs=>match zw l cs with|some (d,r)=>some (d,(au,some gF)::r)|none=>none
 |.set au,.set gF l=>some ([⟨.sl .str,l⟩],[(au,some gF)])|_,_=>none
structure bq where
 slots:List (Nat×tZ)outer:List (List (Nat×tZ))mem:List (Nat×Nat×Nh)lvs:Nat
 aK:List Nat
 nv:Nat
 tys:List Ty deriving Inhabited
def n5:List (Nat×tZ)->List fS->Tr V2->Option (Tr V2×List fS)|[],r,t=>some (t,r)|(k,v)::l,r,t=>match v.fill r with|some (x,r')=>n5 l r' (t.set k (some x))|none=>none
def ua:List (List (Nat×tZ))->List fS->Option (List (Tr V2)×List fS)|[],r=>some ([],r)|x::l,r=>match n5 x r .lf with
 |some (t,r')=>match ua l r' with|some (ts,r'')=>some (t::ts,r'')|none=>none
 |none=>none
def wE:List (Nat×Nat×Nh)->List fS->List (Tr E2)->Option (List (Tr E2)×List fS)|[],r,m=>some (m,r)|(lv,sl,e)::l,r,m=>match e.fill r with|some (x,r')=>wE l r' (BO m lv sl (some x))|none=>none
def GC:List Nat->Tr Unit->Tr Unit|[],t=>t|v::r,t=>GC r (t.set v (some ()))
def bq.st(T:bq)(ds:List fS):Option S2:=match n5 T.slots ds .lf with
 |some (sl,r)=>match ua T.outer r with
  |some (os,r)=>match wE T.mem r (List.replicate T.lvs .lf)with|some (m,[])=>some {slots:=sl,outer:=os,mem:=m,aK:=GC T.aK .lf,nv:=T.nv}|_=>none
  |none=>none
 |none=>none
def qc(s:Tr V2):List (Nat×tZ)->Option (List fS×Ren)|[]=>some ([],[])|(k,v)::l=>match(s.get? k).bind v.get,qc s l with|some (d,r),some (ds,rs)=>some (d++ds,r++rs)|_,_=>none
def qd:List (Tr V2)->List (List (Nat×tZ))->Option (List fS×Ren)
 |[],[]=>some ([],[])|t::ts,x::xs=>match qc t x,qd ts xs with|some (d,r),some (ds,rs)=>some (d++ds,r++rs)|_,_=>none
 |_,_=>none
def BV(m:List (Tr E2)):List (Nat×Nat×Nh)->Option (List fS×Ren)|[]=>some ([],[])|(lv,sl,e)::l=>match(jO m lv sl).bind e.get,BV m l with|some (d,r),some (ds,rs)=>some (d++ds,r++rs)|_,_=>none
def uC:Ren->Nat->Option Nat|[],_=>none|(a,w)::r,v=>match Nat.beq a v with|true=>w|false=>uC r v
def oeq:Option Nat->Option Nat->Bool|none,none=>true|some a,some b=>Nat.beq a b|_,_=>false
def RL(nv snv:Nat)(σ:Ren):Bool:=σ.all λp=>Nat.blt p.1 nv&&oeq (uC σ p.1) p.2&&(match p.2with|none=>true|some w=>Nat.blt w snv&&σ.all λq=>Nat.beq q.1 p.1||!oeq q.2 p.2)
def GD(nv:Nat)(σ:Ren)(t:Tr Unit):List Nat->Bool|[]=>true|v::r=>Nat.blt v nv&&(match uC σ v with|none=>true|some w=>(t.get? w).isSome)&&GD nv σ t r
def bq.get(T:bq)(s:S2):Option (List fS):=match qc s.slots T.slots,qd s.outer T.outer,BV s.mem T.mem with
 |some (d,r),some (ds',rs'),some (ds,rs)=>match Nat.beq T.lvs s.mem.length&&RL T.nv s.nv (r++(rs'++rs))&&GD T.nv (r++(rs'++rs)) s.aK T.aK with|true=>some (d++(ds'++ds))|false=>none
 |_,_,_=>none
inductive uD where|c(x:gZ)|agg(l:List gZ)|fk(f:Nat)|box(l:List gZ)deriving Inhabited
structure Callee where
 args:List uD
 ta:List Ty
 res:List (Bool×List gZ)tr:List Ty
 rk:Nat
 F:(rS ta).den->Option (rS tr).den
abbrev bn:=List (AX×bq)
@[reducible]def oY:bn->Ty|[]=>.unit|[x]=>rS x.2.tys|x::y::r=>.sum (rS x.2.tys) (oY (y::r))
structure IE where
 T:bq
 outs:bn
 F:(rS T.tys).den->Option (oY outs).den
structure ah where
 fns:Nat->Option qC
 vE:Nat->Option Callee
 loops:Nat->Nat->AC->Option IE
 IF:Nat->Nat->Option bn
 RM:Nat->Nat->Option bn
 Lq:Nat->Nat->Option (Nat×Ty)unr:Nat->Nat->Bool
 Ni:Nat->Nat->Option Ty
def ah.sh(E:ah)(g:Nat):Bool:=((E.fns g).map (·.sh)).getD false
def gZ.arg(m:List (Tr E2))(agg:Bool):gZ->Cell->Option (List fS×List (Nat×Nat)×List Bool)
 |.int k,.int k' a=>match decEq k k' with|.isTrue _=>some ([⟨.int k',a⟩],[],[])|.isFalse _=>none
 |.bool,.bool b=>some ([⟨.bool,b⟩],[],[])|.str,.str s=>some ([⟨.str,s⟩],[],[])|.sl t o,.nil _=>match o with|.d=>some ([⟨.sl t,[]⟩],[],[])|.bC=>some ([⟨.sl t,[]⟩],[],[])|_=>none
 |.sl _ o,.sl t' l o'=>match o,o' with|.bC,_=>some ([⟨.sl t',l⟩],[],[])|.d,.bC=>none|.d,_=>some ([⟨.sl t',l⟩],[],[])|_,_=>none
 |.sl _ o,.ref lv sq au _=>match rowOf m lv sq au,o,agg with|some r,.bC,false=>some ([⟨.sl r.t,r.l⟩],[],[])|some r,.bC,true=>some ([⟨.sl r.t,r.l⟩],[(lv,sq)],[])|some r,.d,true=>some ([⟨.sl r.t,r.l⟩],[(lv,sq)],[])|_,_,_=>none
 |.sl _ o,.j0 lv sq au _ off len=>match rowOf m lv sq au,o,agg with|some r,.bC,false=>some ([⟨.sl r.t,(r.l.drop off).take len⟩],[],[decide (off+len<=r.l.length)])|_,_,_=>none
 |_,_=>none
def BW(m:List (Tr E2)):List gZ->List Cell->Option (List fS×List (Nat×Nat)×List Bool)
 |[],[]=>some ([],[],[])|c::cs,x::xs=>match c.arg m true x,BW m cs xs with|some (d,k,b),some (ds,ks,bs)=>some (d++ds,k++ks,b++bs)|_,_=>none
 |_,_=>none
def uD.arg(m:List (Tr E2)):uD->V2->Option (List fS×List (Nat×Nat)×List Bool)
 |.c x,.c y=>x.arg m false y|.agg l,.agg cs=>BW m l cs|.fk f,.fk f' []=>match Nat.beq f f' with|true=>some ([],[],[])|false=>none
 |_,_=>none
def EM(m:List (Tr E2)):List uD->List V2->Option (List fS×List (Nat×Nat)×List Bool)
 |[],[]=>some ([],[],[])|p::ps,x::xs=>match p.arg m x,EM m ps xs with|some (d,k,b),some (ds,ks,bs)=>some (d++ds,k++ks,b++bs)|_,_=>none
 |_,_=>none
def u6{α:Type}(l:List Bool)(k:Option α):Option α:=match l with|[]=>k|b::r=>aF b (u6 r k)
def abM(m:List (Tr E2)):Cell->Option Cell
 |.int k a=>some (.int k a)|.bool b=>some (.bool b)|.str s=>some (.str s)|.raw v=>some (.raw v)|.nil _=>some (.nil false)|.sl t l _=>some (.sl t l .d)|.ref lv sl au _=>match rowOf m lv sl au with|some r=>some (.sl r.t r.l .d)|none=>none
 |.j0 lv sl au _ off len=>match rowOf m lv sl au with|some r=>some (.sl r.t ((r.l.drop off).take len) .d)|none=>none
 |_=>none
def XF(m:List (Tr E2)):List Cell->Option (List Cell)|[]=>some []|x::r=>match abM m x,XF m r with|some y,some ys=>some (y::ys)|_,_=>none
def gZ.lG(m:List (Tr E2))(agg:Bool):gZ->Cell->Option (List fS×List Bool)
 |.int k,.int k' a=>match decEq k k' with|.isTrue _=>some ([⟨.int k',a⟩],[])|.isFalse _=>none
 |.bool,.bool b=>some ([⟨.bool,b⟩],[])|.str,.str s=>some ([⟨.str,s⟩],[])|.sl t o,.nil _=>match o with|.d=>some ([⟨.sl t,[]⟩],[])|.bC=>some ([⟨.sl t,[]⟩],[])|_=>none
 |.sl _ o,.sl t' l _=>match o with|.d=>some ([⟨.sl t',l⟩],[])|.bC=>some ([⟨.sl t',l⟩],[])|_=>none
 |.sl _ o,.ref lv sq au _=>match rowOf m lv sq au,o with|some r,.d=>some ([⟨.sl r.t,r.l⟩],[])|some r,.bC=>some ([⟨.sl r.t,r.l⟩],[])|_,_=>none
 |.sl _ o,.j0 lv sq au _ off len=>match rowOf m lv sq au,o with|some r,.d=>some ([⟨.sl r.t,(r.l.drop off).take len⟩],[decide (off+len<=r.l.length)])|some r,.bC=>some ([⟨.sl r.t,(r.l.drop off).take len⟩],[decide (off+len<=r.l.length)])|_,_=>none
 |.sl t o,.fF lv sq au off n sz=>match agg,jO m lv sq with
  |false,some (.box v cs)=>match Nat.beq v au&&Nat.ble (off+n*sz) cs.length,(XF m ((cs.drop off).take (n*sz))).bind λds=>BS t (bM.chunk sz n ds)with
   |true,some l=>match o with|.d=>some ([⟨.sl t,l⟩],[])|.bC=>some ([⟨.sl t,l⟩],[])|_=>none
   |_,_=>none
  |_,_=>none
 |_,_=>none
def xM(m:List (Tr E2)):List gZ->List Cell->Option (List fS×List Bool)
 |[],[]=>some ([],[])|c::cs,x::xs=>match c.lG m true x,xM m cs xs with|some (d,b),some (ds,bs)=>some (d++ds,b++bs)|_,_=>none
 |_,_=>none
def uD.lG(m:List (Tr E2)):uD->V2->Option (List fS×List Bool)
 |.c x,.c y=>x.lG m false y|.agg l,.agg cs=>xM m l cs|.fk f,.fk f' []=>match Nat.beq f f' with|true=>some ([],[])|false=>none
 |_,_=>none
def xN(m:List (Tr E2)):List uD->List V2->Option (List fS×List Bool)
 |[],[]=>some ([],[])|p::ps,x::xs=>match p.lG m x,xN m ps xs with|some (d,b),some (ds,bs)=>some (d++ds,b++bs)|_,_=>none
 |_,_=>none
def zx(m:List (Tr E2)):V2->List (Nat×Nat×Nat)|.c (.fF lv sl _ _ _ _)=>cB lv sl::(match jO m lv sl with|some (.box _ cs)=>cs.flatMap sH|_=>[])|v=>Gx v
def gZ.flat:gZ->Bool|.int _|.bool|.str=>true|_=>false
def AH(res:List (Bool×List gZ)):Bool:=res.all λr=>r.2.all gZ.flat
def dR:List uD->List fS->Option (List V2×List fS)|[],r=>some ([],r)|p::ps,r=>match(match p with|.c x=>tZ.fill (.c x) r|.agg l=>tZ.fill (.agg l) r|.fk f=>some (.fk f [],r)|.box _=>none)with
 |some (x,r')=>match dR ps r' with|some (xs,r'')=>some (x::xs,r'')|none=>none
 |none=>none
def nN:List (Bool×List gZ)->List fS->Option (List (Bool×List Cell)×List fS)|[],r=>some ([],r)|(a,l)::ps,r=>match dx l r with
 |some (x,r')=>match nN ps r' with|some (xs,r'')=>some ((a,x)::xs,r'')|none=>none
 |none=>none
def qe:List (Bool×List Cell)->Option V2|[(a,cs)]=>BP a cs|vs=>some (.jF vs)
def kD:Nat->List V2->Tr V2->Tr V2|_,[],t=>t|i,x::r,t=>kD (i+1) r (t.set i (some x))
def uc:gZ->Cell->Option (List fS)
 |.int k,.int k' a=>match decEq k k' with|.isTrue _=>some [⟨.int k',a⟩]|.isFalse _=>none
 |.bool,.bool b=>some [⟨.bool,b⟩]|.str,.str s=>some [⟨.str,s⟩]|.sl t .d,.nil _=>some [⟨.sl t,[]⟩]|.sl _ .d,.sl t' l _=>some [⟨.sl t',l⟩]|_,_=>none
def gu:List gZ->List Cell->Option (List fS)
 |[],[]=>some []|c::cs,x::xs=>match uc c x,gu cs xs with|some d,some ds=>some (d++ds)|_,_=>none
 |_,_=>none
def XG(top:Nat):Cell->Bool|.ref lv _ _ _=>Nat.ble top lv|.j0 lv _ _ _ _ _=>Nat.ble top lv|_=>true
def hiR(top:Nat)(vs:List (Bool×List Cell)):Bool:=vs.all λv=>v.2.all (XG top)
def Lr(m:List (Tr E2))(rk k:Nat):Cell->Bool|.ref lv sl au t=>Nat.beq k rk&&(match rowOf m lv sl au with|some r=>Nat.beq r.t.size t.size|none=>false)|.nil true=>true|.j0 ..=>false|_=>!Nat.beq k rk
def XH(m:List (Tr E2))(rk:Nat):Nat->List Cell->Bool|_,[]=>true|k,c::r=>Lr m rk k c&&XH m rk (k+1) r
def EN(m:List (Tr E2))(rk:Nat):Nat->List (Bool×List Cell)->Bool|_,[]=>true|k,(_,cs)::r=>XH m rk k cs&&EN m rk (k+64) r
def abN(m:List (Tr E2))(rk:Nat)(vs:List (Bool×List Cell)):Bool:=match Nat.beq rk 0with|true=>true|false=>EN m rk 1 vs
def EO(rk lv sl au k:Nat)(c:Cell):Option (Cell×List SL):=match Nat.beq k rk with
 |true=>match c with|.sl t l _=>some (.ref lv sl au t,[⟨t,l⟩])|_=>none
 |false=>some (c,[])
def sI(rk lv sl au:Nat):Nat->List Cell->Option (List Cell×List SL)|_,[]=>some ([],[])|k,c::r=>match EO rk lv sl au k c,sI rk lv sl au (k+1) r with|some (x,u),some (xs,us)=>some (x::xs,u++us)|_,_=>none
def ER(rk lv sl au:Nat):Nat->List (Bool×List Cell)->Option (List (Bool×List Cell)×List SL)|_,[]=>some ([],[])|k,(a,cs)::r=>match sI rk lv sl au k cs,ER rk lv sl au (k+64) r with|some (xs,us),some (ys,vs)=>some ((a,xs)::ys,us++vs)|_,_=>none
section
variable{α:Type}
def abO(s:S2)(r:Am)(K:Bool->List Cell->Option α):Option α:=match r with
 |.t n=>match s.slots.get? n with|some (.c x)=>K false [x]|some (.agg cs)=>K true cs|_=>none
 |.cell n sz agg=>jm (s.slots.get? n) λp=>Ng s.mem sz p λcs=>match agg,cs with|true,cs=>K true cs|false,[x]=>K false [x]|_,_=>none
def ES(s:S2):List Am->(List (Bool×List Cell)->Option α)->Option α|[],K=>K []|r::rs,K=>abO s r λa cs=>ES s rs λl=>K ((a,cs)::l)
end
def lS(m:List (Tr E2)):List (Bool×List gZ)->List (Bool×List Cell)->Option (List fS)
 |[],[]=>some []|(a,l)::ps,(b,cs)::vs=>match a==b,mN m cs,lS m ps vs with|true,some (cs,_),some ds=>(gu l cs).map (·++ds)|_,_,_=>none
 |_,_=>none
def RN(m:List (Tr E2))(top:Nat):Cell->Option Cell
 |.int k a=>some (.int k a)|.bool b=>some (.bool b)|.str s=>some (.str s)|.raw v=>some (.raw v)|.nil _=>some (.nil false)|.sl _ _ .bC=>none|.sl t l _=>some (.sl t l .d)|.ref lv sl au t=>match Nat.ble top lv with|false=>some (.ref lv sl au t)|true=>match rowOf m lv sl au with|some r=>some (.sl r.t r.l .d)|none=>none
 |.j0 lv sl au t off len=>match Nat.ble top lv with|false=>some (.j0 lv sl au t off len)|true=>match rowOf m lv sl au with|some r=>some (.sl r.t ((r.l.drop off).take len) .d)|none=>none
 |.ptr lv sl au i off=>match Nat.ble top lv with|false=>some (.ptr lv sl au i off)|true=>none
 |_=>none
def BX(m:List (Tr E2))(top:Nat):List Cell->Option (List Cell)|[]=>some []|x::r=>match RN m top x,BX m top r with|some y,some ys=>some (y::ys)|_,_=>none
def zy(m:List (Tr E2))(top:Nat):List (Bool×List Cell)->Option (List (Bool×List Cell))|[]=>some []|(a,x)::r=>match BX m top x,zy m top r with|some y,some ys=>some ((a,y)::ys)|_,_=>none
def ZI(top:Nat):Cell->Bool|.ref lv _ _ _=>Nat.ble top lv|.j0 lv _ _ _ _ _=>Nat.ble top lv|_=>false
def abP(m:List (Tr E2))(top:Nat)(c:Cell):Option Cell:=match c with
 |.nil b=>match Nat.beq top 0with|true=>some (.nil false)|false=>some (.nil b)
 |.sl t l (.app v)=>match Nat.beq top 0with|true=>some (.sl t l .d)|false=>some (.sl t l (.app v))
 |.sl t l .full=>match Nat.beq top 0with|true=>some (.sl t l .d)|false=>some (.sl t l .full)
 |c=>RN m top c
def RO(m:List (Tr E2))(top rk lv sl au:Nat)(e:Option Ty)(k:Nat)(c:Cell):Option (Cell×List SL):=match Nat.beq k rk with
 |true=>match c with
  |.nil true=>e.map λt=>(.ref lv sl au t,[⟨t,[]⟩])|.ref cM cZ gF t=>match Nat.ble top cM,rowOf m cM cZ gF with
   |true,some r=>match Nat.beq r.t.size t.size with|true=>some (.ref lv sl au r.t,[⟨r.t,r.l⟩])|false=>none
   |_,_=>none
  |.j0 cM cZ gF t off len=>match Nat.ble top cM,rowOf m cM cZ gF with
   |true,some r=>match Nat.beq r.t.size t.size with|true=>some (.ref lv sl au r.t,[⟨r.t,(r.l.drop off).take len⟩])|false=>none
   |_,_=>none
  |_=>none
 |false=>match ZI top c with|true=>none|false=>(abP m top c).map λy=>(y,[])
def ET(m:List (Tr E2))(top rk lv sl au:Nat)(e:Option Ty):Nat->List Cell->Option (List Cell×List SL)|_,[]=>some ([],[])|k,x::r=>match RO m top rk lv sl au e k x,ET m top rk lv sl au e (k+1) r with|some (y,u),some (ys,us)=>some (y::ys,u++us)|_,_=>none
def BY(m:List (Tr E2))(top rk lv sl au:Nat)(e:Option Ty):Nat->List (Bool×List Cell)->Option (List (Bool×List Cell)×List SL)|_,[]=>some ([],[])|k,(a,x)::r=>match ET m top rk lv sl au e k x,BY m top rk lv sl au e (k+64) r with|some (y,u),some (ys,us)=>some ((a,y)::ys,u++us)|_,_=>none
section
variable{α:Type}
def XI:AX->AX->Bool|.normal,.normal=>true|.exit a,.exit b=>Nat.beq a b|.ret,.ret=>true|_,_=>false
def qf:(os:bn)->(oY os).den->(AX->S2->Option α)->Option α|[],_,_=>none|[x],y,K=>cu (x.2.st (unpack x.2.tys y)) λs=>K x.1 s|x::z::r,y,K=>match y with|.inl a=>cu (x.2.st (unpack x.2.tys a)) λs=>K x.1 s|.inr b=>qf (z::r) b K
def nO:(os:bn)->AX->S2->Option (oY os).den
 |[],_,_=>none|[x],ax,s=>match XI x.1 ax with|true=>cu (x.2.get s) λds=>pack x.2.tys ds|false=>none
 |x::z::r,ax,s=>match XI x.1 ax with|true=>cu ((x.2.get s).bind (pack x.2.tys)) λy=>some (.inl y)|false=>cu (nO (z::r) ax s) λy=>some (.inr y)
end
abbrev Wk:=∀(α:Type),Nat->Nat->AC->S2->(AX->S2->Option α)->Option α
def ZJ(ctx d:Nat):Nat:=(ctx+1)*1000000+d*1000
section
variable{α:Type}
def V2.ZK:V2->Bool|.jF _=>false|_=>true
def RP(E:ah)(s:S2)(row d nx f:Nat)(args:List V2)(K:gY->Option α):Option α:=cu (E.vE f) λc=>cu (EM s.mem c.args args) λ(ds,ks,bs)=>cu (pack c.ta ds) λx=>u6 bs<|Option.bind (c.F x) λy=>match nN c.res (unpack c.tr y)with
 |some (vs,[])=>match Nat.beq row 0with
  |true=>match Nat.beq c.rk 65535with|true=>none|false=>cu (qe vs) λv=>K (.ck {val:=v,di:=kT ks,cK:=[],rd:=args.flatMap Gx})
  |false=>match Nat.beq (row%65536) c.rk&&!Nat.beq c.rk 0&&!Nat.beq (row/65536) 0,ER c.rk (s.mem.length-1) d nx 1 vs with
   |true,some (vs,[])=>cu (qe vs) λv=>K (.ck {val:=v,di:=kT ks,cK:=[],rd:=args.flatMap Gx})|true,some (vs,[u])=>match Nat.beq (row/65536) u.t.size with|true=>cu (qe vs) λv=>K (.ck {val:=v,di:=kT ks++[(s.mem.length-1,d,some (.row nx u.t u.l))],cK:=[],rd:=args.flatMap Gx})|false=>none
   |_,_=>none
 |_=>none
def uD.af1(m:List (Tr E2)):uD->V2->Option (List fS×List (Nat×Nat)×List Bool)|.c x,.c y=>x.arg m true y|.agg l,.agg cs=>BW m l cs|_,_=>none
def EU(m:List (Tr E2)):List uD->List V2->Option (List fS×List (Nat×Nat)×List Bool)
 |[],[]=>some ([],[],[])|p::ps,x::xs=>match p.af1 m x,EU m ps xs with|some (d,k,b),some (ds,ks,bs)=>some (d++ds,k++ks,b++bs)|_,_=>none
 |_,_=>none
def ZL(E:ah)(s:S2)(f:Nat)(args:List V2)(K:gY->Option α):Option α:=cu (E.vE f) λc=>match !Nat.beq c.rk 65535with
 |true=>cu (EU s.mem c.args args) λ(ds,ks,bs)=>cu (pack c.ta ds) λx=>u6 bs<|Option.bind (c.F x) λy=>match nN c.res (unpack c.tr y)with|some (vs,[])=>cu (qe vs) λv=>K (.ck {val:=v,di:=kT ks,cK:=[],rd:=args.flatMap Gx})|_=>none
 |false=>none
def xO(m:List (Tr E2)):List gZ->List Cell->Option (List fS×List Bool)
 |[],[]=>some ([],[])|c::cs,x::xs=>match c.arg m false x,xO m cs xs with|some (d,[],b),some (ds,bs)=>some (d++ds,b++bs)|_,_=>none
 |_,_=>none
def uD.af2(m:List (Tr E2)):uD->V2->Option (List fS×List Bool)
 |.c x,.c y=>match x.arg m false y with|some (d,[],b)=>some (d,b)|_=>none
 |.agg l,.agg cs=>xO m l cs|_,_=>none
def EV(m:List (Tr E2)):List uD->List V2->Option (List fS×List Bool)
 |[],[]=>some ([],[])|p::ps,x::xs=>match p.af2 m x,EV m ps xs with|some (d,b),some (ds,bs)=>some (d++ds,b++bs)|_,_=>none
 |_,_=>none
def ZM(E:ah)(s:S2)(f:Nat)(args:List V2)(K:gY->Option α):Option α:=cu (E.vE f) λc=>match !Nat.beq c.rk 65535with
 |true=>cu (EV s.mem c.args args) λ(ds,bs)=>cu (pack c.ta ds) λx=>u6 bs<|Option.bind (c.F x) λy=>match nN c.res (unpack c.tr y)with|some (vs,[])=>cu (qe vs) λv=>K (.ck {val:=v,di:=[],cK:=[],rd:=args.flatMap Gx})|_=>none
 |false=>none
def IG(E:ah)(wk:Wk)(ctx:Nat)(s:S2)(row d nx f:Nat)(args:List V2)(K:gY->Option α):Option α:=match E.fns f with
 |some fn=>match fn.sh with|false=>RP E s row d nx f args K|true=>match Nat.beq args.length fn.np&&args.all V2.ZK with
  |false=>none|true=>let st:S2:={slots:=kD 0 args .lf,outer:=loose s.slots::s.outer,mem:=s.mem++[.lf],aK:=s.aK,nv:=nx};let back:S2->Option α:=λs'=>match s'.outer with
    |o::os=>ES s' fn.res λvs=>match Nat.beq row 0with|true=>cu (zy s'.mem s.mem.length vs) λvs=>cu (qe vs) λv=>K (.all v {slots:=merge s.slots o,outer:=os,mem:=s'.mem.take s.mem.length,aK:=s'.aK,nv:=s'.nv})|false=>match !Nat.beq (row%65536) 0&&!Nat.beq (row/65536) 0,BY s'.mem s.mem.length (row%65536) (s.mem.length-1) d s'.nv (E.Ni ctx d) 1 vs with
     |true,some (vs,[u])=>match Nat.beq (row/65536) u.t.size with|true=>cu (qe vs) λv=>K (.all v {slots:=merge s.slots o,outer:=os,mem:=gr (s'.mem.take s.mem.length) [(s.mem.length-1,d,some (.row s'.nv u.t u.l))],aK:=s'.aK,nv:=s'.nv+1})|false=>none
     |true,some (vs,[])=>cu (qe vs) λv=>K (.all v {slots:=merge s.slots o,outer:=os,mem:=s'.mem.take s.mem.length,aK:=s'.aK,nv:=s'.nv+1})|_,_=>none
    |[]=>none;match E.RM ctx d with
   |none=>wk α (ZJ ctx d) 0 fn.body st λax s'=>match ax with|.exit _=>none|_=>back s'
   |some os=>Option.bind (wk (oY os).den (ZJ ctx d) 0 fn.body st λax s'=>match ax with|.exit _=>none|_=>nO os .ret s') λy=>qf os y λ_ s'=>back s'
 |none=>RP E s row d nx f args K
def RQ(E:ah)(s:S2)(f:Nat)(args:List V2)(K:gY->Option α):Option α:=cu (E.vE f) λc=>match AH c.res&&!Nat.beq c.rk 65535with
 |true=>cu (xN s.mem c.args args) λ(ds,bs)=>cu (pack c.ta ds) λx=>u6 bs<|Option.bind (c.F x) λy=>match nN c.res (unpack c.tr y)with|some (vs,[])=>cu (qe vs) λv=>K (.ck {val:=v,di:=[],cK:=[],rd:=args.flatMap (zx s.mem)})|_=>none
 |false=>none
def cY(E:ah)(wk:Wk)(ctx:Nat)(s:S2)(row dst aT:Nat)(op:ct)(K:gY->Option α):Option α:=match op with
 |.HS x=>cu (jG s x) λv=>match Nat.beq (row%65536) 6&&v.nL with
  |true=>match v with|.c (.ref lv sl au t)=>cu (rowOf s.mem lv sl au) λr=>cu (jS r.t t r.l) λl=>K (.ck {val:=.c (.ref (s.mem.length-1) dst aT t),di:=[(lv,sl,none),(s.mem.length-1,dst,some (.row aT t l))],cK:=[],rd:=[cB lv sl]})|_=>none
  |false=>match Q5 row with|false=>K (kS v)|true=>match v with
   |.c (.nil true)=>cu (E.Ni ctx dst) λt=>match Nat.beq t.size (row/65536)with|true=>K (.ck {val:=.c (.ref (s.mem.length-1) dst aT t),di:=[(s.mem.length-1,dst,some (.row aT t []))],cK:=[],rd:=[]})|false=>none
   |.c (.nil _)=>none|.c (.sl ..)=>none|v=>K (kS v)
 |.pick c a b=>wD (jG s c) λt=>match jG s a,jG s b with|some (.c (.bool x)),some (.c (.bool y))=>K (ef (.bool (cond t x y)))|some x,some y=>cond t (K (kS x)) (K (kS y))|some x,none=>aF t (K (kS x))|none,some y=>aF (!t) (K (kS y))|none,none=>none
 |.alloc z=>cu (BN z) λcs=>K (.ck {val:=.c (.ptr (s.mem.length-1) dst aT 0 0),di:=[(s.mem.length-1,dst,some (.box aT cs))],cK:=[],rd:=[]})|.box x=>cu ((jG s x).bind V2.cells?) λcs=>match Nat.beq row 14with|true=>K (.ck {val:=.c (.ptr (s.mem.length-2) (1048576+dst) aT 0 0),di:=[(s.mem.length-2,1048576+dst,some (.box aT cs))],cK:=[],rd:=[]})|false=>K (.ck {val:=.c (.ptr (s.mem.length-1) dst aT 0 0),di:=[(s.mem.length-1,dst,some (.box aT cs))],cK:=[],rd:=[]})
 |.build z ps=>cu ((BN z).bind λcs=>EL s cs ps) λcs=>K (kS (.agg cs))|.buildSlice sz n z ps=>match Nat.beq row 2with
  |true=>match Nat.beq n 0with|true=>none|false=>cu ((sG z).bind λzc=>EL s (List.replicate n zc).flatten (ps.map λp=>(p.1*sz,sz,p.2))) λcs=>K (.ck {val:=.c (.fF (s.mem.length-1) dst aT 0 n sz),di:=[(s.mem.length-1,dst,some (.box aT cs))],cK:=[],rd:=[]})
  |false=>cu (E.Ni ctx dst) λt=>cu (sG z) λzc=>cu (BR s sz (List.replicate n zc) ps) λ(els,ks)=>match Nat.beq t.size sz,BS t els with
  |true,some l=>match Nat.beq row 0with|true=>K (.ck {val:=.c (.sl t l .full),di:=kT ks,cK:=[],rd:=jg ks})|false=>match BU ks (s.mem.length-1) dst with|true=>none|false=>K (.ck {val:=.c (.ref (s.mem.length-1) dst aT t),di:=kT ks++[(s.mem.length-1,dst,some (.row aT t l))],cK:=[],rd:=jg ks})
  |_,_=>none
 |.load sz agg x=>jm (jG s x) λp=>Ng s.mem sz p λcs=>cu (BP agg cs) λv=>K (.ck {val:=v,di:=[],cK:=[],rd:=sH p})|.store sz x v=>jm (jG s x) λp=>cu ((jG s v).bind V2.cells?) λnew=>Lo s.mem sz p new K|.nilCheck x=>cu (jG s x) λv=>match v with|.c (.ptr lv sl au i off)=>K (ef (.ptr lv sl au i off))|.c (.fW t e off)=>K (ef (.fW t e off))|.fk f cs=>K (kS (.fk f cs))|_=>none
 |.bin op x y=>jm (jG s x) λa=>jm (jG s y) λb=>abK op a b λc=>K (ef c)|.W6 neg x y=>wD (jG s x) λa=>wD (jG s y) λb=>K (ef (.bool (match neg with|true=>!(a==b)|false=>a==b)))|.yR neg x=>match jG s x with
  |some (.c (.er b))=>match neg with|true=>K (ef (.bool b))|false=>K (ef (.bool (!b)))
  |_=>none
 |.r9 lo n sz x=>match jG s x with
  |some (.c (.ptr lv sl au i off))=>match Nat.beq i 0&&Nat.blt lo n with|true=>K (ef (.fF lv sl au (off+lo*sz) (n-lo) sz))|false=>none
  |_=>none
 |.W7 neg sz cells x y=>match jG s x,jG s y with
  |some (.agg xs),some (.agg ys)=>match Nat.beq xs.length sz&&Nat.beq ys.length sz,GB xs ys cells with|true,some b=>K (ef (.bool (match neg with|true=>!b|false=>b)))|_,_=>none
  |_,_=>none
 |.un op x=>jm (jG s x) λa=>unK op a λc=>K (ef c)|.conv k x=>OV (jG s x) λn=>K (ef (.int k (k.wrap n)))|.field off sz agg x=>match jG s x with
  |some (.agg cs)=>match Nat.ble (off+sz) cs.length,BP agg ((cs.drop off).take sz)with|true,some v=>K (kS v)|_,_=>none
  |_=>none
 |.fieldAddr off x=>match jG s x with|some (.c (.ptr lv sl au i o))=>K (ef (.ptr lv sl au i (o+off)))|some (.c (.fW t e o))=>K (ef (.fW t e (o+off)))|_=>none
 |.indexAddr sz x i=>OV (jG s i) λn=>match jG s x with
  |some (.c (.sl t l _))=>match Nat.beq t.size sz with|true=>Option.bind (idx l n) λe=>K (ef (.fW t e 0))|false=>none
  |some (.c (.ref lv sl au t))=>match Nat.beq t.size sz with|true=>cu (rowOf s.mem lv sl au) λr=>aF (ga n r.l.length) (K (ef (.ptr lv sl au n.toNat 0)))|false=>none
  |some (.c (.j0 lv sl au t off len))=>match Nat.beq t.size sz with|true=>aF (ga n len) (K (ef (.ptr lv sl au (off+n.toNat) 0)))|false=>none
  |_=>none
 |.kJ n sz x i=>GA (jG s i) λk=>match jG s x with|some (.c (.ptr lv sl au j o))=>OU n k λk=>K (ef (.ptr lv sl au j (o+k*sz)))|some (.c (.fW t e o))=>OU n k λk=>K (ef (.fW t e (o+k*sz)))|_=>none
 |.qE n sz agg x i=>GA (jG s i) λk=>match jG s x with
  |some (.agg cs)=>OU n k λk=>match Nat.ble (k*sz+sz) cs.length,BP agg ((cs.drop (k*sz)).take sz)with|true,some v=>K (kS v)|_,_=>none
  |_=>none
 |.qF x i=>OV (jG s i) λn=>match jG s x with|some (.c (.str b))=>Option.bind (idx b n) λc=>K (ef (.int .u8 c.toNat))|_=>none
 |.slice sz x lo hi mx=>jm (jG s x) λc=>u5 lo s λl=>u5 hi s λh=>u5 mx s λk=>match Nat.beq row 3&&(mx.isNone&&c.nL)with|true=>abL s.mem sz aT c l h K|false=>Lp s.mem sz c l h k λv=>K (ef v)
 |.qG x lo hi=>match jG s x with|some (.c (.str b))=>u5 lo s λlo=>u5 hi s λhi=>aF (nI b.length lo hi) (K (ef (.str (oX b lo hi))))|_=>none
 |.extract x i=>match jG s x with
  |some (.jF vs)=>match vs[i]?with|some (a,cs)=>cu (BP a cs) λv=>K (kS v)|none=>none
  |_=>none
 |.len x=>jm (jG s x) λc=>match c with|.sl _ l _=>K (ef (.int .i64 l.length))|.nil _=>K (ef (.int .i64 0))|.ref lv sl au _=>cu (rowOf s.mem lv sl au) λr=>K (ef (.int .i64 r.l.length))|.j0 _ _ _ _ _ len=>K (ef (.int .i64 len))|_=>none
 |.HT x=>jm (jG s x) λc=>match c with|.nil true=>K (ef (.int .i64 0))|.sl _ l .full=>K (ef (.int .i64 l.length))|_=>none
 |.FO x=>match jG s x with|some (.c (.str b))=>K (ef (.int .i64 b.length))|_=>none
 |.DN n=>K (ef (.int .i64 n))|.Zs x=>match jG s x with|some (.c (.str b))=>K (ef (.sl (.int .u8) (bK b) .d))|_=>none
 |.Zr x=>jm (jG s x) λc=>match c with|.str _=>none|c=>oW s.mem c (some (.int .u8)) λn=>cu (jS n.t (.int .u8) n.l) λl=>K (.ck {val:=.c (.str (l.map λn=>UInt8.ofNat n.toNat)),di:=[],cK:=[],rd:=sH c})
 |.mkSet=>K (.ck {val:=.c (.mp (s.mem.length-1) dst aT),di:=[(s.mem.length-1,dst,some (.set aT []))],cK:=[],rd:=[]})|.HU m k=>match jG s m,jG s k with|some (.c (.mp lv sl au)),some (.c (.str b))=>cu (Nf s.mem lv sl au) λl=>K (.ck {val:=.c (.bool (hasB l b)),di:=[],cK:=[],rd:=[cB lv sl]})|_,_=>none
 |.HV m k=>match jG s m,jG s k with|some (.c (.mp lv sl au)),some (.c (.str b))=>cu (Nf s.mem lv sl au) λl=>K (.ck {val:=.jF [],di:=[(lv,sl,some (.set au (sj l b)))],cK:=[],rd:=[cB lv sl]})|_,_=>none
 |.FP x y=>match jG s x,jG s y with
  |some (.c (.int k a)),some (.c (.int k' b))=>match decEq k k' with|.isTrue _=>K (ef (.int k (min a b)))|.isFalse _=>none
  |_,_=>none
 |.FQ x y=>match jG s x,jG s y with
  |some (.c (.int k a)),some (.c (.int k' b))=>match decEq k k' with|.isTrue _=>K (ef (.int k (max a b)))|.isFalse _=>none
  |_,_=>none
 |.append sz bytes x y=>jm (jG s x) λa=>jm (jG s y) λb=>OW s (!Nat.beq row 0) (uL row (s.mem.length-1) dst).1 (uL row (s.mem.length-1) dst).2 aT sz bytes a b (E.Ni ctx dst) K|.clone sz bytes x=>jm (jG s x) λb=>match b with|.str _=>none|b=>OW s (!Nat.beq row 0) (s.mem.length-1) dst aT sz bytes (.nil true) b (E.Ni ctx dst) K
 |.copy sz x y=>jm (jG s x) λa=>jm (jG s y) λb=>match a with
  |.ref lv sl au t=>cu (rowOf s.mem lv sl au) λr=>oW s.mem b (some t) λn=>match Nat.beq t.size sz,jS r.t t r.l,jS n.t t n.l with|true,some l,some news=>K (.ck {val:=.c (.int .i64 ((min news.length l.length:Nat):Int)),di:=[(lv,sl,some (.row au t (BQ news l)))],cK:=[],rd:=cB lv sl::sH b})|_,_,_=>none
  |.j0 lv sl au t off len=>cu (rowOf s.mem lv sl au) λr=>oW s.mem b (some t) λn=>match Nat.beq t.size sz,jS r.t t r.l,jS n.t t n.l with|true,some l,some news=>aF (decide (off+len<=l.length)) (K (.ck {val:=.c (.int .i64 ((min news.length len:Nat):Int)),di:=[(lv,sl,some (.row au t (l.take off++(news.take (min news.length len)++l.drop (off+(news.take (min news.length len)).length)))))],cK:=[],rd:=cB lv sl::sH b}))|_,_,_=>none
  |.fF lv sl au off n sz'=>match jO s.mem lv sl with
   |some (.box v cs)=>oW s.mem b none λnw=>match Nat.beq v au&&Nat.beq sz' sz&&Nat.ble (off+n*sz) cs.length&&Nat.beq nw.t.size sz with|true=>K (.ck {val:=.c (.int .i64 ((min nw.l.length n:Nat):Int)),di:=[(lv,sl,some (.box au (bM.splice cs off ((nw.l.take (min nw.l.length n)).flatMap (jl nw.t)))))],cK:=[],rd:=cB lv sl::sH b})|false=>none
   |_=>none
  |_=>none
 |.oP sz bytes z x n=>jm (jG s x) λa=>GA (jG s n) λk=>cu (E.Ni ctx dst) λt=>cu ((sG z).bind (zu t)) λz'=>match Nat.beq t.size sz&&Nat.beq z.length sz with|true=>aF (room k bytes) (OW s (!Nat.beq row 0) (s.mem.length-1) dst aT sz bytes a (.sl t (List.replicate k z') .d) (some t) K)|false=>none
 |.makeSlice sz bytes z l c=>GA (jG s l) λl=>GA (jG s c) λc=>cu (E.Ni ctx dst) λt=>cu ((sG z).bind (zu t)) λz'=>match Nat.beq t.size sz&&Nat.beq z.length sz with|true=>aF (decide (l<=c)&&room c bytes) (K (.ck {val:=.c (.ref (s.mem.length-1) dst aT t),di:=[(s.mem.length-1,dst,some (.row aT t (List.replicate l z')))],cK:=[],rd:=[]}))|false=>none
 |.sliceB n sz x=>jm (jG s x) λc=>match c with
  |.ptr lv sl au i off=>match Nat.beq i 0with|true=>K (ef (.fF lv sl au off n sz))|false=>none
  |_=>none
 |.makeFunc f cap=>cu ((Gy s cap).bind BT) λcs=>K (kS (.fk f cs))|.clear sz z x=>jm (jG s x) λa=>match a with
  |.ref lv sl au t=>cu (rowOf s.mem lv sl au) λr=>cu ((sG z).bind (zu t)) λz'=>match Nat.beq t.size sz&&Nat.beq z.length sz,jS r.t t r.l with|true,some l=>K (.ck {val:=.jF [],di:=[(lv,sl,some (.row au t (List.replicate l.length z')))],cK:=[],rd:=[cB lv sl]})|_,_=>none
  |.j0 lv sl au t off len=>cu (rowOf s.mem lv sl au) λr=>cu ((sG z).bind (zu t)) λz'=>match Nat.beq t.size sz&&Nat.beq z.length sz,jS r.t t r.l with|true,some l=>aF (decide (off+len<=l.length)) (K (.ck {val:=.jF [],di:=[(lv,sl,some (.row au t (l.take off++List.replicate len z'++l.drop (off+len))))],cK:=[],rd:=[cB lv sl]}))|_,_=>none
  |_=>none
 |.compact x=>jm (jG s x) λa=>match a with
  |.nil true=>K (ef (.nil true))|.ref lv sl au t=>cu (rowOf s.mem lv sl au) λr=>match Nat.beq t.size 1,jS r.t (.int .i64) r.l with|true,some l=>aF (decide (l.length<4611686018427387904)) (K (.ck {val:=.c (.ref lv sl aT (.int .i64)),di:=[(lv,sl,some (.row aT (.int .i64) (jR l)))],cK:=[],rd:=[cB lv sl]}))|_,_=>none
  |_=>none
 |.sort x=>jm (jG s x) λa=>match a with
  |.nil true=>K (.ck {val:=.jF [],di:=[],cK:=[],rd:=[]})|.ref lv sl au t=>cu (rowOf s.mem lv sl au) λr=>match Nat.beq t.size 1,jS r.t (.int .i64) r.l with|true,some l=>aF (decide (l.length<4611686018427387904)) (K (.ck {val:=.jF [],di:=[(lv,sl,some (.row au (.int .i64) (jQ l)))],cK:=[],rd:=[cB lv sl]}))|_,_=>none
  |_=>none
 |.grow sz x n=>jm (jG s x) λa=>GA (jG s n) λ_=>match a,E.Ni ctx dst with
  |.nil true,some t=>match Nat.beq t.size sz with|true=>K (.ck {val:=.c (.sl t [] (.app aT)),di:=[],cK:=[(aT,true)],rd:=[]})|false=>none
  |_,_=>none
 |.call f args=>match Nat.beq row 7,Nat.beq row 8,Nat.beq row 9,Nat.beq row 10with|false,false,false,false=>cu (Gy s args) λaO=>IG E wk ctx s row dst aT f aO K|false,false,true,_=>cu (Gy s args) λaO=>ZL E s f aO K|false,false,false,true=>cu (Gy s args) λaO=>ZM E s f aO K|_,_,_,_=>none
 |.vF f args=>cu (Gy s args) λaO=>match E.sh f with|true=>IG E wk ctx s row dst aT f aO K|false=>RQ E s f aO K
 |.yS x args=>match jG s x with|some (.fk f cap)=>cu (Gy s args) λaO=>IG E wk ctx s row dst aT f (aO++cap.map .c) K|_=>none
 |_=>none
def Nj(E:ah)(wk:Wk)(ctx:Nat)(s:S2)(aT:Nat)(o:bE)(K:S2->gY->Option α):Option α:=match o.gd with|none=>cY E wk ctx s o.row (o.dst.getD 0) aT o.op (K s)|some (g,b)=>match s.slots.get? g with|some (.c (.bool t))=>cond t (let s':={s with slots:=s.slots.set g (some (.c (.bool true)))};match b with|true=>cY E wk ctx s' o.row (o.dst.getD 0) aT o.op (K s')|false=>K s' (kS (.jF []))) (let s':={s with slots:=s.slots.set g (some (.c (.bool false)))};match b with|true=>K s' (kS (.jF []))|false=>cY E wk ctx s' o.row (o.dst.getD 0) aT o.op (K s'))|some (.jF _)=>K s (kS (.jF []))|_=>none
def AI(E:ah)(wk:Wk)(ctx:Nat):Nat->List bE->S2->(S2->Option α)->Option α|_,[],s,K=>K s|nx,o::r,s,K=>Nj E wk ctx s nx o λs e=>match e with|.ck e=>AI E wk ctx (nx+1) r (s.app o.dst (.ck e)) K|.all v s'=>AI E wk ctx s'.nv r {s'.app o.dst (.all v s')with nv:=s'.nv+r.length} K
def keq(a b:Nat×Nat×Nat):Bool:=Nat.beq a.1 b.1&&Nat.beq a.2.1 b.2.1&&Nat.beq a.2.2 b.2.2
def xP(a b:List (Nat×Nat×Nat)):Bool:=a.any λk=>b.any (keq k)
def qg:gY->Bool|.ck e=>!(e.rd.isEmpty&&e.di.isEmpty&&e.cK.isEmpty)|.all ..=>true
def xQ:gY->gY->Bool|.ck a,.ck b=>xP a.rd b.wr||xP a.wr b.rd||xP a.wr b.wr|a,b=>qg a&&qg b
def GF(n9:Nat)(e:gY):List (Nat×gY)->Bool|[]=>true|(i,x)::r=>(n9.testBit i||!xQ x e)&&GF n9 e r
def zz(l:List (Nat×gY)):List (Nat×gY):=l.map λx=>(x.1,match qg x.2with|true=>.all (.jF []) default|false=>x.2)
def AJ(E:ah)(wk:Wk)(ctx:Nat):Nat->Nat->List bE->List (Nat×gY)->S2->(S2->Option α)->Option α|_,_,[],_,s,K=>K s|i,nx,o::r,eg,s,K=>Nj E wk ctx s nx o λs e=>match GF o.n9 e eg with
 |true=>match e with|.ck e=>AJ E wk ctx (i+1) (nx+1) r ((i,.ck e)::eg) (s.app o.dst (.ck e)) K|.all v s'=>AJ E wk ctx (i+1) s'.nv r ((i,.all (.jF []) default)::zz eg) {s'.app o.dst (.all v s')with nv:=s'.nv+r.length} K
 |false=>none
def u7:AC->Nat|.seq a b=>u7 a+u7 b|.cond _ a b=>u7 a+u7 b+1|.block _ c=>u7 c+1|.loop c=>u7 c+1|.region ..=>1|_=>0
end
def XJ{α:Type}(E:ah)(wk:Wk)(ctx:Nat)(ops:List bE)(draw:Bool)(s:S2)(K:S2->Option α):Option α:=match draw with|false=>AI E wk ctx s.nv ops {s with nv:=s.nv+ops.length} K|true=>AJ E wk ctx 0 s.nv ops [] {s with nv:=s.nv+ops.length} K
def RR(sh:Nat->Bool):ct->Bool|.HS _|.pick ..|.nilCheck _|.bin ..|.W6 ..|.W7 ..|.un ..|.conv ..|.field ..|.fieldAddr ..|.indexAddr ..|.kJ ..|.qE ..|.qF ..|.load ..|.slice ..|.qG ..|.extract ..|.len _|.FO _|.DN _|.FP ..|.FQ ..=>true|.vF f _=>!sh f|_=>false
def EW(sh:Nat->Bool)(o:bE):Bool:=Nat.beq o.row 0&&RR sh o.op
def sJ(sh:Nat->Bool):AC->Bool|.skip=>true|.region ops _=>ops.all (EW sh)|.seq a b=>sJ sh a&&sJ sh b|.cond _ a b=>sJ sh a&&sJ sh b|_=>false
def qh:AC->List Nat|.region ops _=>ops.flatMap λo=>o.dst.toList|.seq a b=>qh a++qh b|.cond _ a b=>qh a++qh b|_=>[]
def II:List Nat->Tr V2->Tr V2|[],t=>t|n::r,t=>II r (t.set n none)
def GG(t:Ty)(c:Cell):Option t.den:=match t,c with
 |.int k,.int k' a=>match decEq k k' with|.isTrue _=>some a|.isFalse _=>none
 |.bool,.bool b=>some b|.str,.str s=>some s|_,_=>none
def Ls:(t:Ty)->t.den->Option Cell|.int k,a=>some (.int k a)|.bool,b=>some (.bool b)|.str,s=>some (.str s)|_,_=>none
def IJ(t:Ty)(n:Nat)(ax:AX)(s:S2):Option t.den:=match ax with
 |.normal=>match s.slots.get? n with|some (.c c)=>GG t c|_=>none
 |_=>none
def u9(s:S2)(c:cc)(b:Bool):S2:=match c with|.t n=>{s with slots:=s.slots.set n (some (.c (.bool b)))}|.c _=>s
def af3(i:Nat):Nat:=match Nat.blt i 100000with|true=>i+100000|false=>i
def af4(o:Option (List fS))(i:Nat):Nat:=match o with|some _=>i|none=>i+200000
def walk(E:ah):Nat->Wk|0=>λ_ _ _ _ _ _=>none|n+1=>λα ctx i c s K=>match c with
 |.skip=>K .normal s|.region ops draw=>match E.Lq ctx i with
  |some m=>match ops.all (EW E.sh)with|true=>Option.bind (XJ E (walk E n) ctx ops draw s (IJ m.2 m.1 .normal)) λy=>cu (Ls m.2 y) λy=>K .normal {s with slots:=(II (qh (.region ops draw)) s.slots).set m.1 (some (.c y))}|false=>none
  |none=>match E.IF ctx i with|none=>XJ E (walk E n) ctx ops draw s λs'=>K .normal s'|some os=>Option.bind (XJ E (walk E n) ctx ops draw s (nO os .normal)) λy=>qf os y K
 |.seq a b=>walk E n α ctx i a s λax s'=>match ax with|.normal=>walk E n α ctx (i+u7 a) b s' K|ax=>K ax s'
 |.cond c a b=>match E.Lq ctx i with
  |some m=>match sJ E.sh a&&sJ E.sh b with|true=>Option.bind (wD (jG s c) λt=>cond t (walk E n m.2.den ctx (i+1) a (u9 s c true) (IJ m.2 m.1)) (walk E n m.2.den ctx (i+1+u7 a) b (u9 s c false) (IJ m.2 m.1))) λy=>cu (Ls m.2 y) λy=>K .normal {s with slots:=(II (qh a++qh b) s.slots).set m.1 (some (.c y))}|false=>none
  |none=>match E.IF ctx i with|none=>wD (jG s c) λt=>cond t (walk E n α ctx (i+1) a (u9 s c true) K) (walk E n α ctx (i+1+u7 a) b (u9 s c false) K)|some os=>Option.bind (wD (jG s c) λt=>cond t (walk E n (oY os).den ctx (i+1) a (u9 s c true) (nO os)) (walk E n (oY os).den ctx (i+1+u7 a) b (u9 s c false) (nO os))) λy=>qf os y K
 |.block id c=>match E.IF ctx i with
  |none=>walk E n α ctx (i+1) c s λax s'=>match ax with
   |.exit id'=>match Nat.beq id' id with|true=>K .normal s'|false=>K (.exit id') s'
   |ax=>K ax s'
  |some os=>Option.bind (walk E n (oY os).den ctx (i+1) c s λax s'=>match ax with
   |.exit id'=>match Nat.beq id' id with|true=>nO os .normal s'|false=>nO os (.exit id') s'
   |ax=>nO os ax s') λy=>qf os y K
 |.loop c=>match E.unr ctx i with
  |true=>walk E n α ctx (i+1) c s λax s'=>match ax with|.normal=>walk E n α ctx (af3 i) (.loop c) s' K|ax=>K ax s'
  |false=>cu (E.loops ctx (af4 ((E.loops ctx i c).bind λL=>L.T.get s) i) c) λL=>cu (L.T.get s) λds=>cu (pack L.T.tys ds) λx=>Option.bind (L.F x) λy=>qf L.outs y K
 |.exit id=>K (.exit id) s|.ret=>K .ret s
def BZ(E:ah)(N ctx i:Nat)(body:AC)(T:bq)(outs:bn)(rec:(rS T.tys).den->Option (oY outs).den)(x:(rS T.tys).den):Option (oY outs).den:=cu (T.st (unpack T.tys x)) λs=>walk E N (oY outs).den ctx (i+1) body s λax s'=>match ax with|.normal=>cu (T.get s') λds=>cu (pack T.tys ds) λy=>rec y|ax=>nO outs ax s'
def Nk{α β:Type}(step:(α->Option β)->α->Option β):Nat->α->Option β|0,_=>none|n+1,x=>step (Nk step n) x
def ZN(E:ah)(N:Nat)(f:Nat)(args:List uD)(ta:List Ty)(res:List (Bool×List gZ))(tr:List Ty)(rk:Nat)(x:(rS ta).den):Option (rS tr).den:=cu (E.fns f) λfn=>match dR args (unpack ta x)with
 |some (vs,[])=>match Nat.beq vs.length fn.np with
  |true=>walk E N _ 0 0 fn.body {slots:=kD 0 vs .lf,outer:=[],mem:=[.lf],aK:=.lf,nv:=0} λax s=>match ax with|.exit _=>none|_=>ES s fn.res λvs=>match abN s.mem rk vs&&!Nat.beq rk 65535with|true=>cu (lS s.mem res vs) λds=>pack tr ds|false=>none
  |false=>none
 |_=>none
end Go.Sym
