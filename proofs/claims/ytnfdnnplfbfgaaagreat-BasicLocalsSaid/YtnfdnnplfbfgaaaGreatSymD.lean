/- Parts of the proof. -/
import Derived.Test.YtnfdnnplfbfgaaaGreatEngG
import Derived.Test.YtnfdnnplfbfgaaaGreatEngZ
import Derived.Defers
import Derived.Laws.Strings
set_option linter.unusedVariables false
set_option linter.unusedSimpArgs false
set_option linter.defProp false
namespace Go.Sym
open Go Go.bS
inductive jC where|mk(kind:Int)(int:Int)(text:List UInt8)(list:List jC)(cut:Bool)deriving Inhabited
def jC.kind:jC->Int|.mk k _ _ _ _=>k
def jC.int:jC->Int|.mk _ i _ _ _=>i
def jC.text:jC->List UInt8|.mk _ _ s _ _=>s
def jC.list:jC->List jC|.mk _ _ _ l _=>l
def jC.cut:jC->Bool|.mk _ _ _ _ c=>c
inductive Ty where|val|int(k:IntKind)|bool|str|sl(t:Ty)|unit|prod(a b:Ty)|sum(a b:Ty)deriving DecidableEq,Inhabited
@[reducible]def Ty.den:Ty->Type|.val=>jC|.int _=>Int|.bool=>Bool|.str=>List UInt8|.sl t=>List t.den|.unit=>Unit|.prod a b=>a.den×b.den|.sum a b=>a.den⊕b.den
structure gr where
 t:Ty
 v:t.den
def vN(a b:Ty)(x:a.den):Option b.den:=match decEq a b with|.isTrue h=>some (h▸x)|.isFalse _=>none
def j9(a b:Ty)(x:List a.den):Option (List b.den):=match decEq a b with|.isTrue h=>some (h▸x)|.isFalse _=>none
def Ty.size:Ty->Nat|.val=>5|.int _|.bool|.str|.sl _=>1|.unit=>0|.prod a b=>a.size+b.size|.sum _ _=>0
inductive Ow where|d|full|app(v:Nat)|aY deriving Inhabited
inductive Cell where|int(k:IntKind)(a:Int)|bool(b:Bool)|er(b:Bool)|str(s:List UInt8)|raw(v:Value)|nil(full:Bool)|sl(t:Ty)(l:List t.den)(o:Ow)|ref(lv sl av:Nat)(t:Ty)|ku(lv sl av:Nat)(t:Ty)(off len:Nat)|ptr(lv sl av i off:Nat)|gw(t:Ty)(x:t.den)(off:Nat)|fX(lv sl av off n sz:Nat)|mp(lv sl av:Nat)deriving Inhabited
inductive V2 where|c(x:Cell)|agg(cs:List Cell)|fL(f:Nat)(cap:List Cell)|jU(vs:List (Bool×List Cell))deriving Inhabited
inductive E2 where|row(av:Nat)(t:Ty)(l:List t.den)|box(av:Nat)(cs:List Cell)|set(av:Nat)(l:List (List UInt8))deriving Inhabited
structure S2 where
 slots:Tr V2
 outer:List (Tr V2)mem:List (Tr E2)aO:Tr Unit
 nv:Nat deriving Inhabited
mutual def Mv:jC->List D|.mk k i s l c=>[.sc (.int .u8 k),.sc (.int .i64 i),.sc (.string ⟨s.toArray⟩),.sl (FH l),.sc (.bool c)]def FH:List jC->List (List D)|[]=>[]|v::r=>Mv v::FH r end
def fR:(t:Ty)->t.den->List D|.val,v=>Mv v|.int k,a=>[.sc (.int k a)]|.bool,b=>[.sc (.bool b)]|.str,s=>[.sc (.string ⟨s.toArray⟩)]|.sl t,l=>[.sl (List.map (fR t) l)]|.unit,_=>[]|.prod a b,x=>fR a x.1++fR b x.2|.sum _ _,_=>[]
def jD:(t:Ty)->t.den->List Cell|.val,v=>[.int .u8 v.kind,.int .i64 v.int,.str v.text,.sl .val v.list .d,.bool v.cut]|.int k,a=>[.int k a]|.bool,b=>[.bool b]|.str,s=>[.str s]|.sl t,l=>[.sl t l .d]|.unit,_=>[]|.prod a b,x=>jD a x.1++jD b x.2|.sum _ _,_=>[]
def Jw(k:IntKind):List Cell->Option (Int×List Cell)
 |.int k' a::r=>match decEq k k' with|.isTrue _=>some (a,r)|.isFalse _=>none
 |_=>none
def HB:List Cell->Option (Bool×List Cell)|.bool b::r=>some (b,r)|_=>none
def Ol:List Cell->Option (List UInt8×List Cell)|.str s::r=>some (s,r)|_=>none
def ZB(t:Ty):List Cell->Option (List t.den×List Cell)
 |.nil _::r=>some ([],r)|.sl t' l _::r=>match j9 t' t l with|some l=>some (l,r)|none=>none
 |_=>none
def abI(cs:List Cell):Option (jC×List Cell):=match Jw .u8 cs with
 |some (k,r)=>match Jw .i64 r with
  |some (i,r)=>match Ol r with
   |some (s,r)=>match ZB .val r with
    |some (l,r)=>match HB r with|some (c,r)=>some (.mk k i s l c,r)|none=>none
    |none=>none
   |none=>none
  |none=>none
 |none=>none
def Aj:(t:Ty)->List Cell->Option (t.den×List Cell)
 |.val,cs=>abI cs|.int k,cs=>Jw k cs|.bool,cs=>HB cs|.str,cs=>Ol cs|.sl t,cs=>ZB t cs|.unit,r=>some ((),r)|.prod a b,r=>match Aj a r with
  |some (x,r')=>match Aj b r' with|some (y,r'')=>some ((x,y),r'')|none=>none
  |none=>none
 |.sum _ _,_=>none
def Ak(t:Ty)(cs:List Cell):Option t.den:=match Aj t cs with|some (x,[])=>some x|_=>none
def adT:Value->Cell|.int k a=>.int k a|.bool b=>.bool b|.string b=>.str b.data.toList|v=>.raw v
def ZC:AV->Option Cell|.d (.sc v)=>some (adT v)|.own [] .full=>some (.nil true)|_=>none
def Cy:List AV->Option (List Cell)|[]=>some []|x::r=>match ZC x,Cy r with|some y,some ys=>some (y::ys)|_,_=>none
def adU:AV->Option V2|.agg cs=>(Cy cs).map .agg|.jU []=>some (.jU [])|.fL f []=>some (.fL f [])|x=>(ZC x).map .c
def ZD:D->Option Cell|.sc v=>some (adT v)|.sl []=>some (.nil false)|_=>none
def tG:List D->Option (List Cell)|[]=>some []|x::r=>match ZD x,tG r with|some y,some ys=>some (y::ys)|_,_=>none
def j5(m:List (Tr E2))(lv sl:Nat):Option E2:=(m[lv]?).bind λt=>t.get? sl
def Cz(m:List (Tr E2))(lv sl:Nat)(e:Option E2):List (Tr E2):=m.modify lv λt=>t.set sl e
def gG(m:List (Tr E2)):List (Nat×Nat×Option E2)->List (Tr E2)|[]=>m|(lv,sl,e)::r=>gG (Cz m lv sl e) r
structure SL where
 t:Ty
 l:List t.den
def rowOf(m:List (Tr E2))(lv sl av:Nat):Option SL:=match j5 m lv sl with
 |some (.row v t l)=>match Nat.beq v av with|true=>some ⟨t,l⟩|false=>none
 |_=>none
def Om(m:List (Tr E2))(lv sl av:Nat):Option (List (List UInt8)):=match j5 m lv sl with
 |some (.set v l)=>match Nat.beq v av with|true=>some l|false=>none
 |_=>none
def Mw(m:List (Tr E2)):Cell->Option (Cell×List (Nat×Nat))
 |.int k a=>some (.int k a,[])|.bool b=>some (.bool b,[])|.str s=>some (.str s,[])|.raw v=>some (.raw v,[])|.nil _=>some (.nil false,[])|.sl _ _ .aY=>none|.sl t l _=>some (.sl t l .d,[])|.ref lv sl av _=>match rowOf m lv sl av with|some r=>some (.sl r.t r.l .d,[(lv,sl)])|none=>none
 |.ku lv sl av _ off len=>match rowOf m lv sl av with|some r=>some (.sl r.t ((r.l.drop off).take len) .d,[(lv,sl)])|none=>none
 |_=>none
def nK(m:List (Tr E2)):List Cell->Option (List Cell×List (Nat×Nat))|[]=>some ([],[])|x::r=>match Mw m x,nK m r with|some (y,k),some (ys,ks)=>some (y::ys,k++ks)|_,_=>none
structure Jx where
 val:V2
 dD:List (Nat×Nat×Option E2)cT:List (Nat×Bool)rd:List (Nat×Nat×Nat)deriving Inhabited
inductive iA where|cu(e:Jx)|all(val:V2)(s:S2)deriving Inhabited
def Jx.wr(e:Jx):List (Nat×Nat×Nat):=e.dD.map (λu=>cF u.1 u.2.1)++e.cT.map λu=>kZ u.1
def lG(v:V2):iA:=.cu {val:=v,dD:=[],cT:=[],rd:=[]}
def eG(c:Cell):iA:=lG (.c c)
def tH:Cell->List (Nat×Nat×Nat)|.ref lv sl _ _=>[cF lv sl]|.ku lv sl _ _ _ _=>[cF lv sl]|.ptr lv sl _ _ _=>[cF lv sl]|.fX lv sl _ _ _ _=>[cF lv sl]|.mp lv sl _=>[cF lv sl]|_=>[]
def HC:V2->List (Nat×Nat×Nat)|.c x=>tH x|.agg cs=>cs.flatMap tH|_=>[]
def lH(ks:List (Nat×Nat)):List (Nat×Nat×Option E2):=ks.map λk=>(k.1,k.2,none)
def ZE(s:Tr V2)(dst:Option Nat)(v:V2):Tr V2:=match dst with|some n=>s.set n (some v)|none=>s
def S2.app(s:S2)(dst:Option Nat):iA->S2|.cu e=>{slots:=ZE s.slots dst e.val,outer:=s.outer,mem:=gG s.mem e.dD,aO:=eO s.aO e.cT,nv:=s.nv}|.all v s'=>{s' with slots:=ZE s'.slots dst v}
def Cell.still:Cell->Bool|.ref ..|.ku ..|.ptr ..|.fX ..|.mp ..=>false|.sl _ _ (.app _)=>false|_=>true
def V2.still:V2->Bool|.c x=>x.still|.agg cs=>cs.all Cell.still|.fL _ cs=>cs.all Cell.still|.jU vs=>vs.all λv=>v.2.all Cell.still
def loose:Tr V2->Tr V2|.lf=>.lf|.nd v l r=>.nd (match v with|none=>none|some x=>match x.still with|true=>none|false=>some x) (loose l) (loose r)
def merge:Tr V2->Tr V2->Tr V2|.lf,_=>.lf|.nd v l r,b=>.nd (match v with|none=>none|some x=>match x.still with|true=>some x|false=>b.top) (merge l b.left) (merge r b.right)
def jV(s:S2):cq->Option V2|.t n=>s.slots.get? n|.c v=>adU v
def HD(s:S2):List cq->Option (List V2)|[]=>some []|x::r=>match jV s x,HD s r with|some y,some ys=>some (y::ys)|_,_=>none
def V2.cells?:V2->Option (List Cell)|.c x=>some [x]|.agg cs=>some cs|_=>none
def CA(agg:Bool)(cs:List Cell):Option V2:=match agg with|true=>some (.agg cs)|false=>match cs with|[x]=>some (.c x)|_=>none
section
variable{α:Type}
def aH(b:Bool)(k:Option α):Option α:=cond b k none
def idx{β:Type}(l:List β)(i:Int):Option β:=cond (decide (0<=i)) (l[i.toNat]?) none
def P6:Nat->Nat->(Nat->Option α)->Option α|0,_,_=>none|n+1,k,F=>cond (Nat.beq k n) (F n) (P6 n k F)
def fM(i:Int)(n:Nat):Bool:=decide (0<=i)&&decide (i.toNat<n)
def room(n b:Nat):Bool:=decide (n<=fN)&&decide (n*b<=kP)
def CB{β:Type}(news l:List β):List β:=news.take (min news.length l.length)++l.drop (news.take (min news.length l.length)).length
def bP(s:List UInt8):List Int:=s.map λc=>(c.toNat:Int)
def jE(v:Option V2)(k:Cell->Option α):Option α:=match v with|some (.c x)=>k x|_=>none
def P7(v:Option V2)(k:Int->Option α):Option α:=match v with|some (.c (.int _ n))=>k n|_=>none
def HE(v:Option V2)(k:Nat->Option α):Option α:=P7 v λn=>aH (decide (0<=n)) (k n.toNat)
def xI(v:Option V2)(k:Bool->Option α):Option α:=match v with|some (.c (.bool b))=>k b|_=>none
def cA{β:Type}(o:Option β)(k:β->Option α):Option α:=match o with|some x=>k x|none=>none
def azZ:Value->Option Cell|.int k a=>some (.int k a)|.bool b=>some (.bool b)|_=>none
def adV(op:BinOp)(k:IntKind)(a:Int)(k':IntKind)(b:Int)(K:Cell->Option α):Option α:=match op with|.shl=>aH (!decide (b<0)) (K (.int k (k.wrap (a*2^min b.toNat k.bits))))|.shr=>aH (!decide (b<0)) (K (.int k (a.fdiv (2^min b.toNat k.bits))))|op=>match decEq k k' with|.isFalse _=>none|.isTrue _=>match op with|.add=>K (.int k (k.wrap (a+b)))|.sub=>K (.int k (k.wrap (a-b)))|.mul=>K (.int k (k.wrap (a*b)))|.quo=>aH (!decide (b=0)) (K (.int k (k.wrap (a.tdiv b))))|.rem=>aH (!decide (b=0)) (K (.int k (a.tmod b)))|.and=>K (.int k (k.wrap (BitVec.ofInt k.bits a&&&BitVec.ofInt k.bits b).toNat))|.or=>K (.int k (k.wrap (BitVec.ofInt k.bits a|||BitVec.ofInt k.bits b).toNat))|.xor=>K (.int k (k.wrap (BitVec.ofInt k.bits a^^^BitVec.ofInt k.bits b).toNat))|.andNot=>K (.int k (k.wrap (BitVec.ofInt k.bits a&&&~~~(BitVec.ofInt k.bits b)).toNat))|.eql=>K (.bool (a==b))|.neq=>K (.bool (a !=b))|.lss=>K (.bool (decide (a<b)))|.leq=>K (.bool (decide (a<=b)))|.gtr=>K (.bool (decide (a>b)))|.geq=>K (.bool (decide (a>=b)))|_=>none
def adW(op:BinOp)(x y:List UInt8)(K:Cell->Option α):Option α:=match op with|.add=>aH (!decide (((x.length+y.length:Nat):Int)>IntKind.i64.max)) (K (.str (x++y)))|.eql=>K (.bool (x==y))|.neq=>K (.bool !(x==y))|.lss=>K (.bool (Op.bytesLess x y))|.leq=>K (.bool (Op.bytesLess x y||x==y))|.gtr=>K (.bool !(Op.bytesLess x y||x==y))|.geq=>K (.bool !(Op.bytesLess x y))|_=>none
def adX(op:BinOp)(x y:Cell)(K:Cell->Option α):Option α:=match x,y with|.int k a,.int k' b=>adV op k a k' b K|.str a,.str b=>adW op a b K|_,_=>none
def S0(kd:Nat):Cell->Cell->Option Bool
 |.bool a,.bool b=>match kd with|0=>some (a==b)|_=>none
 |.int k a,.int k' b=>match kd with
  |1=>match decEq k k' with|.isTrue _=>some (a==b)|.isFalse _=>none
  |_=>none
 |.str a,.str b=>match kd with|0=>none|1=>none|_=>some (a==b)
 |_,_=>none
def HF(xs ys:List Cell):List (Nat×Nat)->Option Bool|[]=>some true|o::r=>match xs[o.1]?,ys[o.1]?,HF xs ys r with|some x,some y,some b'=>(S0 o.2 x y).map λb=>b&&b'|_,_,_=>none
def unK(op:UnOp)(x:Cell)(K:Cell->Option α):Option α:=match x with
 |.bool b=>match op with|.not=>K (.bool !b)|_=>none
 |.int k n=>match op with|.neg=>K (.int k (k.wrap (0-n)))|.xor=>K (.int k (k.wrap (BitVec.ofInt k.bits (if k.signed then-1 else k.max)^^^BitVec.ofInt k.bits n).toNat))|_=>none
 |_=>none
def p6(m:List (Tr E2))(x:Cell)(e:Option Ty)(K:SL->Option α):Option α:=match x with|.sl t l _=>K ⟨t,l⟩|.nil _=>cA e λt=>K ⟨t,[]⟩|.ref lv sl av _=>cA (rowOf m lv sl av) K|.ku lv sl av _ off len=>cA (rowOf m lv sl av) λr=>aH (decide (off+len<=r.l.length)) (K ⟨r.t,(r.l.drop off).take len⟩)|.str s=>K ⟨.int .u8,bP s⟩|_=>none
def FI(s:S2):List Cell->List (Nat×Nat×cq)->Option (List Cell)|cs,[]=>some cs|cs,(off,sz,x)::r=>match(jV s x).bind V2.cells? with
 |some new=>match Nat.beq new.length sz&&Nat.ble (off+sz) cs.length with|true=>FI s (bS.splice cs off new) r|false=>none
 |none=>none
def CC(s:S2)(sz:Nat):List (List Cell)->List (Nat×cq)->Option (List (List Cell)×List (Nat×Nat))|els,[]=>some (els,[])|els,(i,x)::r=>match((jV s x).bind V2.cells?).bind (nK s.mem)with
 |some (e,ks)=>match Nat.beq e.length sz&&Nat.blt i els.length with
  |true=>match CC s sz (els.set i e) r with|some (els',ks')=>some (els',ks++ks')|none=>none
  |false=>none
 |none=>none
def CD(t:Ty):List (List Cell)->Option (List t.den)|[]=>some []|e::r=>match Ak t e,CD t r with|some x,some xs=>some (x::xs)|_,_=>none
def CE:List V2->Option (List Cell)|[]=>some []|.c x::r=>(CE r).map (x::·)|_=>none
def On(m:List (Tr E2))(sz:Nat)(p:Cell)(K:List Cell->Option α):Option α:=match p with
 |.ptr lv sl av i off=>match j5 m lv sl with
  |some (.box v cs)=>match Nat.beq v av&&Nat.beq i 0&&Nat.ble (off+sz) cs.length with|true=>K ((cs.drop off).take sz)|false=>none
  |some (.row v t l)=>match Nat.beq v av&&Nat.ble (off+sz) t.size with|true=>Option.bind l[i]? λx=>K (((jD t x).drop off).take sz)|false=>none
  |some (.set _ _)=>none|none=>none
 |.gw t x off=>match Nat.ble (off+sz) t.size with|true=>K (((jD t x).drop off).take sz)|false=>none
 |_=>none
def CF(ks:List (Nat×Nat))(lv sl:Nat):Bool:=ks.any λk=>Nat.beq k.1 lv&&Nat.beq k.2 sl
def Mx(m:List (Tr E2))(sz:Nat)(p:Cell)(new:List Cell)(K:iA->Option α):Option α:=match p,Nat.beq new.length sz with
 |.ptr lv sl av i off,true=>match j5 m lv sl with
  |some (.box v cs)=>match Nat.beq v av&&Nat.beq i 0&&Nat.ble (off+sz) cs.length with|true=>K (.cu {val:=.jU [],dD:=[(lv,sl,some (.box v (bS.splice cs off new)))],cT:=[],rd:=[cF lv sl]})|false=>none
  |some (.row v t l)=>match Nat.beq v av&&Nat.ble (off+sz) t.size,nK m new with
   |true,some (new,ks)=>match CF ks lv sl with|true=>none|false=>Option.bind l[i]? λx=>cA (Ak t (bS.splice (jD t x) off new)) λy=>K (.cu {val:=.jU [],dD:=lH ks++[(lv,sl,some (.row v t (l.set i y)))],cT:=[],rd:=cF lv sl::jx ks})
   |_,_=>none
  |some (.set _ _)=>none|none=>none
 |_,_=>none
def P8(s:S2)(row:Bool)(lv sl aZ sz bytes:Nat)(x y:Cell)(e:Option Ty)(K:iA->Option α):Option α:=match x with
 |.nil true=>p6 s.mem y e λn=>match Nat.beq n.t.size sz with|true=>aH (room n.l.length bytes) (match row with|false=>K (.cu {val:=.c (.sl n.t n.l (.app aZ)),dD:=[],cT:=[(aZ,true)],rd:=tH y})|true=>K (.cu {val:=.c (.ref lv sl aZ n.t),dD:=[(lv,sl,some (.row aZ n.t n.l))],cT:=[],rd:=tH y}))|false=>none
 |.sl t l .full=>p6 s.mem y (some t) λn=>match Nat.beq t.size sz,j9 n.t t n.l with|true,some news=>aH (room (l.length+news.length) bytes) (match row with|false=>K (.cu {val:=.c (.sl t (l++news) (.app aZ)),dD:=[],cT:=[(aZ,true)],rd:=tH y})|true=>aH (l.isEmpty||!news.isEmpty) (K (.cu {val:=.c (.ref lv sl aZ t),dD:=[(lv,sl,some (.row aZ t (l++news)))],cT:=[],rd:=tH y})))|_,_=>none
 |.sl t l (.app v)=>p6 s.mem y (some t) λn=>match Nat.beq t.size sz,j9 n.t t n.l,row,s.aO.get? v with|true,some news,false,some ()=>aH (room (l.length+news.length) bytes) (K (.cu {val:=.c (.sl t (l++news) (.app aZ)),dD:=[],cT:=[(v,false),(aZ,true)],rd:=kZ v::tH y}))|_,_,_,_=>none
 |.ref cV dy av t=>cA (rowOf s.mem cV dy av) λr=>p6 s.mem y (some t) λn=>match Nat.beq t.size sz,j9 r.t t r.l,j9 n.t t n.l with|true,some l,some news=>aH (room (l.length+news.length) bytes) (K (.cu {val:=.c (.ref cV dy aZ t),dD:=[(cV,dy,some (.row aZ t (l++news)))],cT:=[],rd:=cF cV dy::tH y}))|_,_,_=>none
 |.ku cV dy av t off len=>cA (rowOf s.mem cV dy av) λr=>p6 s.mem y (some t) λn=>match Nat.beq t.size sz,j9 r.t t r.l,j9 n.t t n.l with|true,some l,some news=>aH (decide (off+len<=l.length)&&room (len+news.length) bytes) (K (.cu {val:=.c (.ref cV dy aZ t),dD:=[(cV,dy,some (.row aZ t ((l.drop off).take len++news)))],cT:=[],rd:=cF cV dy::tH y}))|_,_,_=>none
 |_=>none
def vO(x:Option cq)(s:S2)(K:Option Nat->Option α):Option α:=match x with|none=>K none|some o=>HE (jV s o) λn=>K (some n)
def p8{β:Type}(l:List β)(lo hi:Option Nat):List β:=match lo,hi with|none,none=>l|some a,none=>l.drop a|none,some b=>l.take b|some a,some b=>(l.drop a).take (b-a)
def oh(n:Nat)(lo hi:Option Nat):Bool:=match lo,hi with|none,none=>true|some a,none=>decide (a<=n)|none,some b=>decide (b<=n)|some a,some b=>decide (a<=b)&&decide (b<=n)
def Bl(lo:Option Nat):Nat:=lo.getD 0
def Cell.ou:Cell->Bool|.ref ..=>true|.ku ..=>true|_=>false
def V2.ou:V2->Bool|.c x=>x.ou|_=>false
def adY(m:List (Tr E2))(sz aZ:Nat)(x:Cell)(lo hi:Option Nat)(K:iA->Option α):Option α:=match x with
 |.ref lv sl av t=>cA (rowOf m lv sl av) λr=>match Nat.beq t.size sz,j9 r.t t r.l with|true,some l=>aH (oh l.length lo hi) (K (.cu {val:=.c (.ref lv sl aZ t),dD:=[(lv,sl,some (.row aZ t (p8 l lo hi)))],cT:=[],rd:=[cF lv sl]}))|_,_=>none
 |_=>none
def My(m:List (Tr E2))(sz:Nat)(x:Cell)(lo hi mx:Option Nat)(K:Cell->Option α):Option α:=match x with
 |.sl t l o=>match Nat.beq t.size sz with
  |true=>match mx with|none=>aH (oh l.length lo hi) (match o with
   |.aY=>K (.sl t (p8 l lo hi) .aY)|.full=>match hi with|none=>K (.sl t (p8 l lo hi) .full)|some _=>K (.sl t (p8 l lo hi) .d)
   |_=>K (.sl t (p8 l lo hi) .d))|some m=>match o,hi with|.aY,_=>none|_,none=>none|_,some h=>aH (oh l.length lo hi&&Nat.beq h m) (K (.sl t (p8 l lo hi) .full))
  |false=>none
 |.nil f=>match mx with|none=>aH (oh 0 lo hi) (K (.nil f))|some _=>none
 |.ref lv sl av t=>match Nat.beq t.size sz,mx with|true,none=>cA (rowOf m lv sl av) λr=>aH (oh r.l.length lo hi) (K (.ku lv sl av t (Bl lo) (hi.getD r.l.length-Bl lo)))|_,_=>none
 |.ku lv sl av t off len=>match Nat.beq t.size sz,mx with|true,none=>aH (oh len lo hi) (K (.ku lv sl av t (off+Bl lo) (hi.getD len-Bl lo)))|_,_=>none
 |_=>none
end
inductive iB where|int(k:IntKind)|bool|er|str|sl(t:Ty)(o:Ow)|nil(full:Bool)|ref(lv sl av:Nat)(t:Ty)|ptr(lv sl av i off:Nat)|gw(t:Ty)(off:Nat)|mp(lv sl av:Nat)deriving Inhabited
inductive uR where|c(x:iB)|agg(l:List iB)|fL(f:Nat)(l:List iB)deriving Inhabited
inductive Oo where|row(av:Nat)(t:Ty)|box(av:Nat)(l:List iB)|set(av:Nat)deriving Inhabited
@[reducible]def sL:List Ty->Ty|[]=>.unit|[a]=>a|a::b::r=>.prod a (sL (b::r))
def unpack:(ts:List Ty)->(sL ts).den->List gr|[],_=>[]|[a],x=>[⟨a,x⟩]|a::b::r,x=>⟨a,x.1⟩::unpack (b::r) x.2
def pack:(ts:List Ty)->List gr->Option (sL ts).den
 |[],[]=>some ()|[a],[d]=>vN d.t a d.v|a::b::r,d::ds=>match vN d.t a d.v,pack (b::r) ds with|some x,some y=>some (x,y)|_,_=>none
 |_,_=>none
def iB.fill:iB->List gr->Option (Cell×List gr)|.int _,⟨.int k,a⟩::r=>some (.int k a,r)|.bool,⟨.bool,b⟩::r=>some (.bool b,r)|.er,⟨.bool,b⟩::r=>some (.er b,r)|.str,⟨.str,s⟩::r=>some (.str s,r)|.sl _ o,⟨.sl t,l⟩::r=>some (.sl t l o,r)|.nil f,r=>some (.nil f,r)|.ref lv sq av t,r=>some (.ref lv sq av t,r)|.ptr lv sq av i off,r=>some (.ptr lv sq av i off,r)|.gw _ off,⟨t,x⟩::r=>some (.gw t x off,r)|.mp lv sq av,r=>some (.mp lv sq av,r)|_,_=>none
def dK:List iB->List gr->Option (List Cell×List gr)|[],r=>some ([],r)|c::cs,r=>match c.fill r with
 |some (x,r')=>match dK cs r' with|some (xs,r'')=>some (x::xs,r'')|none=>none
 |none=>none
def uR.fill:uR->List gr->Option (V2×List gr)
 |.c x,r=>match x.fill r with|some (y,r')=>some (.c y,r')|none=>none
 |.agg l,r=>match dK l r with|some (y,r')=>some (.agg y,r')|none=>none
 |.fL f l,r=>match dK l r with|some (y,r')=>some (.fL f y,r')|none=>none
def Oo.fill:Oo->List gr->Option (E2×List gr)
 |.row av _,⟨.sl t,l⟩::r=>some (.row av t l,r)|.box av l,r=>match dK l r with|some (y,r')=>some (.box av y,r')|none=>none
 |.set av,⟨.sl .str,l⟩::r=>some (.set av l,r)|_,_=>none
abbrev Ren:=List (Nat×Option Nat)
def iB.get:iB->Cell->Option (List gr×Ren)
 |.int k,.int k' a=>match decEq k k' with|.isTrue _=>some ([⟨.int k',a⟩],[])|.isFalse _=>none
 |.bool,.bool b=>some ([⟨.bool,b⟩],[])|.er,.er b=>some ([⟨.bool,b⟩],[])|.str,.str s=>some ([⟨.str,s⟩],[])|.sl t o,.nil f=>match o,f with|.d,_=>some ([⟨.sl t,[]⟩],[])|.aY,_=>some ([⟨.sl t,[]⟩],[])|.full,true=>some ([⟨.sl t,[]⟩],[])|.app v,true=>some ([⟨.sl t,[]⟩],[(v,none)])|_,_=>none
 |.sl _ o,.sl t' l o'=>match o,o' with|.aY,_=>some ([⟨.sl t',l⟩],[])|.d,.aY=>none|.d,_=>some ([⟨.sl t',l⟩],[])|.full,.full=>some ([⟨.sl t',l⟩],[])|.app v,.full=>some ([⟨.sl t',l⟩],[(v,none)])|.app v,.app v'=>some ([⟨.sl t',l⟩],[(v,some v')])|_,_=>none
 |.nil true,.nil true=>some ([],[])|.nil false,.nil _=>some ([],[])|.ref lv sq av t,.ref cV sq' gU t'=>match Nat.beq lv cV&&Nat.beq sq sq',decEq t t' with|true,.isTrue _=>some ([],[(av,some gU)])|_,_=>none
 |.ptr lv sq av i off,.ptr cV sq' gU i' off'=>match Nat.beq lv cV&&Nat.beq sq sq'&&Nat.beq i i'&&Nat.beq off off' with|true=>some ([],[(av,some gU)])|false=>none
 |.gw _ off,.gw t' x off'=>match Nat.beq off off' with|true=>some ([⟨t',x⟩],[])|false=>none
 |.mp lv sq av,.mp cV sq' gU=>match Nat.beq lv cV&&Nat.beq sq sq' with|true=>some ([],[(av,some gU)])|false=>none
 |_,_=>none
def Al:List iB->List Cell->Option (List gr×Ren)
 |[],[]=>some ([],[])|c::cs,x::xs=>match c.get x,Al cs xs with|some (d,r),some (ds,rs)=>some (d++ds,r++rs)|_,_=>none
 |_,_=>none
def uR.get:uR->V2->Option (List gr×Ren)
 |.c x,.c y=>x.get y|.agg l,.agg cs=>Al l cs|.fL f l,.fL f' cs=>match Nat.beq f f' with|true=>Al l cs|false=>none
 |_,_=>none
def Oo.get:Oo->E2->Option (List gr×Ren)
 |.row av _,.row gU t' l=>some ([⟨.sl t',l⟩],[(av,some gU)])|.box av l,.box gU cs=>match Al l cs with|some (d,r)=>some (d,(av,some gU)::r)|none=>none
 |.set av,.set gU l=>some ([⟨.sl .str,l⟩],[(av,some gU)])|_,_=>none
structure aX where
 slots:List (Nat×uR)outer:List (List (Nat×uR))mem:List (Nat×Nat×Oo)lvs:Nat
 aO:List Nat
 nv:Nat
 tys:List Ty deriving Inhabited
def oS:List (Nat×uR)->List gr->Tr V2->Option (Tr V2×List gr)|[],r,t=>some (t,r)|(k,v)::l,r,t=>match v.fill r with|some (x,r')=>oS l r' (t.set k (some x))|none=>none
def uS:List (List (Nat×uR))->List gr->Option (List (Tr V2)×List gr)|[],r=>some ([],r)|x::l,r=>match oS x r .lf with
 |some (t,r')=>match uS l r' with|some (ts,r'')=>some (t::ts,r'')|none=>none
 |none=>none
def xJ:List (Nat×Nat×Oo)->List gr->List (Tr E2)->Option (List (Tr E2)×List gr)|[],r,m=>some (m,r)|(lv,sl,e)::l,r,m=>match e.fill r with|some (x,r')=>xJ l r' (Cz m lv sl (some x))|none=>none
def HG:List Nat->Tr Unit->Tr Unit|[],t=>t|v::r,t=>HG r (t.set v (some ()))
def aX.st(T:aX)(ds:List gr):Option S2:=match oS T.slots ds .lf with
 |some (sl,r)=>match uS T.outer r with
  |some (os,r)=>match xJ T.mem r (List.replicate T.lvs .lf)with|some (m,[])=>some {slots:=sl,outer:=os,mem:=m,aO:=HG T.aO .lf,nv:=T.nv}|_=>none
  |none=>none
 |none=>none
def qN(s:Tr V2):List (Nat×uR)->Option (List gr×Ren)|[]=>some ([],[])|(k,v)::l=>match(s.get? k).bind v.get,qN s l with|some (d,r),some (ds,rs)=>some (d++ds,r++rs)|_,_=>none
def qO:List (Tr V2)->List (List (Nat×uR))->Option (List gr×Ren)
 |[],[]=>some ([],[])|t::ts,x::xs=>match qN t x,qO ts xs with|some (d,r),some (ds,rs)=>some (d++ds,r++rs)|_,_=>none
 |_,_=>none
def CG(m:List (Tr E2)):List (Nat×Nat×Oo)->Option (List gr×Ren)|[]=>some ([],[])|(lv,sl,e)::l=>match(j5 m lv sl).bind e.get,CG m l with|some (d,r),some (ds,rs)=>some (d++ds,r++rs)|_,_=>none
def vn:Ren->Nat->Option Nat|[],_=>none|(a,w)::r,v=>match Nat.beq a v with|true=>w|false=>vn r v
def oeq:Option Nat->Option Nat->Bool|none,none=>true|some a,some b=>Nat.beq a b|_,_=>false
def S1(nv snv:Nat)(σ:Ren):Bool:=σ.all λp=>Nat.blt p.1 nv&&oeq (vn σ p.1) p.2&&(match p.2with|none=>true|some w=>Nat.blt w snv&&σ.all λq=>Nat.beq q.1 p.1||!oeq q.2 p.2)
def HH(nv:Nat)(σ:Ren)(t:Tr Unit):List Nat->Bool|[]=>true|v::r=>Nat.blt v nv&&(match vn σ v with|none=>true|some w=>(t.get? w).isSome)&&HH nv σ t r
def aX.get(T:aX)(s:S2):Option (List gr):=match qN s.slots T.slots,qO s.outer T.outer,CG s.mem T.mem with
 |some (d,r),some (ds',rs'),some (ds,rs)=>match Nat.beq T.lvs s.mem.length&&S1 T.nv s.nv (r++(rs'++rs))&&HH T.nv (r++(rs'++rs)) s.aO T.aO with|true=>some (d++(ds'++ds))|false=>none
 |_,_,_=>none
inductive vo where|c(x:iB)|agg(l:List iB)|fL(f:Nat)|box(l:List iB)deriving Inhabited
abbrev Ty.I:Ty:=.int .i64
abbrev iB.I:iB:=.int .i64
abbrev Ty.U:Ty:=.int .u64
abbrev iB.U:iB:=.int .u64
abbrev Ty.B:Ty:=.int .u8
abbrev iB.B:iB:=.int .u8
abbrev iB.D(t:Ty):iB:=.sl t .d
abbrev iB.A(t:Ty)(n:Nat):iB:=.sl t (.app n)
abbrev iB.P(a b c:Nat):iB:=.ptr a b c 0 0
abbrev uR.I:uR:=.c .I
abbrev uR.U:uR:=.c .U
abbrev uR.B:uR:=.c .B
abbrev uR.Q:uR:=.c .bool
abbrev uR.N:uR:=.c (.nil true)
abbrev uR.T:uR:=.c .str
abbrev uR.S(t:Ty):uR:=.c (.sl t .aY)
abbrev uR.D(t:Ty):uR:=.c (.D t)
abbrev uR.A(t:Ty)(n:Nat):uR:=.c (.A t n)
abbrev uR.P(a b c:Nat):uR:=.c (.P a b c)
abbrev uR.R(a b c:Nat)(t:Ty):uR:=.c (.ref a b c t)
abbrev vo.I:vo:=.c .I
abbrev vo.U:vo:=.c .U
abbrev vo.B:vo:=.c .B
abbrev vo.Q:vo:=.c .bool
abbrev vo.N:vo:=.c (.nil true)
abbrev vo.T:vo:=.c .str
abbrev vo.S(t:Ty):vo:=.c (.sl t .aY)
abbrev vo.D(t:Ty):vo:=.c (.D t)
abbrev vo.A(t:Ty)(n:Nat):vo:=.c (.A t n)
abbrev vo.P(a b c:Nat):vo:=.c (.P a b c)
abbrev vo.R(a b c:Nat)(t:Ty):vo:=.c (.ref a b c t)
structure Callee where
 args:List vo
 ta:List Ty
 res:List (Bool×List iB)tr:List Ty
 rk:Nat
 F:(sL ta).den->Option (sL tr).den
abbrev aW:=List (AX×aX)
@[reducible]def p9:aW->Ty|[]=>.unit|[x]=>sL x.2.tys|x::y::r=>.sum (sL x.2.tys) (p9 (y::r))
structure Jy where
 T:aX
 outs:aW
 F:(sL T.tys).den->Option (p9 outs).den
structure ai where
 fns:Nat->Option rF
 tI:Nat->Option Callee
 loops:Nat->Nat->AC->Option Jy
 Jz:Nat->Nat->Option aW
 S3:Nat->Nat->Option aW
 Mz:Nat->Nat->Option (Nat×Ty)unr:Nat->Nat->Bool
 Oq:Nat->Nat->Option Ty
def ai.sh(E:ai)(g:Nat):Bool:=((E.fns g).map (·.sh)).getD false
def iB.arg(m:List (Tr E2))(agg:Bool):iB->Cell->Option (List gr×List (Nat×Nat)×List Bool)
 |.int k,.int k' a=>match decEq k k' with|.isTrue _=>some ([⟨.int k',a⟩],[],[])|.isFalse _=>none
 |.bool,.bool b=>some ([⟨.bool,b⟩],[],[])|.str,.str s=>some ([⟨.str,s⟩],[],[])|.sl t o,.nil _=>match o with|.d=>some ([⟨.sl t,[]⟩],[],[])|.aY=>some ([⟨.sl t,[]⟩],[],[])|_=>none
 |.sl _ o,.sl t' l o'=>match o,o' with|.aY,_=>some ([⟨.sl t',l⟩],[],[])|.d,.aY=>none|.d,_=>some ([⟨.sl t',l⟩],[],[])|_,_=>none
 |.sl _ o,.ref lv sq av _=>match rowOf m lv sq av,o,agg with|some r,.aY,false=>some ([⟨.sl r.t,r.l⟩],[],[])|some r,.aY,true=>some ([⟨.sl r.t,r.l⟩],[(lv,sq)],[])|some r,.d,true=>some ([⟨.sl r.t,r.l⟩],[(lv,sq)],[])|_,_,_=>none
 |.sl _ o,.ku lv sq av _ off len=>match rowOf m lv sq av,o,agg with|some r,.aY,false=>some ([⟨.sl r.t,(r.l.drop off).take len⟩],[],[decide (off+len<=r.l.length)])|_,_,_=>none
 |_,_=>none
def CH(m:List (Tr E2)):List iB->List Cell->Option (List gr×List (Nat×Nat)×List Bool)
 |[],[]=>some ([],[],[])|c::cs,x::xs=>match c.arg m true x,CH m cs xs with|some (d,k,b),some (ds,ks,bs)=>some (d++ds,k++ks,b++bs)|_,_=>none
 |_,_=>none
def vo.arg(m:List (Tr E2)):vo->V2->Option (List gr×List (Nat×Nat)×List Bool)
 |.c x,.c y=>x.arg m false y|.agg l,.agg cs=>CH m l cs|.fL f,.fL f' []=>match Nat.beq f f' with|true=>some ([],[],[])|false=>none
 |_,_=>none
def FJ(m:List (Tr E2)):List vo->List V2->Option (List gr×List (Nat×Nat)×List Bool)
 |[],[]=>some ([],[],[])|p::ps,x::xs=>match p.arg m x,FJ m ps xs with|some (d,k,b),some (ds,ks,bs)=>some (d++ds,k++ks,b++bs)|_,_=>none
 |_,_=>none
def vP{α:Type}(l:List Bool)(k:Option α):Option α:=match l with|[]=>k|b::r=>aH b (vP r k)
def adZ(m:List (Tr E2)):Cell->Option Cell
 |.int k a=>some (.int k a)|.bool b=>some (.bool b)|.str s=>some (.str s)|.raw v=>some (.raw v)|.nil _=>some (.nil false)|.sl t l _=>some (.sl t l .d)|.ref lv sl av _=>match rowOf m lv sl av with|some r=>some (.sl r.t r.l .d)|none=>none
 |.ku lv sl av _ off len=>match rowOf m lv sl av with|some r=>some (.sl r.t ((r.l.drop off).take len) .d)|none=>none
 |_=>none
def ZF(m:List (Tr E2)):List Cell->Option (List Cell)|[]=>some []|x::r=>match adZ m x,ZF m r with|some y,some ys=>some (y::ys)|_,_=>none
def iB.mw(m:List (Tr E2))(agg:Bool):iB->Cell->Option (List gr×List Bool)
 |.int k,.int k' a=>match decEq k k' with|.isTrue _=>some ([⟨.int k',a⟩],[])|.isFalse _=>none
 |.bool,.bool b=>some ([⟨.bool,b⟩],[])|.str,.str s=>some ([⟨.str,s⟩],[])|.sl t o,.nil _=>match o with|.d=>some ([⟨.sl t,[]⟩],[])|.aY=>some ([⟨.sl t,[]⟩],[])|_=>none
 |.sl _ o,.sl t' l _=>match o with|.d=>some ([⟨.sl t',l⟩],[])|.aY=>some ([⟨.sl t',l⟩],[])|_=>none
 |.sl _ o,.ref lv sq av _=>match rowOf m lv sq av,o with|some r,.d=>some ([⟨.sl r.t,r.l⟩],[])|some r,.aY=>some ([⟨.sl r.t,r.l⟩],[])|_,_=>none
 |.sl _ o,.ku lv sq av _ off len=>match rowOf m lv sq av,o with|some r,.d=>some ([⟨.sl r.t,(r.l.drop off).take len⟩],[decide (off+len<=r.l.length)])|some r,.aY=>some ([⟨.sl r.t,(r.l.drop off).take len⟩],[decide (off+len<=r.l.length)])|_,_=>none
 |.sl t o,.fX lv sq av off n sz=>match agg,j5 m lv sq with
  |false,some (.box v cs)=>match Nat.beq v av&&Nat.ble (off+n*sz) cs.length,(ZF m ((cs.drop off).take (n*sz))).bind λds=>CD t (bS.chunk sz n ds)with
   |true,some l=>match o with|.d=>some ([⟨.sl t,l⟩],[])|.aY=>some ([⟨.sl t,l⟩],[])|_=>none
   |_,_=>none
  |_,_=>none
 |_,_=>none
def yS(m:List (Tr E2)):List iB->List Cell->Option (List gr×List Bool)
 |[],[]=>some ([],[])|c::cs,x::xs=>match c.mw m true x,yS m cs xs with|some (d,b),some (ds,bs)=>some (d++ds,b++bs)|_,_=>none
 |_,_=>none
def vo.mw(m:List (Tr E2)):vo->V2->Option (List gr×List Bool)
 |.c x,.c y=>x.mw m false y|.agg l,.agg cs=>yS m l cs|.fL f,.fL f' []=>match Nat.beq f f' with|true=>some ([],[])|false=>none
 |_,_=>none
def yT(m:List (Tr E2)):List vo->List V2->Option (List gr×List Bool)
 |[],[]=>some ([],[])|p::ps,x::xs=>match p.mw m x,yT m ps xs with|some (d,b),some (ds,bs)=>some (d++ds,b++bs)|_,_=>none
 |_,_=>none
def Am(m:List (Tr E2)):V2->List (Nat×Nat×Nat)|.c (.fX lv sl _ _ _ _)=>cF lv sl::(match j5 m lv sl with|some (.box _ cs)=>cs.flatMap tH|_=>[])|v=>HC v
def iB.flat:iB->Bool|.int _|.bool|.str=>true|_=>false
def Bv(res:List (Bool×List iB)):Bool:=res.all λr=>r.2.all iB.flat
def eo:List vo->List gr->Option (List V2×List gr)|[],r=>some ([],r)|p::ps,r=>match(match p with|.c x=>uR.fill (.c x) r|.agg l=>uR.fill (.agg l) r|.fL f=>some (.fL f [],r)|.box _=>none)with
 |some (x,r')=>match eo ps r' with|some (xs,r'')=>some (x::xs,r'')|none=>none
 |none=>none
def oA:List (Bool×List iB)->List gr->Option (List (Bool×List Cell)×List gr)|[],r=>some ([],r)|(a,l)::ps,r=>match dK l r with
 |some (x,r')=>match oA ps r' with|some (xs,r'')=>some ((a,x)::xs,r'')|none=>none
 |none=>none
def qP:List (Bool×List Cell)->Option V2|[(a,cs)]=>CA a cs|vs=>some (.jU vs)
def kU:Nat->List V2->Tr V2->Tr V2|_,[],t=>t|i,x::r,t=>kU (i+1) r (t.set i (some x))
def uT:iB->Cell->Option (List gr)
 |.int k,.int k' a=>match decEq k k' with|.isTrue _=>some [⟨.int k',a⟩]|.isFalse _=>none
 |.bool,.bool b=>some [⟨.bool,b⟩]|.str,.str s=>some [⟨.str,s⟩]|.sl t .d,.nil _=>some [⟨.sl t,[]⟩]|.sl _ .d,.sl t' l _=>some [⟨.sl t',l⟩]|_,_=>none
def gH:List iB->List Cell->Option (List gr)
 |[],[]=>some []|c::cs,x::xs=>match uT c x,gH cs xs with|some d,some ds=>some (d++ds)|_,_=>none
 |_,_=>none
def ZG(top:Nat):Cell->Bool|.ref lv _ _ _=>Nat.ble top lv|.ku lv _ _ _ _ _=>Nat.ble top lv|_=>true
def hiR(top:Nat)(vs:List (Bool×List Cell)):Bool:=vs.all λv=>v.2.all (ZG top)
def MA(m:List (Tr E2))(rk k:Nat):Cell->Bool|.ref lv sl av t=>Nat.beq k rk&&(match rowOf m lv sl av with|some r=>Nat.beq r.t.size t.size|none=>false)|.nil true=>true|.ku ..=>false|_=>!Nat.beq k rk
def ZH(m:List (Tr E2))(rk:Nat):Nat->List Cell->Bool|_,[]=>true|k,c::r=>MA m rk k c&&ZH m rk (k+1) r
def FK(m:List (Tr E2))(rk:Nat):Nat->List (Bool×List Cell)->Bool|_,[]=>true|k,(_,cs)::r=>ZH m rk k cs&&FK m rk (k+64) r
def ad0(m:List (Tr E2))(rk:Nat)(vs:List (Bool×List Cell)):Bool:=match Nat.beq rk 0with|true=>true|false=>FK m rk 1 vs
def FL(rk lv sl av k:Nat)(c:Cell):Option (Cell×List SL):=match Nat.beq k rk with
 |true=>match c with|.sl t l _=>some (.ref lv sl av t,[⟨t,l⟩])|_=>none
 |false=>some (c,[])
def tJ(rk lv sl av:Nat):Nat->List Cell->Option (List Cell×List SL)|_,[]=>some ([],[])|k,c::r=>match FL rk lv sl av k c,tJ rk lv sl av (k+1) r with|some (x,u),some (xs,us)=>some (x::xs,u++us)|_,_=>none
def FM(rk lv sl av:Nat):Nat->List (Bool×List Cell)->Option (List (Bool×List Cell)×List SL)|_,[]=>some ([],[])|k,(a,cs)::r=>match tJ rk lv sl av k cs,FM rk lv sl av (k+64) r with|some (xs,us),some (ys,vs)=>some ((a,xs)::ys,us++vs)|_,_=>none
section
variable{α:Type}
def ad1(s:S2)(r:Bd)(K:Bool->List Cell->Option α):Option α:=match r with
 |.t n=>match s.slots.get? n with|some (.c x)=>K false [x]|some (.agg cs)=>K true cs|_=>none
 |.cell n sz agg=>jE (s.slots.get? n) λp=>On s.mem sz p λcs=>match agg,cs with|true,cs=>K true cs|false,[x]=>K false [x]|_,_=>none
def FN(s:S2):List Bd->(List (Bool×List Cell)->Option α)->Option α|[],K=>K []|r::rs,K=>ad1 s r λa cs=>FN s rs λl=>K ((a,cs)::l)
end
def mK(m:List (Tr E2)):List (Bool×List iB)->List (Bool×List Cell)->Option (List gr)
 |[],[]=>some []|(a,l)::ps,(b,cs)::vs=>match a==b,nK m cs,mK m ps vs with|true,some (cs,_),some ds=>(gH l cs).map (·++ds)|_,_,_=>none
 |_,_=>none
def S4(m:List (Tr E2))(top:Nat):Cell->Option Cell
 |.int k a=>some (.int k a)|.bool b=>some (.bool b)|.str s=>some (.str s)|.raw v=>some (.raw v)|.nil _=>some (.nil false)|.sl _ _ .aY=>none|.sl t l _=>some (.sl t l .d)|.ref lv sl av t=>match Nat.ble top lv with|false=>some (.ref lv sl av t)|true=>match rowOf m lv sl av with|some r=>some (.sl r.t r.l .d)|none=>none
 |.ku lv sl av t off len=>match Nat.ble top lv with|false=>some (.ku lv sl av t off len)|true=>match rowOf m lv sl av with|some r=>some (.sl r.t ((r.l.drop off).take len) .d)|none=>none
 |.ptr lv sl av i off=>match Nat.ble top lv with|false=>some (.ptr lv sl av i off)|true=>none
 |_=>none
def CI(m:List (Tr E2))(top:Nat):List Cell->Option (List Cell)|[]=>some []|x::r=>match S4 m top x,CI m top r with|some y,some ys=>some (y::ys)|_,_=>none
def An(m:List (Tr E2))(top:Nat):List (Bool×List Cell)->Option (List (Bool×List Cell))|[]=>some []|(a,x)::r=>match CI m top x,An m top r with|some y,some ys=>some ((a,y)::ys)|_,_=>none
def abJ(top:Nat):Cell->Bool|.ref lv _ _ _=>Nat.ble top lv|.ku lv _ _ _ _ _=>Nat.ble top lv|_=>false
def ad2(m:List (Tr E2))(top:Nat)(c:Cell):Option Cell:=match c with
 |.nil b=>match Nat.beq top 0with|true=>some (.nil false)|false=>some (.nil b)
 |.sl t l (.app v)=>match Nat.beq top 0with|true=>some (.sl t l .d)|false=>some (.sl t l (.app v))
 |.sl t l .full=>match Nat.beq top 0with|true=>some (.sl t l .d)|false=>some (.sl t l .full)
 |c=>S4 m top c
def S5(m:List (Tr E2))(top rk lv sl av:Nat)(e:Option Ty)(k:Nat)(c:Cell):Option (Cell×List SL):=match Nat.beq k rk with
 |true=>match c with
  |.nil true=>e.map λt=>(.ref lv sl av t,[⟨t,[]⟩])|.ref cV dy gU t=>match Nat.ble top cV,rowOf m cV dy gU with
   |true,some r=>match Nat.beq r.t.size t.size with|true=>some (.ref lv sl av r.t,[⟨r.t,r.l⟩])|false=>none
   |_,_=>none
  |.ku cV dy gU t off len=>match Nat.ble top cV,rowOf m cV dy gU with
   |true,some r=>match Nat.beq r.t.size t.size with|true=>some (.ref lv sl av r.t,[⟨r.t,(r.l.drop off).take len⟩])|false=>none
   |_,_=>none
  |_=>none
 |false=>match abJ top c with|true=>none|false=>(ad2 m top c).map λy=>(y,[])
def FO(m:List (Tr E2))(top rk lv sl av:Nat)(e:Option Ty):Nat->List Cell->Option (List Cell×List SL)|_,[]=>some ([],[])|k,x::r=>match S5 m top rk lv sl av e k x,FO m top rk lv sl av e (k+1) r with|some (y,u),some (ys,us)=>some (y::ys,u++us)|_,_=>none
def CJ(m:List (Tr E2))(top rk lv sl av:Nat)(e:Option Ty):Nat->List (Bool×List Cell)->Option (List (Bool×List Cell)×List SL)|_,[]=>some ([],[])|k,(a,x)::r=>match FO m top rk lv sl av e k x,CJ m top rk lv sl av e (k+64) r with|some (y,u),some (ys,us)=>some ((a,y)::ys,u++us)|_,_=>none
section
variable{α:Type}
def ZI:AX->AX->Bool|.normal,.normal=>true|.exit a,.exit b=>Nat.beq a b|.ret,.ret=>true|_,_=>false
def qQ:(os:aW)->(p9 os).den->(AX->S2->Option α)->Option α|[],_,_=>none|[x],y,K=>cA (x.2.st (unpack x.2.tys y)) λs=>K x.1 s|x::z::r,y,K=>match y with|.inl a=>cA (x.2.st (unpack x.2.tys a)) λs=>K x.1 s|.inr b=>qQ (z::r) b K
def oB:(os:aW)->AX->S2->Option (p9 os).den
 |[],_,_=>none|[x],ax,s=>match ZI x.1 ax with|true=>cA (x.2.get s) λds=>pack x.2.tys ds|false=>none
 |x::z::r,ax,s=>match ZI x.1 ax with|true=>cA ((x.2.get s).bind (pack x.2.tys)) λy=>some (.inl y)|false=>cA (oB (z::r) ax s) λy=>some (.inr y)
end
abbrev Wk:=∀(α:Type),Nat->Nat->AC->S2->(AX->S2->Option α)->Option α
def abK(ctx d:Nat):Nat:=(ctx+1)*1000000+d*1000
section
variable{α:Type}
def V2.abL:V2->Bool|.jU _=>false|_=>true
def S6(E:ai)(s:S2)(row d nx f:Nat)(args:List V2)(K:iA->Option α):Option α:=cA (E.tI f) λc=>cA (FJ s.mem c.args args) λ(ds,ks,bs)=>cA (pack c.ta ds) λx=>vP bs<|Option.bind (c.F x) λy=>match oA c.res (unpack c.tr y)with
 |some (vs,[])=>match Nat.beq row 0with
  |true=>match Nat.beq c.rk 65535with|true=>none|false=>cA (qP vs) λv=>K (.cu {val:=v,dD:=lH ks,cT:=[],rd:=args.flatMap HC})
  |false=>match Nat.beq (row%65536) c.rk&&!Nat.beq c.rk 0&&!Nat.beq (row/65536) 0,FM c.rk (s.mem.length-1) d nx 1 vs with
   |true,some (vs,[])=>cA (qP vs) λv=>K (.cu {val:=v,dD:=lH ks,cT:=[],rd:=args.flatMap HC})|true,some (vs,[u])=>match Nat.beq (row/65536) u.t.size with|true=>cA (qP vs) λv=>K (.cu {val:=v,dD:=lH ks++[(s.mem.length-1,d,some (.row nx u.t u.l))],cT:=[],rd:=args.flatMap HC})|false=>none
   |_,_=>none
 |_=>none
def vo.ai3(m:List (Tr E2)):vo->V2->Option (List gr×List (Nat×Nat)×List Bool)|.c x,.c y=>x.arg m true y|.agg l,.agg cs=>CH m l cs|_,_=>none
def FP(m:List (Tr E2)):List vo->List V2->Option (List gr×List (Nat×Nat)×List Bool)
 |[],[]=>some ([],[],[])|p::ps,x::xs=>match p.ai3 m x,FP m ps xs with|some (d,k,b),some (ds,ks,bs)=>some (d++ds,k++ks,b++bs)|_,_=>none
 |_,_=>none
def abM(E:ai)(s:S2)(f:Nat)(args:List V2)(K:iA->Option α):Option α:=cA (E.tI f) λc=>match !Nat.beq c.rk 65535with
 |true=>cA (FP s.mem c.args args) λ(ds,ks,bs)=>cA (pack c.ta ds) λx=>vP bs<|Option.bind (c.F x) λy=>match oA c.res (unpack c.tr y)with|some (vs,[])=>cA (qP vs) λv=>K (.cu {val:=v,dD:=lH ks,cT:=[],rd:=args.flatMap HC})|_=>none
 |false=>none
def yU(m:List (Tr E2)):List iB->List Cell->Option (List gr×List Bool)
 |[],[]=>some ([],[])|c::cs,x::xs=>match c.arg m false x,yU m cs xs with|some (d,[],b),some (ds,bs)=>some (d++ds,b++bs)|_,_=>none
 |_,_=>none
def vo.ai4(m:List (Tr E2)):vo->V2->Option (List gr×List Bool)
 |.c x,.c y=>match x.arg m false y with|some (d,[],b)=>some (d,b)|_=>none
 |.agg l,.agg cs=>yU m l cs|_,_=>none
def FQ(m:List (Tr E2)):List vo->List V2->Option (List gr×List Bool)
 |[],[]=>some ([],[])|p::ps,x::xs=>match p.ai4 m x,FQ m ps xs with|some (d,b),some (ds,bs)=>some (d++ds,b++bs)|_,_=>none
 |_,_=>none
def abN(E:ai)(s:S2)(f:Nat)(args:List V2)(K:iA->Option α):Option α:=cA (E.tI f) λc=>match !Nat.beq c.rk 65535with
 |true=>cA (FQ s.mem c.args args) λ(ds,bs)=>cA (pack c.ta ds) λx=>vP bs<|Option.bind (c.F x) λy=>match oA c.res (unpack c.tr y)with|some (vs,[])=>cA (qP vs) λv=>K (.cu {val:=v,dD:=[],cT:=[],rd:=args.flatMap HC})|_=>none
 |false=>none
def JA(E:ai)(wk:Wk)(ctx:Nat)(s:S2)(row d nx f:Nat)(args:List V2)(K:iA->Option α):Option α:=match E.fns f with
 |some fn=>match fn.sh with|false=>S6 E s row d nx f args K|true=>match Nat.beq args.length fn.np&&args.all V2.abL with
  |false=>none|true=>let st:S2:={slots:=kU 0 args .lf,outer:=loose s.slots::s.outer,mem:=s.mem++[.lf],aO:=s.aO,nv:=nx};let back:S2->Option α:=λs'=>match s'.outer with
    |o::os=>FN s' fn.res λvs=>match Nat.beq row 0with|true=>cA (An s'.mem s.mem.length vs) λvs=>cA (qP vs) λv=>K (.all v {slots:=merge s.slots o,outer:=os,mem:=s'.mem.take s.mem.length,aO:=s'.aO,nv:=s'.nv})|false=>match !Nat.beq (row%65536) 0&&!Nat.beq (row/65536) 0,CJ s'.mem s.mem.length (row%65536) (s.mem.length-1) d s'.nv (E.Oq ctx d) 1 vs with
     |true,some (vs,[u])=>match Nat.beq (row/65536) u.t.size with|true=>cA (qP vs) λv=>K (.all v {slots:=merge s.slots o,outer:=os,mem:=gG (s'.mem.take s.mem.length) [(s.mem.length-1,d,some (.row s'.nv u.t u.l))],aO:=s'.aO,nv:=s'.nv+1})|false=>none
     |true,some (vs,[])=>cA (qP vs) λv=>K (.all v {slots:=merge s.slots o,outer:=os,mem:=s'.mem.take s.mem.length,aO:=s'.aO,nv:=s'.nv+1})|_,_=>none
    |[]=>none;match E.S3 ctx d with
   |none=>wk α (abK ctx d) 0 fn.body st λax s'=>match ax with|.exit _=>none|_=>back s'
   |some os=>Option.bind (wk (p9 os).den (abK ctx d) 0 fn.body st λax s'=>match ax with|.exit _=>none|_=>oB os .ret s') λy=>qQ os y λ_ s'=>back s'
 |none=>S6 E s row d nx f args K
def S7(E:ai)(s:S2)(f:Nat)(args:List V2)(K:iA->Option α):Option α:=cA (E.tI f) λc=>match Bv c.res&&!Nat.beq c.rk 65535with
 |true=>cA (yT s.mem c.args args) λ(ds,bs)=>cA (pack c.ta ds) λx=>vP bs<|Option.bind (c.F x) λy=>match oA c.res (unpack c.tr y)with|some (vs,[])=>cA (qP vs) λv=>K (.cu {val:=v,dD:=[],cT:=[],rd:=args.flatMap (Am s.mem)})|_=>none
 |false=>none
def dn(E:ai)(wk:Wk)(ctx:Nat)(s:S2)(row dst aZ:Nat)(op:cy)(K:iA->Option α):Option α:=match op with
 |.IV x=>cA (jV s x) λv=>match Nat.beq (row%65536) 6&&v.ou with
  |true=>match v with|.c (.ref lv sl av t)=>cA (rowOf s.mem lv sl av) λr=>cA (j9 r.t t r.l) λl=>K (.cu {val:=.c (.ref (s.mem.length-1) dst aZ t),dD:=[(lv,sl,none),(s.mem.length-1,dst,some (.row aZ t l))],cT:=[],rd:=[cF lv sl]})|_=>none
  |false=>match Sl row with|false=>K (lG v)|true=>match v with
   |.c (.nil true)=>cA (E.Oq ctx dst) λt=>match Nat.beq t.size (row/65536)with|true=>K (.cu {val:=.c (.ref (s.mem.length-1) dst aZ t),dD:=[(s.mem.length-1,dst,some (.row aZ t []))],cT:=[],rd:=[]})|false=>none
   |.c (.nil _)=>none|.c (.sl ..)=>none|v=>K (lG v)
 |.pick c a b=>xI (jV s c) λt=>match jV s a,jV s b with|some (.c (.bool x)),some (.c (.bool y))=>K (eG (.bool (cond t x y)))|some x,some y=>cond t (K (lG x)) (K (lG y))|some x,none=>aH t (K (lG x))|none,some y=>aH (!t) (K (lG y))|none,none=>none
 |.alloc z=>cA (Cy z) λcs=>K (.cu {val:=.c (.ptr (s.mem.length-1) dst aZ 0 0),dD:=[(s.mem.length-1,dst,some (.box aZ cs))],cT:=[],rd:=[]})|.box x=>cA ((jV s x).bind V2.cells?) λcs=>match Nat.beq row 14with|true=>K (.cu {val:=.c (.ptr (s.mem.length-2) (1048576+dst) aZ 0 0),dD:=[(s.mem.length-2,1048576+dst,some (.box aZ cs))],cT:=[],rd:=[]})|false=>K (.cu {val:=.c (.ptr (s.mem.length-1) dst aZ 0 0),dD:=[(s.mem.length-1,dst,some (.box aZ cs))],cT:=[],rd:=[]})
 |.build z ps=>cA ((Cy z).bind λcs=>FI s cs ps) λcs=>K (lG (.agg cs))|.buildSlice sz n z ps=>match Nat.beq row 2with
  |true=>match Nat.beq n 0with|true=>none|false=>cA ((tG z).bind λzc=>FI s (List.replicate n zc).flatten (ps.map λp=>(p.1*sz,sz,p.2))) λcs=>K (.cu {val:=.c (.fX (s.mem.length-1) dst aZ 0 n sz),dD:=[(s.mem.length-1,dst,some (.box aZ cs))],cT:=[],rd:=[]})
  |false=>cA (E.Oq ctx dst) λt=>cA (tG z) λzc=>cA (CC s sz (List.replicate n zc) ps) λ(els,ks)=>match Nat.beq t.size sz,CD t els with
  |true,some l=>match Nat.beq row 0with|true=>K (.cu {val:=.c (.sl t l .full),dD:=lH ks,cT:=[],rd:=jx ks})|false=>match CF ks (s.mem.length-1) dst with|true=>none|false=>K (.cu {val:=.c (.ref (s.mem.length-1) dst aZ t),dD:=lH ks++[(s.mem.length-1,dst,some (.row aZ t l))],cT:=[],rd:=jx ks})
  |_,_=>none
 |.load sz agg x=>jE (jV s x) λp=>On s.mem sz p λcs=>cA (CA agg cs) λv=>K (.cu {val:=v,dD:=[],cT:=[],rd:=tH p})|.store sz x v=>jE (jV s x) λp=>cA ((jV s v).bind V2.cells?) λnew=>Mx s.mem sz p new K|.nilCheck x=>cA (jV s x) λv=>match v with|.c (.ptr lv sl av i off)=>K (eG (.ptr lv sl av i off))|.c (.gw t e off)=>K (eG (.gw t e off))|.fL f cs=>K (lG (.fL f cs))|_=>none
 |.bin op x y=>jE (jV s x) λa=>jE (jV s y) λb=>adX op a b λc=>K (eG c)|.Y7 neg x y=>xI (jV s x) λa=>xI (jV s y) λb=>K (eG (.bool (match neg with|true=>!(a==b)|false=>a==b)))|.zN neg x=>match jV s x with
  |some (.c (.er b))=>match neg with|true=>K (eG (.bool b))|false=>K (eG (.bool (!b)))
  |_=>none
 |.sZ lo n sz x=>match jV s x with
  |some (.c (.ptr lv sl av i off))=>match Nat.beq i 0&&Nat.blt lo n with|true=>K (eG (.fX lv sl av (off+lo*sz) (n-lo) sz))|false=>none
  |_=>none
 |.Y8 neg sz cells x y=>match jV s x,jV s y with
  |some (.agg xs),some (.agg ys)=>match Nat.beq xs.length sz&&Nat.beq ys.length sz,HF xs ys cells with|true,some b=>K (eG (.bool (match neg with|true=>!b|false=>b)))|_,_=>none
  |_,_=>none
 |.un op x=>jE (jV s x) λa=>unK op a λc=>K (eG c)|.conv k x=>P7 (jV s x) λn=>K (eG (.int k (k.wrap n)))|.field off sz agg x=>match jV s x with
  |some (.agg cs)=>match Nat.ble (off+sz) cs.length,CA agg ((cs.drop off).take sz)with|true,some v=>K (lG v)|_,_=>none
  |_=>none
 |.fieldAddr off x=>match jV s x with|some (.c (.ptr lv sl av i o))=>K (eG (.ptr lv sl av i (o+off)))|some (.c (.gw t e o))=>K (eG (.gw t e (o+off)))|_=>none
 |.indexAddr sz x i=>P7 (jV s i) λn=>match jV s x with
  |some (.c (.sl t l _))=>match Nat.beq t.size sz with|true=>Option.bind (idx l n) λe=>K (eG (.gw t e 0))|false=>none
  |some (.c (.ref lv sl av t))=>match Nat.beq t.size sz with|true=>cA (rowOf s.mem lv sl av) λr=>aH (fM n r.l.length) (K (eG (.ptr lv sl av n.toNat 0)))|false=>none
  |some (.c (.ku lv sl av t off len))=>match Nat.beq t.size sz with|true=>aH (fM n len) (K (eG (.ptr lv sl av (off+n.toNat) 0)))|false=>none
  |_=>none
 |.ld n sz x i=>HE (jV s i) λk=>match jV s x with|some (.c (.ptr lv sl av j o))=>P6 n k λk=>K (eG (.ptr lv sl av j (o+k*sz)))|some (.c (.gw t e o))=>P6 n k λk=>K (eG (.gw t e (o+k*sz)))|_=>none
 |.rG n sz agg x i=>HE (jV s i) λk=>match jV s x with
  |some (.agg cs)=>P6 n k λk=>match Nat.ble (k*sz+sz) cs.length,CA agg ((cs.drop (k*sz)).take sz)with|true,some v=>K (lG v)|_,_=>none
  |_=>none
 |.rH x i=>P7 (jV s i) λn=>match jV s x with|some (.c (.str b))=>Option.bind (idx b n) λc=>K (eG (.int .u8 c.toNat))|_=>none
 |.slice sz x lo hi mx=>jE (jV s x) λc=>vO lo s λl=>vO hi s λh=>vO mx s λk=>match Nat.beq row 3&&(mx.isNone&&c.ou)with|true=>adY s.mem sz aZ c l h K|false=>My s.mem sz c l h k λv=>K (eG v)
 |.rI x lo hi=>match jV s x with|some (.c (.str b))=>vO lo s λlo=>vO hi s λhi=>aH (oh b.length lo hi) (K (eG (.str (p8 b lo hi))))|_=>none
 |.extract x i=>match jV s x with
  |some (.jU vs)=>match vs[i]?with|some (a,cs)=>cA (CA a cs) λv=>K (lG v)|none=>none
  |_=>none
 |.len x=>jE (jV s x) λc=>match c with|.sl _ l _=>K (eG (.int .i64 l.length))|.nil _=>K (eG (.int .i64 0))|.ref lv sl av _=>cA (rowOf s.mem lv sl av) λr=>K (eG (.int .i64 r.l.length))|.ku _ _ _ _ _ len=>K (eG (.int .i64 len))|_=>none
 |.IW x=>jE (jV s x) λc=>match c with|.nil true=>K (eG (.int .i64 0))|.sl _ l .full=>K (eG (.int .i64 l.length))|_=>none
 |.GO x=>match jV s x with|some (.c (.str b))=>K (eG (.int .i64 b.length))|_=>none
 |.EC n=>K (eG (.int .i64 n))|.s2b x=>match jV s x with|some (.c (.str b))=>K (eG (.sl (.int .u8) (bP b) .d))|_=>none
 |.b2s x=>jE (jV s x) λc=>match c with|.str _=>none|c=>p6 s.mem c (some (.int .u8)) λn=>cA (j9 n.t (.int .u8) n.l) λl=>K (.cu {val:=.c (.str (l.map λn=>UInt8.ofNat n.toNat)),dD:=[],cT:=[],rd:=tH c})
 |.mkSet=>K (.cu {val:=.c (.mp (s.mem.length-1) dst aZ),dD:=[(s.mem.length-1,dst,some (.set aZ []))],cT:=[],rd:=[]})|.IX m k=>match jV s m,jV s k with|some (.c (.mp lv sl av)),some (.c (.str b))=>cA (Om s.mem lv sl av) λl=>K (.cu {val:=.c (.bool (hasB l b)),dD:=[],cT:=[],rd:=[cF lv sl]})|_,_=>none
 |.IY m k=>match jV s m,jV s k with|some (.c (.mp lv sl av)),some (.c (.str b))=>cA (Om s.mem lv sl av) λl=>K (.cu {val:=.jU [],dD:=[(lv,sl,some (.set av (tc l b)))],cT:=[],rd:=[cF lv sl]})|_,_=>none
 |.GP x y=>match jV s x,jV s y with
  |some (.c (.int k a)),some (.c (.int k' b))=>match decEq k k' with|.isTrue _=>K (eG (.int k (min a b)))|.isFalse _=>none
  |_,_=>none
 |.GQ x y=>match jV s x,jV s y with
  |some (.c (.int k a)),some (.c (.int k' b))=>match decEq k k' with|.isTrue _=>K (eG (.int k (max a b)))|.isFalse _=>none
  |_,_=>none
 |.append sz bytes x y=>jE (jV s x) λa=>jE (jV s y) λb=>P8 s (!Nat.beq row 0) (vu row (s.mem.length-1) dst).1 (vu row (s.mem.length-1) dst).2 aZ sz bytes a b (E.Oq ctx dst) K|.clone sz bytes x=>jE (jV s x) λb=>match b with|.str _=>none|b=>P8 s (!Nat.beq row 0) (s.mem.length-1) dst aZ sz bytes (.nil true) b (E.Oq ctx dst) K
 |.copy sz x y=>jE (jV s x) λa=>jE (jV s y) λb=>match a with
  |.ref lv sl av t=>cA (rowOf s.mem lv sl av) λr=>p6 s.mem b (some t) λn=>match Nat.beq t.size sz,j9 r.t t r.l,j9 n.t t n.l with|true,some l,some news=>K (.cu {val:=.c (.int .i64 ((min news.length l.length:Nat):Int)),dD:=[(lv,sl,some (.row av t (CB news l)))],cT:=[],rd:=cF lv sl::tH b})|_,_,_=>none
  |.ku lv sl av t off len=>cA (rowOf s.mem lv sl av) λr=>p6 s.mem b (some t) λn=>match Nat.beq t.size sz,j9 r.t t r.l,j9 n.t t n.l with|true,some l,some news=>aH (decide (off+len<=l.length)) (K (.cu {val:=.c (.int .i64 ((min news.length len:Nat):Int)),dD:=[(lv,sl,some (.row av t (l.take off++(news.take (min news.length len)++l.drop (off+(news.take (min news.length len)).length)))))],cT:=[],rd:=cF lv sl::tH b}))|_,_,_=>none
  |.fX lv sl av off n sz'=>match j5 s.mem lv sl with
   |some (.box v cs)=>p6 s.mem b none λnw=>match Nat.beq v av&&Nat.beq sz' sz&&Nat.ble (off+n*sz) cs.length&&Nat.beq nw.t.size sz with|true=>K (.cu {val:=.c (.int .i64 ((min nw.l.length n:Nat):Int)),dD:=[(lv,sl,some (.box av (bS.splice cs off ((nw.l.take (min nw.l.length n)).flatMap (jD nw.t)))))],cT:=[],rd:=cF lv sl::tH b})|false=>none
   |_=>none
  |_=>none
 |.pU sz bytes z x n=>jE (jV s x) λa=>HE (jV s n) λk=>cA (E.Oq ctx dst) λt=>cA ((tG z).bind (Ak t)) λz'=>match Nat.beq t.size sz&&Nat.beq z.length sz with|true=>aH (room k bytes) (P8 s (!Nat.beq row 0) (s.mem.length-1) dst aZ sz bytes a (.sl t (List.replicate k z') .d) (some t) K)|false=>none
 |.makeSlice sz bytes z l c=>HE (jV s l) λl=>HE (jV s c) λc=>cA (E.Oq ctx dst) λt=>cA ((tG z).bind (Ak t)) λz'=>match Nat.beq t.size sz&&Nat.beq z.length sz with|true=>aH (decide (l<=c)&&room c bytes) (K (.cu {val:=.c (.ref (s.mem.length-1) dst aZ t),dD:=[(s.mem.length-1,dst,some (.row aZ t (List.replicate l z')))],cT:=[],rd:=[]}))|false=>none
 |.sliceB n sz x=>jE (jV s x) λc=>match c with
  |.ptr lv sl av i off=>match Nat.beq i 0with|true=>K (eG (.fX lv sl av off n sz))|false=>none
  |_=>none
 |.makeFunc f cap=>cA ((HD s cap).bind CE) λcs=>K (lG (.fL f cs))|.clear sz z x=>jE (jV s x) λa=>match a with
  |.ref lv sl av t=>cA (rowOf s.mem lv sl av) λr=>cA ((tG z).bind (Ak t)) λz'=>match Nat.beq t.size sz&&Nat.beq z.length sz,j9 r.t t r.l with|true,some l=>K (.cu {val:=.jU [],dD:=[(lv,sl,some (.row av t (List.replicate l.length z')))],cT:=[],rd:=[cF lv sl]})|_,_=>none
  |.ku lv sl av t off len=>cA (rowOf s.mem lv sl av) λr=>cA ((tG z).bind (Ak t)) λz'=>match Nat.beq t.size sz&&Nat.beq z.length sz,j9 r.t t r.l with|true,some l=>aH (decide (off+len<=l.length)) (K (.cu {val:=.jU [],dD:=[(lv,sl,some (.row av t (l.take off++List.replicate len z'++l.drop (off+len))))],cT:=[],rd:=[cF lv sl]}))|_,_=>none
  |_=>none
 |.compact x=>jE (jV s x) λa=>match a with
  |.nil true=>K (eG (.nil true))|.ref lv sl av t=>cA (rowOf s.mem lv sl av) λr=>match Nat.beq t.size 1,j9 r.t (.int .i64) r.l with|true,some l=>aH (decide (l.length<4611686018427387904)) (K (.cu {val:=.c (.ref lv sl aZ (.int .i64)),dD:=[(lv,sl,some (.row aZ (.int .i64) (j8 l)))],cT:=[],rd:=[cF lv sl]}))|_,_=>none
  |_=>none
 |.sort x=>jE (jV s x) λa=>match a with
  |.nil true=>K (.cu {val:=.jU [],dD:=[],cT:=[],rd:=[]})|.ref lv sl av t=>cA (rowOf s.mem lv sl av) λr=>match Nat.beq t.size 1,j9 r.t (.int .i64) r.l with|true,some l=>aH (decide (l.length<4611686018427387904)) (K (.cu {val:=.jU [],dD:=[(lv,sl,some (.row av (.int .i64) (j7 l)))],cT:=[],rd:=[cF lv sl]}))|_,_=>none
  |_=>none
 |.grow sz x n=>jE (jV s x) λa=>HE (jV s n) λ_=>match a,E.Oq ctx dst with
  |.nil true,some t=>match Nat.beq t.size sz with|true=>K (.cu {val:=.c (.sl t [] (.app aZ)),dD:=[],cT:=[(aZ,true)],rd:=[]})|false=>none
  |_,_=>none
 |.call f args=>match Nat.beq row 7,Nat.beq row 8,Nat.beq row 9,Nat.beq row 10with|false,false,false,false=>cA (HD s args) λaU=>JA E wk ctx s row dst aZ f aU K|false,false,true,_=>cA (HD s args) λaU=>abM E s f aU K|false,false,false,true=>cA (HD s args) λaU=>abN E s f aU K|_,_,_,_=>none
 |.wP f args=>cA (HD s args) λaU=>match E.sh f with|true=>JA E wk ctx s row dst aZ f aU K|false=>S7 E s f aU K
 |.zO x args=>match jV s x with|some (.fL f cap)=>cA (HD s args) λaU=>JA E wk ctx s row dst aZ f (aU++cap.map .c) K|_=>none
 |_=>none
def Ot(E:ai)(wk:Wk)(ctx:Nat)(s:S2)(aZ:Nat)(o:bG)(K:S2->iA->Option α):Option α:=match o.gd with|none=>dn E wk ctx s o.row (o.dst.getD 0) aZ o.op (K s)|some (g,b)=>match s.slots.get? g with|some (.c (.bool t))=>cond t (let s':={s with slots:=s.slots.set g (some (.c (.bool true)))};match b with|true=>dn E wk ctx s' o.row (o.dst.getD 0) aZ o.op (K s')|false=>K s' (lG (.jU []))) (let s':={s with slots:=s.slots.set g (some (.c (.bool false)))};match b with|true=>K s' (lG (.jU []))|false=>dn E wk ctx s' o.row (o.dst.getD 0) aZ o.op (K s'))|some (.jU _)=>K s (lG (.jU []))|_=>none
def Bw(E:ai)(wk:Wk)(ctx:Nat):Nat->List bG->S2->(S2->Option α)->Option α|_,[],s,K=>K s|nx,o::r,s,K=>Ot E wk ctx s nx o λs e=>match e with|.cu e=>Bw E wk ctx (nx+1) r (s.app o.dst (.cu e)) K|.all v s'=>Bw E wk ctx s'.nv r {s'.app o.dst (.all v s')with nv:=s'.nv+r.length} K
def keq(a b:Nat×Nat×Nat):Bool:=Nat.beq a.1 b.1&&Nat.beq a.2.1 b.2.1&&Nat.beq a.2.2 b.2.2
def yV(a b:List (Nat×Nat×Nat)):Bool:=a.any λk=>b.any (keq k)
def qR:iA->Bool|.cu e=>!(e.rd.isEmpty&&e.dD.isEmpty&&e.cT.isEmpty)|.all ..=>true
def yW:iA->iA->Bool|.cu a,.cu b=>yV a.rd b.wr||yV a.wr b.rd||yV a.wr b.wr|a,b=>qR a&&qR b
def HI(oW:Nat)(e:iA):List (Nat×iA)->Bool|[]=>true|(i,x)::r=>(oW.testBit i||!yW x e)&&HI oW e r
def Ao(l:List (Nat×iA)):List (Nat×iA):=l.map λx=>(x.1,match qR x.2with|true=>.all (.jU []) default|false=>x.2)
def Bx(E:ai)(wk:Wk)(ctx:Nat):Nat->Nat->List bG->List (Nat×iA)->S2->(S2->Option α)->Option α|_,_,[],_,s,K=>K s|i,nx,o::r,eH,s,K=>Ot E wk ctx s nx o λs e=>match HI o.oW e eH with
 |true=>match e with|.cu e=>Bx E wk ctx (i+1) (nx+1) r ((i,.cu e)::eH) (s.app o.dst (.cu e)) K|.all v s'=>Bx E wk ctx (i+1) s'.nv r ((i,.all (.jU []) default)::Ao eH) {s'.app o.dst (.all v s')with nv:=s'.nv+r.length} K
 |false=>none
def vQ:AC->Nat|.seq a b=>vQ a+vQ b|.cond _ a b=>vQ a+vQ b+1|.block _ c=>vQ c+1|.loop c=>vQ c+1|.region ..=>1|_=>0
end
def ZJ{α:Type}(E:ai)(wk:Wk)(ctx:Nat)(ops:List bG)(draw:Bool)(s:S2)(K:S2->Option α):Option α:=match draw with|false=>Bw E wk ctx s.nv ops {s with nv:=s.nv+ops.length} K|true=>Bx E wk ctx 0 s.nv ops [] {s with nv:=s.nv+ops.length} K
def S8(sh:Nat->Bool):cy->Bool|.IV _|.pick ..|.nilCheck _|.bin ..|.Y7 ..|.Y8 ..|.un ..|.conv ..|.field ..|.fieldAddr ..|.indexAddr ..|.ld ..|.rG ..|.rH ..|.load ..|.slice ..|.rI ..|.extract ..|.len _|.GO _|.EC _|.GP ..|.GQ ..=>true|.wP f _=>!sh f|_=>false
def FR(sh:Nat->Bool)(o:bG):Bool:=Nat.beq o.row 0&&S8 sh o.op
def tK(sh:Nat->Bool):AC->Bool|.skip=>true|.region ops _=>ops.all (FR sh)|.seq a b=>tK sh a&&tK sh b|.cond _ a b=>tK sh a&&tK sh b|_=>false
def qS:AC->List Nat|.region ops _=>ops.flatMap λo=>o.dst.toList|.seq a b=>qS a++qS b|.cond _ a b=>qS a++qS b|_=>[]
def JB:List Nat->Tr V2->Tr V2|[],t=>t|n::r,t=>JB r (t.set n none)
def HJ(t:Ty)(c:Cell):Option t.den:=match t,c with
 |.int k,.int k' a=>match decEq k k' with|.isTrue _=>some a|.isFalse _=>none
 |.bool,.bool b=>some b|.str,.str s=>some s|_,_=>none
def MB:(t:Ty)->t.den->Option Cell|.int k,a=>some (.int k a)|.bool,b=>some (.bool b)|.str,s=>some (.str s)|_,_=>none
def JC(t:Ty)(n:Nat)(ax:AX)(s:S2):Option t.den:=match ax with
 |.normal=>match s.slots.get? n with|some (.c c)=>HJ t c|_=>none
 |_=>none
def vR(s:S2)(c:cq)(b:Bool):S2:=match c with|.t n=>{s with slots:=s.slots.set n (some (.c (.bool b)))}|.c _=>s
def ai5(i:Nat):Nat:=match Nat.blt i 100000with|true=>i+100000|false=>i
def ai6(o:Option (List gr))(i:Nat):Nat:=match o with|some _=>i|none=>i+200000
def walk(E:ai):Nat->Wk|0=>λ_ _ _ _ _ _=>none|n+1=>λα ctx i c s K=>match c with
 |.skip=>K .normal s|.region ops draw=>match E.Mz ctx i with
  |some m=>match ops.all (FR E.sh)with|true=>Option.bind (ZJ E (walk E n) ctx ops draw s (JC m.2 m.1 .normal)) λy=>cA (MB m.2 y) λy=>K .normal {s with slots:=(JB (qS (.region ops draw)) s.slots).set m.1 (some (.c y))}|false=>none
  |none=>match E.Jz ctx i with|none=>ZJ E (walk E n) ctx ops draw s λs'=>K .normal s'|some os=>Option.bind (ZJ E (walk E n) ctx ops draw s (oB os .normal)) λy=>qQ os y K
 |.seq a b=>walk E n α ctx i a s λax s'=>match ax with|.normal=>walk E n α ctx (i+vQ a) b s' K|ax=>K ax s'
 |.cond c a b=>match E.Mz ctx i with
  |some m=>match tK E.sh a&&tK E.sh b with|true=>Option.bind (xI (jV s c) λt=>cond t (walk E n m.2.den ctx (i+1) a (vR s c true) (JC m.2 m.1)) (walk E n m.2.den ctx (i+1+vQ a) b (vR s c false) (JC m.2 m.1))) λy=>cA (MB m.2 y) λy=>K .normal {s with slots:=(JB (qS a++qS b) s.slots).set m.1 (some (.c y))}|false=>none
  |none=>match E.Jz ctx i with|none=>xI (jV s c) λt=>cond t (walk E n α ctx (i+1) a (vR s c true) K) (walk E n α ctx (i+1+vQ a) b (vR s c false) K)|some os=>Option.bind (xI (jV s c) λt=>cond t (walk E n (p9 os).den ctx (i+1) a (vR s c true) (oB os)) (walk E n (p9 os).den ctx (i+1+vQ a) b (vR s c false) (oB os))) λy=>qQ os y K
 |.block id c=>match E.Jz ctx i with
  |none=>walk E n α ctx (i+1) c s λax s'=>match ax with
   |.exit id'=>match Nat.beq id' id with|true=>K .normal s'|false=>K (.exit id') s'
   |ax=>K ax s'
  |some os=>Option.bind (walk E n (p9 os).den ctx (i+1) c s λax s'=>match ax with
   |.exit id'=>match Nat.beq id' id with|true=>oB os .normal s'|false=>oB os (.exit id') s'
   |ax=>oB os ax s') λy=>qQ os y K
 |.loop c=>match E.unr ctx i with
  |true=>walk E n α ctx (i+1) c s λax s'=>match ax with|.normal=>walk E n α ctx (ai5 i) (.loop c) s' K|ax=>K ax s'
  |false=>cA (E.loops ctx (ai6 ((E.loops ctx i c).bind λL=>L.T.get s) i) c) λL=>cA (L.T.get s) λds=>cA (pack L.T.tys ds) λx=>Option.bind (L.F x) λy=>qQ L.outs y K
 |.exit id=>K (.exit id) s|.ret=>K .ret s
def CK(E:ai)(N ctx i:Nat)(body:AC)(T:aX)(outs:aW)(rec:(sL T.tys).den->Option (p9 outs).den)(x:(sL T.tys).den):Option (p9 outs).den:=cA (T.st (unpack T.tys x)) λs=>walk E N (p9 outs).den ctx (i+1) body s λax s'=>match ax with|.normal=>cA (T.get s') λds=>cA (pack T.tys ds) λy=>rec y|ax=>oB outs ax s'
def Ou{α β:Type}(step:(α->Option β)->α->Option β):Nat->α->Option β|0,_=>none|n+1,x=>step (Ou step n) x
def abO(E:ai)(N:Nat)(f:Nat)(args:List vo)(ta:List Ty)(res:List (Bool×List iB))(tr:List Ty)(rk:Nat)(x:(sL ta).den):Option (sL tr).den:=cA (E.fns f) λfn=>match eo args (unpack ta x)with
 |some (vs,[])=>match Nat.beq vs.length fn.np with
  |true=>walk E N _ 0 0 fn.body {slots:=kU 0 vs .lf,outer:=[],mem:=[.lf],aO:=.lf,nv:=0} λax s=>match ax with|.exit _=>none|_=>FN s fn.res λvs=>match ad0 s.mem rk vs&&!Nat.beq rk 65535with|true=>cA (mK s.mem res vs) λds=>pack tr ds|false=>none
  |false=>none
 |_=>none
end Go.Sym
namespace Go.bS
open Go Go.RowKit
section
variable{P:Program}{X:Cx}{nt:NT}{s:St}{a:Act}
def FT(a:Act):ResultVar->Sem Value|.tmp t=>pure (a.tmps.getD t undef)|.cell c t=>do loadVar t (<-asAddr (a.tmps.getD c undef))
def ZK(hs:fQ X nt s a){rv:ResultVar}{ar:Bd}{v:AV}(hp:ads P rv=some ar)(hr:I2 s ar=some v):∃u,(FT a rv).run P X.w=.ok u X.w/\V1 X v u:=by cases rv with
 |tmp t=>
  cases hp;simp[I2]at hr;split at hr;.rename_i hn;cases hr;exact⟨_,rfl,V1.Ft hn (hs.slots t)⟩
  grind|cell c t=>
  simp[ads]at hp;split at hp
  .rename_i sz agg hsz th;split at hp;.rename_i h1;cases hp;obtain⟨cs,hcs,hw⟩:=bg hr;obtain⟨b,off,vs,hv,hc,h2,hlen⟩:=I4 hs.mem (hs.slots c) hcs;obtain⟨u,hrun,hV⟩:=BY (P:=P) hsz th h1 hc h2 hlen hw;exact⟨u,by simp only[FT,hv];simp[asAddr,hrun],hV⟩
   grind
  grind
def yX(hs:fQ X nt s a):∀{l:List ResultVar}{rs:List Bd}{vs:List AV},E8 P l=some rs->kg s rs=some vs->∃us,(l.mapM (FT a)).run P X.w=.ok us X.w/\aI (V1 X) vs us
 |[],rs,vs,hp,hr=>by simp_all[kg,E8,V1,aI,FT]|rv::r,rs,vs,hp,hr=>by
  simp[E8]at hp;split at hp
  .rename_i y ys h1 h2;cases hp;simp[kg]at hr;split at hr;.rename_i v vs' h3 h4;cases hr;obtain⟨u,g1,g2⟩:=ZK hs h1 h3;obtain⟨us,g3,g4⟩:=yX hs h2 h4;refine⟨u::us,?_,g2,g4⟩<;>simp_all
   grind
  grind
def rX:∀(l:List AV)(i:Nat)(t:Tr AV)(k:Nat),dL (ep i l t) k=if h:i<=k/\k<i+l.length then l[k-i]'(by omega)else dL t k
 |[],i,t,k=>by grind[ep,dL]|x::r,i,t,k=>by
  rw[ep,rX r (i+1)];by_cases h1:i+1<=k/\k<i+1+r.length;.grind
  .rw[zt h1];by_cases h2:k=i;.subst h2;simp[dL,Tr.cD]
   .rw[zt (by simp;omega)];unfold dL;rw[Tr.cD,bi (pD h2)]
def Ov{args:List AV}{cU:Array Value}(h:aI (V1 X) args cU.toList)(n:Nat)(t:Nat):VR X (dL (ep 0 args .lf) t) ((cU++Array.replicate n undef).getD t undef):=by
 rw[rX];have hl:=h.length;simp at hl;by_cases ht:0<=t/\t<0+args.length
 .rw[dif_pos ht];obtain⟨b,hb,hr⟩:=h.get t args[t] (aw (by omega));have:(cU++Array.replicate n undef).getD t undef=b:=by rw[lh,sf (by omega)]<;>grind
  rw[this];exact .wV hr
 .rw[zt ht];have:(cU++Array.replicate n undef).getD t undef=undef:=by rw[lh,Array.getElem?_append_right (by omega),Array.getElem?_replicate]<;>grind
  rw[this];exact o7
def S9{vs:List AV}{us:List Value}(h:aI (V1 X) vs us):VR X (jq vs) (if h:us.toArray.size=1then us.toArray[0]else .tuple us.toArray):=by match vs,us,h with|[],[],_=>grind[V1,aI,jq,VR]|[v],[u],h=>exact .wV h.1|v::w::r,u::x::q,h=>grind[V1,aI,jq,VR]
def xK(call:Go.bS.Call)(Fs:Nat->Option rF)(n:Nat):Go.bS.Call:=λf args mem aO nv=>match Fs f with|none=>none|some fn=>match Nat.beq args.length fn.np with|false=>none|true=>match exec call (λg=>((Fs g).map (·.sh)).getD false) n fn.body {slots:=ep 0 args .lf,mem,aO,nv}with|some (.normal,s)|some (.ret,s)=>(kg s fn.res).map λvs=>(jq vs,s.mem,s.aO,s.nv)|_=>none
def CL{call:Go.bS.Call}(cP:eL P call){dF:Nat->Option TypeId}{md:Nat->Mode}{Fs:Nat->Option rF}(hm:P.follows .mixedOrders=true)(ic:∀f T,dF f=some T->kr P f T)(n:Nat){f:Nat}(EK:∀fn,Fs f=some fn->Pp P dF md f=some fn){args:List AV}{mem:List (Tr bM)}{aO:Tr Unit}{nv:Nat}{r:AV}{mem':List (Tr bM)}{p5:Tr Unit}{IK:Nat}(h:xK call Fs n f args mem aO nv=some (r,mem',p5,IK))(X:Cx)(cU:Array Value)(hmem:aM X mem aO)(hdom:∀v,nv<=v->X.ρ v=none)(hargs:aI (V1 X) args cU.toList):∃pf c,P.funcs[f]?=some pf/\pf.body=some c/\(pf.name== "runtime.NumGoroutine")=false/\c.wp P (bodyPost P pf (λe w'=>∃Y v,e=.returned v/\Y.w=w'/\Ext X Y/\VR Y r v/\aM Y mem' p5/\nv<=IK/\∀u L,Y.ρ u=some L->X.ρ u=some L\/(nv<=u/\u<IK))) {tmps:=cU++Array.replicate (pf.ntmps-cU.size) undef,defers:=[]} X.w:=by
  simp only[xK]at h;split at h;.cases h
  .rename_i fn hfn;split at h;.cases h
   .rename_i hnp;have hnp:=bb hnp;have hf:=EK fn hfn;unfold Pp at hf;split at hf;.cases hf
    .rename_i pf hpf;split at hf;.cases hf
     .rename_i c hbody;split at hf;.cases hf
      .rename_i hname;split at hf
       .rename_i b rs hc R3;simp only at hf;split at hf
        .rename_i hle;injection hf with hf;subst hf;refine⟨pf,c,hpf,hbody,by simpa using hname,?_⟩;have hlen:=hargs.length;simp only[ii]at hlen;simp only at hnp h;have start:fQ X ⟨pf.ntmps,[]⟩ {slots:=ep 0 args .lf,mem,aO,nv} {tmps:=cU++Array.replicate (pf.ntmps-cU.size) undef,defers:=[]}:=⟨λt=>Ov hargs _ t,by simp;omega,rfl,hmem⟩;have fin:∀(x:AX)(s:St),(kg s rs).map (λvs=>(jq vs,s.mem,s.aO,s.nv))=some (r,mem',p5,IK)->∀(Y:Cx)(a':Act),Ext X Y->fQ Y ⟨pf.ntmps,[]⟩ s a'->nv<=s.nv->(∀v L,Y.ρ v=some L->X.ρ v=some L\/(nv<=v/\v<s.nv))->a'.defers=[]/\∃v,(results pf a'.tmps).run P Y.w=.ok v Y.w/\∃Z u,Ending.returned v=.returned u/\Z.w=Y.w/\Ext X Z/\VR Z r u/\aM Z mem' p5/\nv<=IK/\∀u L,Z.ρ u=some L->X.ρ u=some L\/(nv<=u/\u<IK):=by
          intro x s hres Y a' hx hs' hn hd;obtain⟨vs,hvs,he⟩:=aV hres;simp only[fi]at he;obtain⟨rfl,rfl,rfl,rfl⟩:=he;obtain⟨us,g1,g2⟩:=yX hs' R3 hvs;refine⟨hs'.defers,_,?_,Y,_,rfl,rfl,hx,S9 g2,hs'.mem,hn,hd⟩;have e:results pf a'.tmps=(do let vs<-pf.results.mapM (FT a')pure (if h:vs.size=1then vs[0]else .tuple vs)):=by unfold results;congr 1
          rw[e,<-Array.toArray_toList (xs:=pf.results),List.mapM_toArray];simp[g1]
         split at h;.rename_i s he;refine(Bu (nt:=⟨pf.ntmps,[]⟩) hm cP ic n).1 c b X _ _ (.normal,s) _ hc he start hdom λY a' hx hs' hn hd=>?_;exact fin .normal s h Y a' hx hs' hn hd
         .rename_i s he;refine(Bu (nt:=⟨pf.ntmps,[]⟩) hm cP ic n).1 c b X _ _ (.ret,s) _ hc he start hdom λY a' hx hs' hn hd=>?_;exact fin .ret s h Y a' hx hs' hn hd
         .cases h
        .cases hf
       .cases hf
def Ta{call:Go.bS.Call}(cP:eL P call){dF:Nat->Option TypeId}{md:Nat->Mode}{Fs:Nat->Option rF}(hm:P.follows .mixedOrders=true)(ic:∀f T,dF f=some T->kr P f T)(EK:∀f fn,Fs f=some fn->Pp P dF md f=some fn)(n:Nat):eL P (xK call Fs n):=by intro f args mem aO nv r mem' p5 IK h X cU hmem hdom hargs;obtain⟨pf,c,h1,h2,h3,h4⟩:=CL cP hm ic n (EK f) h X cU hmem hdom hargs;exact⟨⟨pf,h1,by rw[h2];rfl,h3⟩,calls_of_wp h1 h2 h4⟩
def Ox{dF:Nat->Option TypeId}{md:Nat->Mode}{Fs:Nat->Option rF}(hm:P.follows .mixedOrders=true)(ic:∀f T,dF f=some T->kr P f T)(EK:∀f fn,Fs f=some fn->Pp P dF md f=some fn):∀n,eL P (Y9 Fs n)|0=>λ_ _ _ _ _ _ _ _ _ h=>by simp[Y9]at h|n+1=>Ta (Ox hm ic EK n) hm ic EK n
end
def cx0(w:World):Cx:={w,F:=λ_ _=>False,ρ:=λ_=>none,old:=λb=>b<w.heap.size}
def ZL(w:World)(hg:(∀b,LZ b->b<w.heap.size)/\gok w)(m:List (Tr bM))(hm:∀lv sl,aT m lv sl=none):aM (cx0 w) m .lf where
 gz lv sl e he:=by rw[hm]at he;cases he
 aO v hv:=by simp at hv
 apart k k' v v' L L' a b:=by
  rcases a with⟨_,_,_,_,he,_⟩|⟨_,he⟩;.rw[hm]at he;cases he
  .simp at he
 qI b o h:=h.elim;Bh:=⟨λ_ h=>h,hg.1,hg.2⟩
def yY(lv sl:Nat):aT [.lf] lv sl=none:=by unfold aT;cases lv<;>simp
def ad3{P:Program}{dF:Nat->Option TypeId}{md:Nat->Mode}{Fs:Nat->Option rF}{n f:Nat}(hm:P.follows .mixedOrders=true)(ic:∀f T,dF f=some T->kr P f T)(EK:∀f fn,Fs f=some fn->Pp P dF md f=some fn)(h:(Y9 Fs n f [] [.lf] .lf 0).map (·.1)=some (.d (.sc (.bool true))))(w:World)(hg:(∀b,LZ b->b<w.heap.size)/\gok w):Calls P f #[] w λe w'=>e=.returned (.bool true)/\Below w.heap.size w w':=by obtain⟨⟨r,m,t,v⟩,hr,he⟩:=aV h;obtain⟨_,hc⟩:=Ox hm ic EK n f [] [.lf] .lf 0 r m t v hr (cx0 w) #[] (ZL w hg _ yY) (λ_ _=>rfl) trivial;refine hc.mono ?_;rintro e w'⟨Y,u,rfl,rfl,hx,hv,_⟩;subst he;cases hv;exact⟨rfl,hx.below.toBelow⟩
def CM:List (Nat×rF)->Nat->Option rF|[],_=>none|(g,fn)::r,f=>match Nat.beq g f with|true=>some fn|false=>CM r f
inductive xL(P:Program)(dF:Nat->Option TypeId)(md:Nat->Mode):List (Nat×rF)->Prop where|nil:xL P dF md []|cons{g:Nat}{fn:rF}{r:List (Nat×rF)}:Pp P dF md g=some fn->xL P dF md r->xL P dF md ((g,fn)::r)
def Tc{P:Program}{dF:Nat->Option TypeId}{md:Nat->Mode}{l:List (Nat×rF)}(h:xL P dF md l):∀f fn,CM l f=some fn->Pp P dF md f=some fn:=by induction h with|nil=>intro f fn h;cases h|@cons g fn' r h1 _ ih=>intro f fn h;simp[CM]at h;split at h<;>simp_all
end Go.bS
namespace Go.bS
open Go
structure DFn where
 np:Nat
 nt:Nat
 pre:AC
 g:Nat
 caps:List Nat
 dst:Nat
 body:AC
 res:List Bd
 sh:Bool deriving Inhabited
def tmpsOf:List Operand->Option (List Nat)|[]=>some []|.tmp t::r=>(tmpsOf r).map (t::·)|_=>none
def MC:Code->Option (Code×Nat×List Nat×Nat×Code)
 |.seq r1 (.seq (.region _ ⟨[o1,o2]⟩ false) rest)=>match o1.op,o1.dst,o1.guard,o2.op,o2.dst,o2.guard with
  |.makeFunc (.func g) ⟨[]⟩ ⟨cap⟩,some d,none,.defer c,none,none=>match c.callee,c.args with
   |.value (.tmp d'),⟨[]⟩=>match Nat.beq d' d,tmpsOf cap with|true,some l=>some (r1,g,l,d,rest)|_,_=>none
   |_,_=>none
  |_,_,_,_,_,_=>none
 |_=>none
def Td(P:Program)(dF:Nat->Option TypeId)(md:Nat->Mode)(f:Nat):Option DFn:=match P.funcs[f]?with|none=>none|some fn=>match fn.body with|none=>none|some c=>if fn.name== "runtime.NumGoroutine"then none else match MC c,E8 P fn.results.toList with
 |some (r1,g,caps,d,rest),some rs=>match Sq P dF fn.ntmps (md f).rows r1,Sq P dF fn.ntmps (md f).rows rest with|some pre,some body=>if fn.params.size+fn.nfree<=fn.ntmps/\d<fn.ntmps then some {np:=fn.params.size+fn.nfree,nt:=fn.ntmps,pre,g,caps,dst:=d,body,res:=rs,sh:=(md f).sh}else none|_,_=>none
 |_,_=>none
def pz(id:Nat):AC->AC|.seq a b=>.seq (pz id a) (pz id b)|.cond c a b=>.cond c (pz id a) (pz id b)|.block i c=>.block i (pz id c)|.loop c=>.loop (pz id c)|.ret=>.exit id|c=>c
def sV(id:Nat):AC->Bool|.seq a b=>sV id a&&sV id b|.cond _ a b=>sV id a&&sV id b|.block i c=>!Nat.beq i id&&sV id c|.loop c=>sV id c|.exit i=>!Nat.beq i id|_=>true
def vp(t:Nat):AC->Bool
 |.region ops _=>ops.all λo=>match o.dst with|some d=>!Nat.beq d t|none=>true
 |.seq a b=>vp t a&&vp t b|.cond _ a b=>vp t a&&vp t b|.block _ c=>vp t c|.loop c=>vp t c|_=>true
def ZM:Nat:=1099511627776
def abP:AC->Bool|.region _ _=>true|_=>false
def mkD(d:DFn):rF:={np:=d.np,nt:=d.nt,res:=d.res,sh:=d.sh,body:=.seq d.pre (.seq (.region [⟨some d.dst,.makeFunc d.g (d.caps.map .t),none,0,0⟩] false) (.seq (.block ZM (pz ZM d.body)) (.region [⟨none,.zO (.t d.dst) [],none,0,0⟩] false)))}
def ad4(d:DFn):Bool:=abP d.pre&&sV ZM d.body&&vp d.dst d.body
def ai7(P:Program)(dF:Nat->Option TypeId)(md:Nat->Mode)(f:Nat):Option rF:=match Td P dF md f with|none=>none|some d=>match ad4 d,Pp P dF md d.g with
 |true,some g=>match g.sh&&g.res.isEmpty with|true=>some (mkD d)|false=>none
 |_,_=>none
def LS(P:Program)(dF:Nat->Option TypeId)(md:Nat->Mode)(f:Nat):Option rF:=match Pp P dF md f with|some x=>some x|none=>ai7 P dF md f
end Go.bS
namespace Go.bS
open Go Go.RowKit
section
variable{P:Program}{X:Cx}
def Ap:∀{l:List Operand}{ts:List Nat},tmpsOf l=some ts->jw l=some (ts.map .t)|[],ts,h=>by simp only[tmpsOf]at h;injection h with h;subst h;rfl|.tmp t::r,ts,h=>by simp only[tmpsOf]at h;obtain⟨ys,h1,rfl⟩:=aV h;simp only[jw,dA,Ap h1,gc]|.const _::_,_,h=>by simp[tmpsOf]at h|.global _::_,_,h=>by simp[tmpsOf]at h|.func _::_,_,h=>by simp[tmpsOf]at h
def I3.V1{x:AV}{v:Value}(h:I3 X x v):Go.bS.V1 X x v:=by cases x<;>first|exact h|exact h.elim
structure ai8(c r1 rest:Code)(g:Nat)(caps:List Nat)(d:Nat):Prop where code:∃id o1 o2 cap tI,c=.seq r1 (.seq (.region id #[o1,o2] false) rest)/\o1.op=.makeFunc (.func g) #[] cap/\o1.dst=some d/\o1.guard=none/\o2.op=.defer tI/\o2.dst=none/\o2.guard=none/\tI.callee=.value (.tmp d)/\tI.args=#[]/\jw cap.toList=some (caps.map .t)
def JD{c r1 rest:Code}{g d:Nat}{caps:List Nat}(h:MC c=some (r1,g,caps,d,rest)):ai8 c r1 rest g caps d:=by
 unfold MC at h;split at h;case h_2=>cases h
 rename_i r1' id o1 o2 rest';split at h;case h_2=>cases h
 rename_i g' cap d' tI h1 h2 h3 h4 h5 h6;split at h;case h_2=>cases h
 rename_i d'' h7 h8;split at h;case h_2=>cases h
 rename_i l hb hl;have hb:=bb hb;subst hb;simp only[fj,fi]at h;obtain⟨rfl,rfl,rfl,rfl,rfl⟩:=h;exact⟨⟨id,o1,o2,⟨cap⟩,tI,rfl,h1,h2,h3,h4,h5,h6,h7,h8,Ap hl⟩⟩
end
def JE(id:Nat):AX->AX|.ret=>.exit id|x=>x
section
variable{call:Go.bS.Call}{sh:Nat->Bool}{id:Nat}
def Te{a b:Nat}(h:Nat.beq a b=false):a≠b:=na h
def iC:∀(n:Nat)(c:AC)(s:St),sV id c=true->exec call sh n (pz id c) s=(exec call sh n c s).map λr=>(JE id r.1,r.2)
 |0,_,_,_=>rfl|n+1,.skip,s,_=>rfl|n+1,.region ops draw,s,_=>by simp[pz,exec];cases gA call sh ops draw s<;>rfl|n+1,.seq a b,s,h=>by simp[sV,ba]at h;simp[pz,exec,iC n a s h.1];cases exec call sh n a s with|none=>rfl|some r=>obtain⟨x,s'⟩:=r;cases x<;>simp[JE,iC n b s' h.2]
 |n+1,.cond c a b,s,h=>by simp[sV,ba]at h;simp only[pz,exec,iC n a s h.1,iC n b s h.2]<;>grind|n+1,.block i c,s,h=>by simp[sV,ba,fr]at h;simp[pz,exec,iC n c s h.2];cases exec call sh n c s with|none=>rfl|some r=>
  obtain⟨x,s'⟩:=r
  cases x with|normal=>rfl|ret=>
   have:Nat.beq id i=false:=by have:=Te h.1;cases hq:Nat.beq id i with|false=>rfl|true=>simp_all
   simp[JE,this]|exit j=>simp only[JE,cf]<;>grind
 |n+1,.loop c,s,h=>by simp[pz,exec,iC n c s h];cases exec call sh n c s with|none=>rfl|some r=>obtain⟨x,s'⟩:=r;cases x with|normal=>exact iC n (.loop c) s' h|ret=>rfl|exit j=>rfl
 |n+1,.exit i,s,h=>rfl|n+1,.ret,s,_=>rfl
def kV:∀(n:Nat)(c:AC)(s s':St),sV id c=true->exec call sh n c s=some (.exit id,s')->False
 |0,_,_,_,_,h=>by cases h|n+1,.skip,s,_,_,h=>by simp[exec]at h|n+1,.region ops draw,s,_,_,h=>by simp[exec]at h|n+1,.seq a b,s,s',h0,h=>by
  simp[sV,ba]at h0;simp[exec]at h;split at h;.exact kV n b _ _ h0.2 h
  .exact kV n a _ _ h0.1 h|n+1,.cond c a b,s,s',h0,h=>by
  simp[sV,ba]at h0;simp[exec]at h;split at h;.exact kV n a _ _ h0.1 h
  .exact kV n b _ _ h0.2 h
  grind|n+1,.block i c,s,s',h0,h=>by
  simp[sV,ba]at h0;simp[exec]at h;split at h
  .rename_i j s2 he;split at h;.simp at h
   .cases h;exact kV n c _ _ h0.2 he
  grind|n+1,.loop c,s,s',h0,h=>by
  have h1:=h0;simp[exec]at h;split at h;.exact kV n (.loop c) _ _ h1 h
  .exact kV n c _ _ h0 h|n+1,.exit i,s,s',h0,h=>by simp_all[exec,sV,Call]|n+1,.ret,s,_,_,h=>by simp[exec]at h
def JF{s:St}{dst:Option Nat}{e:ir}{t:Nat}(h:(match dst with|some d=>!Nat.beq d t|none=>true)=true):dL (s.app dst e).slots t=dL s.slots t:=by
 have:∀v,dL (oa s.slots dst v) t=dL s.slots t:=λv=>by cases dst with|none=>rfl|some d=>simp only[fr]at h;have:=Te h;simp[dL,oa,Tr.cD,this]
 cases e<;>exact this _
def JG{mG t:Nat}:∀{l:List bG}{i:Nat}{s s':St},(l.all λo=>match o.dst with|some d=>!Nat.beq d t|none=>true)=true->jz call sh mG i l s=some s'->dL s'.slots t=dL s.slots t
 |[],_,_,_,_,h=>by cases h;rfl|o::r,i,s,s',h0,h=>by
  simp only[fg,ba]at h0;simp[jz]at h;split at h;.cases h
  .rw[JG h0.2 h];exact JF h0.1
def JH{mG t:Nat}:∀{l:List bG}{i:Nat}{eH:List (Nat×ir)}{s s':St},(l.all λo=>match o.dst with|some d=>!Nat.beq d t|none=>true)=true->kf call sh mG i l eH s=some s'->dL s'.slots t=dL s.slots t
 |[],_,_,_,_,_,h=>by cases h;rfl|o::r,i,eH,s,s',h0,h=>by
  simp only[fg,ba]at h0;simp[kf]at h;split at h;.cases h
  .split at h;.rw[JH h0.2 h];exact JF h0.1
   grind
def gB{t:Nat}:∀(n:Nat)(c:AC)(s:St)(x:AX)(s':St),vp t c=true->exec call sh n c s=some (x,s')->dL s'.slots t=dL s.slots t
 |0,_,_,_,_,_,h=>by cases h|n+1,.skip,s,_,_,_,h=>by cases h;rfl|n+1,.region ops draw,s,x,s',h0,h=>by simp only[exec,f0]at h;obtain⟨s2,h1,h2⟩:=h;cases h2;cases draw with|false=>exact JG (s:={s with nv:=s.nv+ops.length}) h0 h1|true=>exact JH (s:={s with nv:=s.nv+ops.length}) h0 h1
 |n+1,.seq a b,s,x,s',h0,h=>by
  simp[vp,ba]at h0;simp[exec]at h;split at h;.rename_i s2 he;rw[gB n b _ _ _ h0.2 h,gB n a _ _ _ h0.1 he]
  .exact gB n a _ _ _ h0.1 h|n+1,.cond c a b,s,x,s',h0,h=>by
  simp[vp,ba]at h0;simp[exec]at h;split at h;.exact gB n a _ _ _ h0.1 h
  .exact gB n b _ _ _ h0.2 h
  grind|n+1,.block i c,s,x,s',h0,h=>by
  simp[exec]at h;split at h
  .rename_i j s2 he;split at h;.cases h;exact gB n c _ _ _ h0 he
   .cases h;exact gB n c _ _ _ h0 he
  .exact gB n c _ _ _ h0 h|n+1,.loop c,s,x,s',h0,h=>by
  have h1:=h0;simp[exec]at h;split at h;.rename_i s2 he;rw[gB n (.loop c) _ _ _ h1 h,gB n c _ _ _ h0 he]
  .exact gB n c _ _ _ h0 h|n+1,.exit i,s,x,s',_,h=>by cases h;rfl|n+1,.ret,s,x,s',_,h=>by cases h;rfl
end
section
variable{P:Program}{X:Cx}{call:Go.bS.Call}{sh:Nat->Bool}
def CN{n:Nat}{a b:AC}{s:St}{r:AX×St}(h:exec call sh n (.seq a b) s=some r):∃m,n=m+1/\((∃s1,exec call sh m a s=some (.normal,s1)/\exec call sh m b s1=some r)\/(exec call sh m a s=some r/\r.1≠.normal)):=by cases n with|zero=>cases h|succ m=>refine⟨m,rfl,?_⟩;simp only[exec]at h<;>grind
def HK{n:Nat}{c:AC}{s s2:St}(hc:sV ZM c=true)(h:exec call sh n (.block ZM (pz ZM c)) s=some (.normal,s2)):∃m ax,exec call sh m c s=some (ax,s2)/\(ax=.normal\/ax=.ret):=by cases n with|zero=>cases h|succ m=>simp[exec,iC m c s hc]at h;cases he:exec call sh m c s with|none=>grind|some r=>obtain⟨ax,s3⟩:=r;rw[he]at h;cases ax with|normal=>grind|ret=>grind|exit j=>
 simp[JE,cf]at h;split at h;.rename_i hb;cases bb hb;exact(kV m c s s3 hc he).elim
 grind
def P9{n:Nat}{c:AC}{s s2:St}(hc:sV ZM c=true):exec call sh n (.block ZM (pz ZM c)) s≠some (.ret,s2):=by intro h;cases n with|zero=>cases h|succ m=>simp[exec,iC m c s hc]at h;cases he:exec call sh m c s with|none=>grind|some r=>obtain⟨ax,s3⟩:=r;rw[he]at h;cases ax with|normal=>simp[JE]at h|ret=>simp[JE]at h|exit j=>simp only[JE,cf]at h<;>grind
end
end Go.bS
namespace Go.Sym
open Go Go.bS
abbrev bF:=Nat->Option Nat
def bB(t:Ty)(l:List t.den):List (List D):=l.map (fR t)
def RC(ρ:bF)(B:Nat)(m:List (Tr E2)):Cell->AV->Prop|.int k a,x=>x=.d (.sc (.int k a))|.bool b,x=>x=.d (.sc (.bool b))|.er b,x=>x=.d (match b with|true=>.er|false=>.sc .nilIface)|.str s,x=>x=.d (.sc (.string ⟨s.toArray⟩))|.raw v,x=>x=.d (.sc v)|.nil true,x=>x=.own [] .full|.nil false,x=>x=.d (.sl [])\/∃o,o≠.aY/\x=.own [] o|.sl t l .d,x=>x=.d (.sl (bB t l))\/∃o,o≠.aY/\x=.own (bB t l) o|.sl t l .aY,x=>x=.d (.sl (bB t l))\/∃o,x=.own (bB t l) o|.sl t l .full,x=>x=.own (bB t l) .full|.sl t l (.app v),x=>v<B/\((ρ v=none/\x=.own (bB t l) .full)\/∃u,ρ v=some u/\x=.own (bB t l) (.cT u t.size))|.ref lv sl av t,x=>av<B/\∃u n,ρ av=some u/\x=.ref lv sl u 0 n t.size/\∀r,rowOf m lv sl av=some r->n=r.l.length|.ku lv sl av t off len,x=>av<B/\∃u,ρ av=some u/\x=.ref lv sl u off len t.size/\∀r,rowOf m lv sl av=some r->off+len<=r.l.length|.ptr lv sl av i off,x=>av<B/\∃u,ρ av=some u/\x=.ptr lv sl u i off|.gw t e off,x=>x=.gw (fR t e) off|.fX lv sl av off n sz,x=>av<B/\∃u,ρ av=some u/\x=.fX lv sl u off n sz|.mp lv sl av,x=>av<B/\∃u,ρ av=some u/\x=.mp lv sl u
def R1(ρ:bF)(B:Nat)(m:List (Tr E2)):Bool×List Cell->AV->Prop|(true,cs),a=>∃aU,a=.agg aU/\aI (RC ρ B m) cs aU|(false,cs),a=>∃c,cs=[c]/\RC ρ B m c a
def RV(ρ:bF)(B:Nat)(m:List (Tr E2)):V2->AV->Prop|.c x,a=>RC ρ B m x a|.agg cs,a=>∃aU,a=.agg aU/\aI (RC ρ B m) cs aU|.fL f cs,a=>∃aU,a=.fL f aU/\aI (RC ρ B m) cs aU|.jU vs,a=>∃aU,a=.jU aU/\aI (R1 ρ B m) vs aU
def RE(ρ:bF)(B:Nat)(m:List (Tr E2)):E2->bM->Prop|.row av t l,e=>av<B/\∃u,ρ av=some u/\e=.row u (bB t l)|.box av cs,e=>av<B/\∃u aU,ρ av=some u/\e=.box u aU/\aI (RC ρ B m) cs aU|.set av l,e=>av<B/\∃u,ρ av=some u/\e=.mp u l
structure MR(ρ:bF)(B:Nat)(m2:List (Tr E2))(m:List (Tr bM)):Prop where
 len:m2.length=m.length
 gz:∀lv sl e2,j5 m2 lv sl=some e2->∃e,aT m lv sl=some e/\RE ρ B m2 e2 e
def TR(ρ:bF)(B:Nat)(t2 t:Tr Unit):Prop:=∀v,t2.get? v=some ()->v<B/\∀u,ρ v=some u->t.get? u=some ()
structure VOK(ρ:bF)(n2 n:Nat):Prop where
 low:∀v u,v<n2->ρ v=some u->u<n
 high:∀v,n2<=v->ρ v=some (n+(v-n2))inj:∀v v' u,ρ v=some u->ρ v'=some u->v=v'
def vS(ρ:bF)(B:Nat)(m:List (Tr E2))(t:Tr V2)(o:Tr AV):Prop:=∀k v,t.get? k=some v->RV ρ B m v (dL o k)
structure SR(ρ:bF)(B:Nat)(os:List (Tr AV))(s2:S2)(s:St):Prop where
 slots:vS ρ B s2.mem s2.slots s.slots
 outer:aI (vS ρ B s2.mem) s2.outer os
 mem:MR ρ B s2.mem s.mem
 aO:TR ρ B s2.aO s.aO
 av:VOK ρ s2.nv s.nv
 le:B<=s2.nv
def fS(B:Nat)(m m':List (Tr E2)):Prop:=∀lv sl av r',av<B->rowOf m' lv sl av=some r'->∃r,rowOf m lv sl av=some r/\r.l.length=r'.l.length
def fS.refl(B:Nat)(m:List (Tr E2)):fS B m m:=λ_ _ _ r _ h=>⟨r,h,rfl⟩
def fS.trans{B:Nat}{m m' m'':List (Tr E2)}(h:fS B m m')(k:fS B m' m''):fS B m m'':=by grind[fS]
def RC.move{ρ ρ':bF}{B B':Nat}{m m':List (Tr E2)}(hs:fS B m m')(hB:B<=B')(hρ:∀v,v<B->ρ' v=ρ v):∀{c:Cell}{x:AV},RC ρ B m c x->RC ρ' B' m' c x:=by intro c x h;cases c with
 |nil f=>cases f<;>exact h|sl t l o=>cases o with|app v=>obtain⟨hv,h⟩:=h;refine⟨by omega,?_⟩<;>grind|d=>exact h|full=>exact h|aY=>exact h
 |ref lv sl av t=>obtain⟨hv,u,n,hu,hx,hr⟩:=h;refine⟨by omega,u,n,by rw[hρ av hv];exact hu,hx,λr' hr'=>?_⟩;obtain⟨r,h1,h2⟩:=hs _ _ _ _ hv hr'<;>grind|ku lv sl av t off len=>obtain⟨hv,u,hu,hx,hr⟩:=h;refine⟨by omega,u,by rw[hρ av hv];exact hu,hx,λr' hr'=>?_⟩;obtain⟨r,h1,h2⟩:=hs _ _ _ _ hv hr'<;>grind|ptr lv sl av i off=>obtain⟨hv,u,hu,hx⟩:=h;exact⟨by omega,u,by rw[hρ av hv];exact hu,hx⟩|fX lv sl av off n sz=>obtain⟨hv,u,hu,hx⟩:=h;exact⟨by omega,u,by rw[hρ av hv];exact hu,hx⟩|mp lv sl av=>obtain⟨hv,u,hu,hx⟩:=h;exact⟨by omega,u,by rw[hρ av hv];exact hu,hx⟩|_=>exact h
def R1.mono{ρ ρ':bF}{B B':Nat}{m m':List (Tr E2)}(hc:∀c x,RC ρ B m c x->RC ρ' B' m' c x):∀{v:Bool×List Cell}{x:AV},R1 ρ B m v x->R1 ρ' B' m' v x|(true,_),_,⟨aU,h1,h2⟩=>⟨aU,h1,h2.mono hc⟩|(false,_),_,⟨c,h1,h2⟩=>⟨c,h1,hc _ _ h2⟩
def RV.mono{ρ ρ':bF}{B B':Nat}{m m':List (Tr E2)}(hc:∀c x,RC ρ B m c x->RC ρ' B' m' c x):∀{v:V2}{x:AV},RV ρ B m v x->RV ρ' B' m' v x:=by intro v x h;cases v with|c c=>exact hc _ _ h|agg cs=>obtain⟨aU,h1,h2⟩:=h;exact⟨aU,h1,h2.mono hc⟩|fL f cs=>obtain⟨aU,h1,h2⟩:=h;exact⟨aU,h1,h2.mono hc⟩|jU vs=>obtain⟨aU,h1,h2⟩:=h;exact⟨aU,h1,h2.mono λ_ _=>R1.mono hc⟩
def RE.mono{ρ ρ':bF}{B B':Nat}{m m':List (Tr E2)}(hB:B<=B')(hρ:∀v,v<B->ρ' v=ρ v)(hc:∀c x,RC ρ B m c x->RC ρ' B' m' c x):∀{e2:E2}{e:bM},RE ρ B m e2 e->RE ρ' B' m' e2 e:=by intro e2 e h;cases e2 with|row av t l=>obtain⟨hv,u,h1,h2⟩:=h;exact⟨by omega,u,by rw[hρ av hv];exact h1,h2⟩|box av cs=>obtain⟨hv,u,aU,h1,h2,h3⟩:=h;exact⟨by omega,u,aU,by rw[hρ av hv];exact h1,h2,h3.mono hc⟩|set av l=>obtain⟨hv,u,h1,h2⟩:=h;exact⟨by omega,u,by rw[hρ av hv];exact h1,h2⟩
def vS.mono{ρ ρ':bF}{B B':Nat}{m m':List (Tr E2)}(hc:∀c x,RC ρ B m c x->RC ρ' B' m' c x){t:Tr V2}{o:Tr AV}(h:vS ρ B m t o):vS ρ' B' m' t o:=λk v hk=>RV.mono hc (h k v hk)
def RV.move{ρ ρ':bF}{B B':Nat}{m m':List (Tr E2)}(hs:fS B m m')(hB:B<=B')(hρ:∀v,v<B->ρ' v=ρ v){v:V2}{x:AV}(h:RV ρ B m v x):RV ρ' B' m' v x:=RV.mono (λ_ _=>RC.move hs hB hρ) h
def vS.move{ρ ρ':bF}{B B':Nat}{m m':List (Tr E2)}(hs:fS B m m')(hB:B<=B')(hρ:∀v,v<B->ρ' v=ρ v){t:Tr V2}{o:Tr AV}(h:vS ρ B m t o):vS ρ' B' m' t o:=vS.mono (λ_ _=>RC.move hs hB hρ) h
def qT:∀l:List jC,FH l=l.map Mv|[]=>by simp[FH]|v::r=>by simp[FH,qT r]
def fh:∀(t:Ty)(x:t.den),(fR t x).length=t.size|.val,v=>by cases v;simp[fR,Mv,Ty.size]|.int _,_=>rfl|.bool,_=>rfl|.str,_=>rfl|.sl _,_=>rfl|.unit,_=>rfl|.prod a b,x=>by simp[fR,Ty.size,fh a,fh b]|.sum _ _,_=>rfl
def mL{ρ:bF}{B:Nat}{m:List (Tr E2)}:∀(t:Ty)(x:t.den),aI (RC ρ B m) (jD t x) ((fR t x).map .d)|.val,v=>by cases v;refine⟨rfl,rfl,rfl,.inl ?_,rfl,trivial⟩;simp[bB,jC.list,qT,fR]|.int _,_=>⟨rfl,trivial⟩|.bool,_=>⟨rfl,trivial⟩|.str,_=>⟨rfl,trivial⟩|.sl _,_=>⟨.inl rfl,trivial⟩|.unit,_=>trivial|.prod a b,x=>by simp[jD,fR,fx];exact(mL a x.1).append (mL b x.2)|.sum _ _,_=>trivial
def CO{a b:Ty}{l:List a.den}{l':List b.den}(h:j9 a b l=some l'):∃e:a=b,l'=e▸l:=by unfold j9 at h;split at h<;>grind
def Qa{a b:Ty}{l:a.den}{l':b.den}(h:vN a b l=some l'):∃e:a=b,l'=e▸l:=by unfold vN at h;split at h<;>grind
def pE:Cell->Option D|.int k a=>some (.sc (.int k a))|.bool b=>some (.sc (.bool b))|.str s=>some (.sc (.string ⟨s.toArray⟩))|.raw v=>some (.sc v)|.nil _=>some (.sl [])|.sl t l _=>some (.sl (bB t l))|_=>none
def cB:List Cell->Option (List D)|[]=>some []|c::r=>match pE c,cB r with|some x,some xs=>some (x::xs)|_,_=>none
def nG:∀{l l':List Cell}{ds ds':List D},cB l=some ds->cB l'=some ds'->cB (l++l')=some (ds++ds')
 |[],_,_,_,h,h'=>by cases h<;>grind|c::r,l',ds,ds',h,h'=>by
  simp[cB]at h;split at h;.rename_i x xs h1 h2;cases h;simp[pt,cB,h1,nG h2 h']
  grind
def iu{c:Cell}{r:List Cell}{ds:List D}(h:cB (c::r)=some ds):∃x xs,pE c=some x/\cB r=some xs/\ds=x::xs:=by grind[cB,pE]
def CP{k:IntKind}{cs r:List Cell}{x:Int}{ds:List D}(h:Jw k cs=some (x,r))(hd:cB cs=some ds):∃ds',ds=.sc (.int k x)::ds'/\cB r=some ds':=by
 unfold Jw at h;split at h
 .split at h;.obtain⟨y,ys,h1,h2,rfl⟩:=iu hd;cases h1<;>grind
  grind
 grind
def FU{cs r:List Cell}{x:Bool}{ds:List D}(h:HB cs=some (x,r))(hd:cB cs=some ds):∃ds',ds=.sc (.bool x)::ds'/\cB r=some ds':=by
 unfold HB at h;split at h;.obtain⟨y,ys,h1,h2,rfl⟩:=iu hd;cases h1<;>grind
 grind
def JI{cs r:List Cell}{x:List UInt8}{ds:List D}(h:Ol cs=some (x,r))(hd:cB cs=some ds):∃ds',ds=.sc (.string ⟨x.toArray⟩)::ds'/\cB r=some ds':=by
 unfold Ol at h;split at h;.obtain⟨y,ys,h1,h2,rfl⟩:=iu hd;cases h1<;>grind
 grind
def Oy{t:Ty}{cs r:List Cell}{x:List t.den}{ds:List D}(h:ZB t cs=some (x,r))(hd:cB cs=some ds):∃ds',ds=.sl (bB t x)::ds'/\cB r=some ds':=by
 unfold ZB at h;split at h;.cases h;obtain⟨y,ys,h1,h2,rfl⟩:=iu hd;cases h1;exact⟨ys,rfl,h2⟩
 .split at h;.rename_i hc;obtain⟨e,hl⟩:=CO hc;obtain⟨y,ys,h1,h2,rfl⟩:=iu hd;cases h1<;>grind
  grind
 grind
def CQ:∀(t:Ty){cs r:List Cell}{x:t.den},Aj t cs=some (x,r)->∀{ds:List D},cB cs=some ds->∃ds',ds=fR t x++ds'/\cB r=some ds'
 |.val,cs,r,x,h,ds,hd=>by
  simp[Aj,abI]at h;split at h
  .rename_i k r1 h1;split at h
   .rename_i i r2 h2;split at h
    .rename_i s r3 h3;split at h
     .rename_i l r4 h4;split at h
      .rename_i c r5 h5;cases h;obtain⟨d1,rfl,e1⟩:=CP h1 hd;obtain⟨d2,rfl,e2⟩:=CP h2 e1;obtain⟨d3,rfl,e3⟩:=JI h3 e2;obtain⟨d4,rfl,e4⟩:=Oy h4 e3;obtain⟨d5,rfl,e5⟩:=FU h5 e4;refine⟨d5,?_,e5⟩;have:bB .val l=FH l:=by rw[qT];rfl
       simp[fR,Mv,this]
      grind
     grind
    grind
   grind
  grind|.int k,_,_,_,h,_,hd=>CP h hd|.bool,_,_,_,h,_,hd=>FU h hd|.str,_,_,_,h,_,hd=>JI h hd|.sl t,_,_,_,h,_,hd=>Oy h hd|.unit,_,_,_,h,ds,hd=>by cases h;exact⟨ds,rfl,hd⟩|.prod a b,cs,r,x,h,ds,hd=>by
  simp[Aj]at h;split at h
  .rename_i x1 r1 h1;split at h;.rename_i x2 r2 h2;cases h;obtain⟨d1,rfl,e1⟩:=CQ a h1 hd;obtain⟨d2,rfl,e2⟩:=CQ b h2 e1<;>simp_all[Aj,cB,Ty.den,fR]
   grind
  grind|.sum _ _,_,_,_,h,_,_=>by simp[Aj]at h
def qU{t:Ty}{cs:List Cell}{x:t.den}{ds:List D}(h:Ak t cs=some x)(hd:cB cs=some ds):ds=fR t x:=by
 unfold Ak at h;split at h;.rename_i y h1;cases h;obtain⟨ds',rfl,e⟩:=CQ t h1 hd;cases e;simp
 grind
end Go.Sym
namespace Go.bS
open Go Go.RowKit
section
variable{P:Program}{X:Cx}{call:Go.bS.Call}{sh:Nat->Bool}
def Oz{n:Nat}{c:AC}{s s':St}{ax:AX}(hr:abP c=true)(h:exec call sh n c s=some (ax,s')):ax=.normal:=by cases n with|zero=>cases h|succ m=>
 cases c<;>first|cases hr|skip
 simp_all[exec,Call]
def ZN{n:Nat}{d:DFn}{s0 s3:St}{ax:AX}(hk:ad4 d=true)(hsh:sh d.g=true)(h:exec call sh n (mkD d).body s0=some (ax,s3))(Tf:ax=.normal\/ax=.ret):∃n1 s1 n2 s2 ax2 rg cm ts nv3,exec call sh n1 d.pre s0=some (.normal,s1)/\(d.caps.map (dL s1.slots)).all jX=true/\exec call sh n2 d.body {s1 with slots:=oa s1.slots (some d.dst) (.fL d.g (d.caps.map (dL s1.slots))),nv:=s1.nv+1}=some (ax2,s2)/\(ax2=.normal\/ax2=.ret)/\call d.g (d.caps.map (dL s1.slots)) (s2.mem++[.lf]) s2.aO (s2.nv+1)=some (rg,cm,ts,nv3)/\(rg=.jU []->s3={slots:=s2.slots,mem:=cm.take s2.mem.length,aO:=ts,nv:=nv3}):=by
 simp[ad4,ba]at hk;obtain⟨⟨arb,hne⟩,hkeep⟩:=hk;obtain⟨m,e1,g1⟩:=CN h;rcases g1 with⟨s1,h1,h⟩|⟨h1,hn⟩;case inr=>exact absurd (Oz arb h1) hn
 obtain⟨m2,e2,g2⟩:=CN h;rcases g2 with⟨s1',h2,h⟩|⟨h2,hn⟩;case inr=>exact absurd (Oz rfl h2) hn
 obtain⟨m3,e3,g3⟩:=CN h;clear h;subst e3;rcases g3 with⟨s2,h3,h⟩|⟨h3,hn⟩;case inr=>
  rcases Tf with rfl|rfl;.exact absurd rfl hn
  .exact absurd h3 (P9 hne)
 obtain⟨m4,ax2,h5,ad6⟩:=HK hne h3;have qE:∀(t:Tr AV),Et t (d.caps.map .t)=d.caps.map (dL t):=λt=>by unfold Et;rw[rc];rfl
 have q:(d.caps.map (dL s1.slots)).all jX=true/\s1'={s1 with slots:=oa s1.slots (some d.dst) (.fL d.g (d.caps.map (dL s1.slots))),nv:=s1.nv+1}:=by
  simp only[exec,f0]at h2;obtain⟨s4,h6,h7⟩:=h2;cases h7;simp only[gA,jz,bG.step,jo,cy.run,qE]at h6;by_cases hc:(d.caps.map (dL s1.slots)).all jX=true;.rw[be hc]at h6;simp[gu.pure,fj]at h6;exact⟨hc,h6.symm⟩
  grind
 obtain⟨hc,rfl⟩:=q;have arc:dL s2.slots d.dst=.fL d.g (d.caps.map (dL s1.slots)):=by rw[gB m4 d.body _ _ _ hkeep h5];simp[dL,oa,Tr.cD]
 cases m3 with|zero=>cases h|succ m5=>
 simp only[exec,f0]at h;obtain⟨s4,h6,h7⟩:=h;cases h7;simp[gA,jz,bG.step,jo,cy.run,cq.ev,arc,hsh,Et,lc,ge,gO]at h6;split at h6;.cases h6
 rename_i e he;split at he;.cases he
 split at he;.cases he
 rename_i rg cm ts nv3 cP;refine⟨_,s1,_,s2,ax2,rg,cm,ts,nv3,h1,hc,h5,ad6,cP,?_⟩;rintro rfl;have hi:∀k aZ,jc cm k 0 (s2.mem.length-1) 0 aZ (.jU [])=some (.jU [],[]):=λ_ _=>rfl;cases he;cases h6;rfl
def Tg(cP:eL P call){dF:Nat->Option TypeId}{md:Nat->Mode}{Fs:Nat->Option rF}(hm:P.follows .mixedOrders=true)(ic:∀f T,dF f=some T->kr P f T)(hgo:∀g gf,Pp P dF md g=some gf->Fs g=some gf->∀args mem aO nv x,call g args mem aO nv=some x->∃call' n',eL P call'/\xK call' Fs n' g args mem aO nv=some x)(EK:∀f fn,Fs f=some fn->LS P dF md f=some fn)(hgs:∀f d,(Fs f).isSome=true->Td P dF md f=some d->(Fs d.g).isSome=true)(n:Nat):eL P (xK call Fs n):=by intro f args mem aO nv r mem' p5 IK h X cU hmem hdom hargs;cases hfp:Pp P dF md f with|some fp=>obtain⟨pf,c,h1,h2,h3,h4⟩:=CL (md:=md) cP hm ic n (λfn hfn=>by have:=EK f fn hfn;simp only[LS,hfp]at this;rw[hfp];exact this) h X cU hmem hdom hargs;exact⟨⟨pf,h1,by rw[h2];rfl,h3⟩,calls_of_wp h1 h2 h4⟩|none=>
 have h0:=h;simp only[xK]at h;split at h;.cases h
 rename_i fn hfn;have hq:=EK f fn hfn;simp only[LS,hfp,ai7]at hq;split at hq;.cases hq
 rename_i d hdf;split at hq;case h_2=>cases hq
 rename_i gf hok hgf;split at hq;case h_2=>cases hq
 rename_i hgk;injection hq with hq;subst hq;rw[ba]at hgk;obtain⟨arf,aja⟩:=hgk;have hFg:Fs d.g=some gf:=by have:=hgs f d (by rw[hfn];rfl) hdf;cases hg:Fs d.g with|none=>rw[hg]at this;cases this|some gf'=>have:=EK d.g gf' hg;simp only[LS,hgf]at this;rw[this]
 split at h;.cases h
 rename_i hnp;have hnp:=bb hnp;have hrun:∃ax s3,exec call (λg=>((Fs g).map (·.sh)).getD false) n (mkD d).body {slots:=ep 0 args .lf,mem,aO,nv}=some (ax,s3)/\(ax=.normal\/ax=.ret)/\(kg s3 d.res).map (λvs=>(jq vs,s3.mem,s3.aO,s3.nv))=some (r,mem',p5,IK):=by
  split at h;.rename_i s3 he;exact⟨_,s3,he,.inl rfl,h⟩
  .rename_i s3 he;exact⟨_,s3,he,.inr rfl,h⟩
  .cases h
 clear h;obtain⟨ax,s3,he,Tf,hres⟩:=hrun;obtain⟨n1,s1,n2,s2,ax2,rg,cm,ts,nv3,he1,hcell,he2,ad6,hcg,ad7⟩:=ZN hok (by simp[hFg,arf]) he Tf;obtain⟨call',n',ad8,hg⟩:=hgo d.g gf hgf hFg _ _ _ _ _ hcg;have hrg:rg=.jU []:=by
  have hg2:=hg;simp only[xK,hFg]at hg2;split at hg2;.cases hg2
  have vF:gf.res=[]:=xr.1 aja;split at hg2;.simp only[vF,kg,jq,cf,fj,fi]at hg2;exact hg2.1.symm
  .simp only[vF,kg,jq,cf,fj,fi]at hg2;exact hg2.1.symm
  .cases hg2
 have ad7:=ad7 hrg;subst ad7;unfold Td at hdf;split at hdf;.cases hdf
 rename_i pf hpf;split at hdf;.cases hdf
 rename_i c hbody;split at hdf;.cases hdf
 rename_i hname;split at hdf;case h_2=>cases hdf
 rename_i r1 g caps dd rest rs ajb R3;split at hdf;case h_2=>cases hdf
 rename_i pre body hpre Ch;split at hdf;case isFalse=>cases hdf
 rename_i hle;injection hdf with hdf;subst hdf;simp only[mkD]at hnp he1 he2 hcell hres hg hgf hFg;obtain⟨⟨id,o1,o2,cap,tI,rfl,ho1,YV,hg1,ho2,Hi,hg2,hc1,qD,hcap⟩⟩:=JD ajb;refine⟨⟨pf,hpf,by rw[hbody];rfl,by simpa using hname⟩,?_⟩;have hlen:=hargs.length;simp only[ii]at hlen;have start:fQ X ⟨pf.ntmps,[]⟩ {slots:=ep 0 args .lf,mem,aO,nv} {tmps:=cU++Array.replicate (pf.ntmps-cU.size) undef,defers:=[]}:=⟨λt=>Ov hargs _ t,by simp;omega,rfl,hmem⟩;refine calls_of_wp_defers hpf hbody (wp_seq ?_);refine(Bu (nt:=⟨pf.ntmps,[]⟩) hm cP ic n1).1 r1 pre X _ _ (.normal,s1) _ hpre he1 start hdom λY a1 hxY hsY hnY hdY=>?_;show Code.wp P _ _ _ _;refine wp_seq (wp_region ?_);show wpOps P #[o1,o2] _ [0,1] _ _;have abR:Et s1.slots (caps.map .t)=caps.map (dL s1.slots):=by unfold Et;rw[rc];rfl
 obtain⟨fv,ajc,hfv⟩:=zS (P:=P) hsY ho1 hcap (by rw[abR];exact hcell);rw[abR]at hfv;refine jg (o:=o1) rfl hg1 (rS ajc ?_);rw[YV];have ari:=hfv;obtain⟨vs,rfl,hvs⟩:=hfv;let dfd:Deferred:={target:=.fn (.func g) vs,args:=#[]};have R6:a1.tmps.size=pf.ntmps:=hsY.size;have hle2:=hle.2;have qE:(a1.put (some dd) (.func (.func g) #[] vs)).eval (.tmp dd)=.func (.func g) #[] vs:=by simp[Act.eval,Act.put];intro h;omega
 have ajd:(execOp (a1.put (some dd) (.func (.func g) #[] vs)).eval o2).run P Y.w=.ok (.defer dfd) Y.w:=by simp[execOp,ho2,resolve,hc1,qD,qE,Deferred.ofValue,dfd]
 refine jg (o:=o2) rfl hg2 ?_;unfold Oper.wp;rw[ajd];rw[Oper.upon_defer,Hi];show Code.wp P _ _ _ _;let a2:Act:={(a1.put (some dd) (.func (.func g) #[] vs))with defers:=[dfd]};have ha2:({(a1.put (some dd) (.func (.func g) #[] vs))with defers:=dfd::(a1.put (some dd) (.func (.func g) #[] vs)).defers}:Act).put none undef=a2:=by have:a1.defers=[]:=hsY.defers;simp only[Act.put,this,a2]
 rw[ha2];let s1':St:={s1 with slots:=oa s1.slots (some dd) (.fL g (caps.map (dL s1.slots))),nv:=s1.nv+1};have arj:fQ Y ⟨pf.ntmps,[dfd]⟩ s1' a2:=by
  refine⟨λt=>?_,?_,rfl,hsY.mem⟩
  .show VR Y (dL (oa s1.slots (some dd) _) t) ((a1.tmps.setIfInBounds dd _).getD t undef);have hz:=hsY.size;simp only at hz;by_cases htd:t=dd
   .subst htd;have e1:dL (oa s1.slots (some t) (.fL g (caps.map (dL s1.slots)))) t=.fL g (caps.map (dL s1.slots)):=by simp[dL,oa,Tr.cD]
    rw[e1,lh,Array.getElem?_setIfInBounds_self_of_lt (by omega)];exact ari
   .have e1:dL (oa s1.slots (some dd) (.fL g (caps.map (dL s1.slots)))) t=dL s1.slots t:=by unfold dL oa;simp only;rw[Tr.cD,bi (λq=>htd q.symm)]
    rw[e1,lh,Array.getElem?_setIfInBounds_ne (λq=>htd q.symm),<-lh];exact hsY.slots t
  .show(a1.tmps.setIfInBounds dd _).size=_;rw[Array.size_setIfInBounds];exact hsY.size
 have abS:∀v,s1.nv+1<=v->Y.ρ v=none:=λv hv=>by cases hz:Y.ρ v with|none=>rfl|some L=>
   rcases hdY v L hz with h|h;.rw[hdom v (by simp at hnY;omega)]at h;cases h
   .simp at h;omega
 refine(Bu (nt:=⟨pf.ntmps,[dfd]⟩) hm cP ic n2).1 rest body Y s1' a2 (ax2,s2) _ Ch he2 arj abS λZ a3 Hs YZ hnZ hdZ=>?_;have fin:Leaves P pf a3.tmps (λe w'=>∃Y v,e=.returned v/\Y.w=w'/\Ext X Y/\VR Y r v/\aM Y mem' p5/\nv<=IK/\∀u L,Y.ρ u=some L->X.ρ u=some L\/(nv<=u/\u<IK)) a3.defers .returning Z.w:=by
  obtain⟨ws,CR,he⟩:=aV hres;simp only[fi]at he;obtain⟨rfl,rfl,rfl,rfl⟩:=he;have az9:s1.nv+1<=s2.nv:=hnZ;have aje:∀v,s2.nv+1<=v->Z.ρ v=none:=λv hv=>by cases hz:Z.ρ v with|none=>rfl|some L=>
    rcases hdZ v L hz with h|h;.rw[abS v (by omega)]at h;cases h
    .simp at h;omega
  have hm0:aM Z (s2.mem++[.lf]) s2.aO:=YZ.mem.congr (λlv sl=>mJ _ _ _) λ_=>rfl;have arl:aI (V1 Z) (caps.map (dL s1.slots)) vs.toList:=hvs.mono λ_ _ h=>((h.ext Hs).V1);obtain⟨pg,cg,g1,g2,g3,g4⟩:=CL ad8 hm ic n' (λfn hfn=>by rw[hFg]at hfn;injection hfn with hfn;rw[<-hfn];exact hgf) hg Z vs hm0 aje arl;rw[YZ.defers];have hinv:(invoke (.fn (.func g) vs) #[]).run P Z.w=.ok (.enter g vs) Z.w:=by have:=pe (P:=P) (args:=vs) (w:=Z.w) g1 (by rw[g2];rfl) g3;simpa[invoke]using this
  refine leaves_cons (λh=>by cases h) hinv ((callsD_of_wp g1 g2 g4).mono ?_);rintro e u' w'⟨rfl,V,v,rfl,rfl,hxV,hvV,hmV,hnV,hdV⟩;have hxX:Ext X V:=(hxY.trans Hs).trans hxV;have B0:aM V (cm.take s2.mem.length) ts:=hmV.less (λlv sl e he=>by
   rw[nP]at he;split at he;.exact he
   .cases he) λ_ h=>h;have hs3:fQ V ⟨pf.ntmps,[dfd]⟩ {slots:=s2.slots,mem:=cm.take s2.mem.length,aO:=ts,nv:=nv3} a3:=⟨λt=>(YZ.slots t).ext hxV,YZ.size,YZ.defers,B0⟩;obtain⟨us,q1,q2⟩:=yX hs3 R3 CR;refine⟨_,?_,V,_,rfl,rfl,hxX,S9 q2,B0,by simp at hnY;omega,λu L hu=>?_⟩
  .have e:results pf a3.tmps=(do let vs<-pf.results.mapM (FT a3)pure (if h:vs.size=1then vs[0]else .tuple vs)):=by unfold results;congr 1
   rw[e,<-Array.toArray_toList (xs:=pf.results),List.mapM_toArray];simp[q1]
  .rcases hdV u L hu with h|h
   .rcases hdZ u L h with h|h
    .rcases hdY u L h with h|h;.exact .inl h
     .right;simp at h;omega
    .right;have:s1.nv+1<=u/\u<s2.nv:=h;simp at hnY;omega
   .right;simp at hnY;omega
 rcases ad6 with rfl|rfl;.exact fin
 .exact fin
end
end Go.bS
namespace Go.bS
open Go
def om(a b:Call):Prop:=∀f x m t n r,a f x m t n=some r->b f x m t n=some r
variable{call call':Call}{sh:Nat->Bool}
def tL(hc:om call call'){b:Bool}{row:Nat}{s:St}{lv sl aZ f:Nat}{args:List AV}{r:ir}(h:gO call b row s lv sl aZ f args=some r):gO call' b row s lv sl aZ f args=some r:=by
 unfold gO at h⊢;cases b with|false=>
  simp at h⊢;split at h;.cases h
  .split at h;.cases h
   .rename_i r' cm ts n he;rw[hc _ _ _ _ _ _ he]<;>omega|true=>
  simp at h⊢;split at h;.cases h
  .split at h;.cases h
   .rename_i r' cm ts n he;rw[hc _ _ _ _ _ _ he]<;>omega
def Aq(hc:om call call'){s:St}{f:Nat}{args:List AV}{r:ir}(h:lu call s f args=some r):lu call' s f args=some r:=by
 unfold lu at h⊢;split at h;.cases h
 .split at h;.cases h
  .rename_i r' cm ts n he;rw[hc _ _ _ _ _ _ he]<;>omega
def JJ(hc:om call call'){s:St}{f:Nat}{args:List AV}{r:ir}(h:rK call s f args=some r):rK call' s f args=some r:=by
 unfold rK at h⊢;split at h;.cases h
 .split at h;.cases h
  .rename_i r' cm ts n he;rw[hc _ _ _ _ _ _ he]<;>omega
def JK(hc:om call call'){s:St}{aZ f:Nat}{args:List AV}{r:ir}(h:oX call s aZ f args=some r):oX call' s aZ f args=some r:=by
 unfold oX at h⊢;split at h;.cases h
 .split at h;.cases h
  .rename_i r' cm ts n he;rw[hc _ _ _ _ _ _ he]<;>omega
def JL(hc:om call call'){s:St}{aZ f:Nat}{args:List AV}{r:ir}(h:oY call s aZ f args=some r):oY call' s aZ f args=some r:=by
 unfold oY at h⊢;split at h;.cases h
 .split at h;.cases h
  .rename_i r' cm ts n he;rw[hc _ _ _ _ _ _ he]<;>omega
def Th(hc:om call call'){s:St}{row dst aZ:Nat}{o:cy}{r:ir}(h:o.run call sh s row dst aZ=some r):o.run call' sh s row dst aZ=some r:=by cases o with
 |call f args=>
  simp[cy.run]at h⊢;split at h;.exact Aq hc h
  .split at h;.exact JJ hc h
   .split at h;.exact JK hc h
    split at h;.exact JL hc h
    .exact tL hc h|wP f args=>
  simp[cy.run]at h⊢;split at h;.exact tL hc h
  .exact Aq hc h|zO x args=>
  simp[cy.run]at h⊢;split at h;.exact tL hc h
  .cases h|_=>exact h
def FV(hc:om call call'){s:St}{aZ:Nat}{o:bG}{r:ir}(h:o.step call sh s aZ=some r):o.step call' sh s aZ=some r:=by
 unfold bG.step at h⊢;split at h;.cases h
 .exact Th hc h
 .exact h
def Ar(hc:om call call'){mG:Nat}:∀{l:List bG}{i:Nat}{s r:St},jz call sh mG i l s=some r->jz call' sh mG i l s=some r
 |[],_,_,_,h=>h|o::l,i,s,r,h=>by
  unfold jz at h⊢;split at h;.cases h
  .rename_i e he;rw[FV hc he];exact Ar hc h
def As(hc:om call call'){mG:Nat}:∀{l:List bG}{i:Nat}{p:List (Nat×ir)}{s r:St},kf call sh mG i l p s=some r->kf call' sh mG i l p s=some r
 |[],_,_,_,_,h=>h|o::l,i,p,s,r,h=>by
  unfold kf at h⊢;split at h;.cases h
  .rename_i e he;rw[FV hc he];simp;split at h;.exact As hc h
   omega
def CS(hc:om call call'){l:List bG}{d:Bool}{s r:St}(h:gA call sh l d s=some r):gA call' sh l d s=some r:=by cases d with|false=>exact Ar hc h|true=>exact As hc h
def xM(hc:om call call'):∀(n m:Nat)(c:AC)(s:St)(r:AX×St),n<=m->exec call sh n c s=some r->exec call' sh m c s=some r|0,_,_,_,_,_,h=>by cases h|n+1,0,_,_,_,hn,_=>by omega|n+1,m+1,c,s,r,hn,h=>by have ih:=xM hc n m;unfold exec at h⊢;cases c with
 |skip=>exact h|region ops d=>simp at h⊢;cases hr:gA call sh ops d s with|none=>grind|some s'=>rw[hr]at h;rw[CS hc hr];exact h
 |seq a b=>grind|cond c a b=>grind|block id c=>grind|loop c=>grind|exit id=>exact h|ret=>exact h
end Go.bS
namespace Go.bS
open Go Go.RowKit
structure Tb where
 fs:Nat->Option rF
 O:Go.bS.Call
instance:CoeFun Tb λ_=>Nat->Option rF:=⟨Tb.fs⟩
instance:Coe Tb (Nat->Option rF):=⟨Tb.fs⟩
def Ti:Go.bS.Call:=λ_ _ _ _ _=>none
def jF(T:Tb):Nat->Go.bS.Call|0,_,_,_,_,_=>none|n+1,f,args,mem,aO,nv=>match T.fs f with|none=>T.O f args mem aO nv|some fn=>match Nat.beq args.length fn.np with|false=>none|true=>match exec (jF T n) (λg=>((T.fs g).map (·.sh)).getD false) n fn.body {slots:=ep 0 args .lf,mem,aO,nv}with|some (.normal,s)|some (.ret,s)=>(kg s fn.res).map λvs=>(jq vs,s.mem,s.aO,s.nv)|_=>none
def Qb{P:Program}:eL P Ti:=λ_ _ _ _ _ _ _ _ _ h=>by cases h
def Tj(P:Program)(dF:Nat->Option TypeId)(md:Nat->Mode)(Fs:Nat->Option rF):Prop:=(∀f fn,Fs f=some fn->LS P dF md f=some fn)/\∀f d,(Fs f).isSome=true->Td P dF md f=some d->(Fs d.g).isSome=true
def By{P:Program}{T:Tb}(hO:eL P T.O){dF:Nat->Option TypeId}{md:Nat->Mode}(hm:P.follows .mixedOrders=true)(ic:∀f T,dF f=some T->kr P f T)(EK:Tj P dF md T.fs):∀n,eL P (jF T n)|0=>λ_ _ _ _ _ _ _ _ _ h=>by cases h|n+1=>by intro f args mem aO nv r mem' p5 IK h;cases hf:T.fs f with|none=>simp[jF,hf]at h;exact hO f args mem aO nv r mem' p5 IK h|some fn=>
 refine Tg (By hO hm ic EK n) hm ic (λg gf _ hFg args mem aO nv x hx=>?_) EK.1 EK.2 n f args mem aO nv r mem' p5 IK ?_;.match n,hx with|0,hx=>cases hx|m+1,hx=>refine⟨jF T m,m,By hO hm ic EK m,?_⟩;simp only[jF,hFg]at hx;simp only[xK,hFg];exact hx
 simp[jF,hf]at h;simp[xK,hf];exact h
def OA{T:Tb}:∀(n m:Nat),n<=m->om (jF T n) (jF T m)
 |0,_,_=>λ_ _ _ _ _ _ h=>by cases h|n+1,0,hn=>by omega|n+1,m+1,hn=>λf x mm t nv r h=>by
  have ih:=OA (T:=T) n m (by omega);unfold jF at h⊢;split at h;.exact h
  .rename_i fn hf;split at h;.cases h
   .cases he:exec (jF T n) (λg=>((T.fs g).map (·.sh)).getD false) n fn.body {slots:=ep 0 x .lf,mem:=mm,aO:=t,nv}with|none=>grind|some y=>rw[xM ih n m fn.body _ y (by omega) he]<;>grind
end Go.bS
namespace Go.Sym
open Go Go.bS
section
variable{ρ:bF}{B:Nat}{m2:List (Tr E2)}{m:List (Tr bM)}
def aE{α β:Type}{o:Option β}{k:β->Option α}{r:α}(h:cA o k=some r):∃x,o=some x/\k x=some r:=by cases o with|none=>cases h|some x=>exact⟨x,rfl,h⟩
def cC{α:Type}{b:Bool}{k:Option α}{r:α}(h:aH b k=some r):b=true/\k=some r:=by grind[aH]
def bind_some{α β:Type}{o:Option β}{k:β->Option α}{r:α}(h:Option.bind o k=some r):∃x,o=some x/\k x=some r:=by cases o with|none=>cases h|some x=>grind
def cI{α:Type}{v:Option V2}{k:Cell->Option α}{r:α}(h:jE v k=some r):∃x,v=some (.c x)/\k x=some r:=by unfold jE at h<;>grind
def uU{α:Type}{v:Option V2}{k:Int->Option α}{r:α}(h:P7 v k=some r):∃kd n,v=some (.c (.int kd n))/\k n=some r:=by unfold P7 at h<;>grind
def mM{α:Type}{v:Option V2}{k:Nat->Option α}{r:α}(h:HE v k=some r):∃kd n,v=some (.c (.int kd n))/\0<=n/\k n.toNat=some r:=by obtain⟨kd,n,h1,h2⟩:=uU h;grind[aH,HE]
def rY{α:Type}{v:Option V2}{k:Bool->Option α}{r:α}(h:xI v k=some r):∃b,v=some (.c (.bool b))/\k b=some r:=by unfold xI at h<;>grind
def OB(v:Value):RC ρ B m2 (adT v) (.d (.sc v)):=by cases v<;>first|rfl|exact rfl
def OC{x:AV}{c:Cell}(h:ZC x=some c):RC ρ B m2 c x:=by
 unfold ZC at h;split at h;.cases h;exact OB _
 .cases h;rfl
 grind
def xN:∀{l:List AV}{cs:List Cell},Cy l=some cs->aI (RC ρ B m2) cs l
 |[],cs,h=>by cases h;trivial|x::r,cs,h=>by
  simp[Cy]at h;split at h;.rename_i y ys h1 h2;cases h;exact⟨OC h1,xN h2⟩
  grind
def ZO{x:AV}{v:V2}(h:adU x=some v):RV ρ B m2 v x:=by
 unfold adU at h;split at h;.obtain⟨cs,h1,rfl⟩:=aV h;exact⟨_,rfl,xN h1⟩
 .cases h;exact⟨[],rfl,trivial⟩
 .cases h;exact⟨[],rfl,trivial⟩
 .obtain⟨c,h1,rfl⟩:=aV h;exact OC h1
def ZP{x:D}{c:Cell}(h:ZD x=some c):RC ρ B m2 c (.d x):=by
 unfold ZD at h;split at h;.cases h;exact OB _
 .cases h;exact .inl rfl
 grind
def JM:∀{l:List D}{cs:List Cell},tG l=some cs->aI (RC ρ B m2) cs (l.map .d)
 |[],cs,h=>by cases h;trivial|x::r,cs,h=>by
  simp[tG]at h;split at h;.rename_i y ys h1 h2;cases h;exact⟨ZP h1,JM h2⟩
  grind
def qV:∀{l:List D}{cs:List Cell},tG l=some cs->cB cs=some l
 |[],cs,h=>by cases h;rfl|x::r,cs,h=>by
  simp[tG]at h;split at h
  .rename_i y ys h1 h2;cases h;have:pE y=some x:=by
    unfold ZD at h1;split at h1;.rename_i v;cases h1;cases v<;>rfl
    .cases h1;rfl
    grind
   simp[cB,this,qV h2]
  grind
def bx{s2:S2}{sl:Tr AV}(hs:vS ρ B m2 s2.slots sl){x:cq}{v:V2}(h:jV s2 x=some v):RV ρ B m2 v (x.ev sl):=by cases x with|t n=>exact hs n v h|c a=>exact ZO h
def qa{s2:S2}{sl:Tr AV}(hs:vS ρ B m2 s2.slots sl):∀{l:List cq}{vs:List V2},HD s2 l=some vs->aI (RV ρ B m2) vs (Et sl l)
 |[],vs,h=>by cases h;trivial|x::r,vs,h=>by
  simp[HD]at h;split at h;.rename_i y ys h1 h2;cases h;exact⟨bx hs h1,qa hs h2⟩
  grind
def RC.cell{c:Cell}{a:AV}(h:RC ρ B m2 c a):cellsOf a=some [a]/\jX a=true/\gy a=true:=by cases c with
 |nil f=>cases f with|true=>cases h;exact⟨rfl,rfl,rfl⟩|false=>rcases h with rfl|⟨o,_,rfl⟩<;>exact⟨rfl,rfl,rfl⟩
 |sl t l o=>cases o with|app v=>rcases h with⟨_,⟨_,rfl⟩|⟨u,_,rfl⟩⟩<;>exact⟨rfl,rfl,rfl⟩|d=>rcases h with rfl|⟨o,_,rfl⟩<;>exact⟨rfl,rfl,rfl⟩|full=>cases h;exact⟨rfl,rfl,rfl⟩|aY=>rcases h with rfl|⟨o,rfl⟩<;>exact⟨rfl,rfl,rfl⟩
 |ref lv sl av t=>obtain⟨_,u,n,_,rfl,_⟩:=h;exact⟨rfl,rfl,rfl⟩|ku lv sl av t off len=>obtain⟨_,u,_,rfl,_⟩:=h;exact⟨rfl,rfl,rfl⟩|ptr lv sl av i off=>obtain⟨_,u,_,rfl⟩:=h;exact⟨rfl,rfl,rfl⟩|fX lv sl av off n sz=>obtain⟨_,u,_,rfl⟩:=h;exact⟨rfl,rfl,rfl⟩|mp lv sl av=>obtain⟨_,u,_,rfl⟩:=h;exact⟨rfl,rfl,rfl⟩|_=>cases h;exact⟨rfl,rfl,rfl⟩
def xO{v:V2}{a:AV}{cs:List Cell}(h:V2.cells? v=some cs)(hv:RV ρ B m2 v a):∃aU,cellsOf a=some aU/\aI (RC ρ B m2) cs aU:=by cases v with|c x=>cases h;exact⟨[a],(RC.cell hv).1,hv,trivial⟩|agg l=>cases h;obtain⟨aU,rfl,h2⟩:=hv;exact⟨aU,rfl,h2⟩|_=>cases h
def CT{agg:Bool}{cs:List Cell}{aU:List AV}{v:V2}(h:CA agg cs=some v)(hc:aI (RC ρ B m2) cs aU):∃a,iz agg aU=some a/\RV ρ B m2 v a:=by cases agg with|true=>cases h;exact⟨_,rfl,aU,rfl,hc⟩|false=>
 simp[CA]at h;split at h;.cases h;match aU,hc with|[a],hc=>exact⟨a,rfl,hc.1⟩
 grind
def kW(m:List (Tr E2))(lv sl cV dy:Nat)(e:Option E2):j5 (Cz m lv sl e) cV dy=if lv=cV/\sl=dy/\lv<m.length then e else j5 m cV dy:=by
 unfold j5 Cz;rw[List.getElem?_modify];by_cases h:lv=cV;.subst h;cases hm:m[lv]?with|none=>grind|some t=>
  have:lv<m.length:=by grind
  simp[Tr.cD,this]
 grind
def tM(m:List (Tr E2))(lv sl:Nat)(e:Option E2):(Cz m lv sl e).length=m.length:=by simp[Cz]
def nE(m:List (Tr bM))(lv sl:Nat)(e:Option bM):(cH m lv sl e).length=m.length:=by simp[cH]
def Au:∀(l:List (Nat×Nat×Option E2))(m:List (Tr E2)),(gG m l).length=m.length|[],_=>rfl|(lv,sl,e)::r,m=>by rw[gG,Au r,tM]
def dM:∀(l:List (Nat×Nat×Option bM))(m:List (Tr bM)),(bI m l).length=m.length|[],_=>rfl|(lv,sl,e)::r,m=>by rw[bI,dM r,nE]
def OE(ρ:bF)(B:Nat)(m:List (Tr E2))(x:Option E2)(y:Option bM):Prop:=∀e2,x=some e2->∃e,y=some e/\RE ρ B m e2 e
def Qc(ρ:bF)(B:Nat)(m:List (Tr E2))(x:Nat×Nat×Option E2)(y:Nat×Nat×Option bM):Prop:=x.1=y.1/\x.2.1=y.2.1/\OE ρ B m x.2.2 y.2.2
def OD{B':Nat}{mf:List (Tr E2)}:∀{HL:List (Nat×Nat×Option E2)}{us:List (Nat×Nat×Option bM)}{m2:List (Tr E2)}{m:List (Tr bM)},aI (Qc ρ B' mf) HL us->m2.length=m.length->(∀lv sl,OE ρ B' mf (j5 m2 lv sl) (aT m lv sl))->∀lv sl,OE ρ B' mf (j5 (gG m2 HL) lv sl) (aT (bI m us) lv sl)|[],[],_,_,_,_,h=>h|(lv2,sl2,e2)::r2,(lv,sl,e)::r,m2,m,hu,hl,h=>by obtain⟨⟨h1,h2,h3⟩,hr⟩:=hu;subst h1 h2;refine OD (m2:=Cz m2 lv2 sl2 e2) (m:=cH m lv2 sl2 e) hr (by rw[tM,nE,hl]) λcV dy=>?_;rw[kW,cM,hl]<;>grind|[],_::_,_,_,hu,_,_=>hu.elim|_::_,[],_,_,hu,_,_=>hu.elim
def MR.dD{B':Nat}{HL:List (Nat×Nat×Option E2)}{us:List (Nat×Nat×Option bM)}(h:MR ρ B m2 m)(hB:B<=B')(hst:fS B m2 (gG m2 HL))(hu:aI (Qc ρ B' (gG m2 HL)) HL us):MR ρ B' (gG m2 HL) (bI m us):=by refine⟨by rw[Au,dM,h.len],λlv sl e2 he=>OD hu h.len (λlv sl e2 he=>?_) lv sl e2 he⟩;obtain⟨e,h1,h2⟩:=h.gz lv sl e2 he;exact⟨e,h1,RE.mono hB (λ_ _=>rfl) (λ_ _=>RC.move hst hB λ_ _=>rfl) h2⟩
def cR{lv sl av:Nat}{r:SL}(h:rowOf m2 lv sl av=some r):j5 m2 lv sl=some (.row av r.t r.l):=by
 unfold rowOf at h;split at h
 .split at h;.cases h<;>simp_all
  grind
 grind
def gX{lv sl av:Nat}{r:SL}:rowOf m2 lv sl av=some r↔j5 m2 lv sl=some (.row av r.t r.l):=by refine⟨cR,λh=>?_⟩<;>simp_all[j5,rowOf]
def tN(n:Nat):Nat.beq n n=true:=by simp
def jG(hm:MR ρ B m2 m){lv sl av u:Nat}{r:SL}(h:rowOf m2 lv sl av=some r)(hu:ρ av=some u):aT m lv sl=some (.row u (bB r.t r.l))/\bS.rowAt m lv sl u=some (bB r.t r.l):=by obtain⟨e,h1,_,u',h2,rfl⟩:=hm.gz _ _ _ (cR h);unfold bS.rowAt<;>simp_all
def JN(hm:MR ρ B m2 m){lv sl av u:Nat}{r:SL}(h:rowOf m2 lv sl av=some r)(hu:ρ av=some u):bS.sG m lv sl u=some (bB r.t r.l):=by have h1:=(jG hm h hu).1<;>simp_all[rowOf,bF,bB,sG]
def bA(t:Ty)(l:List t.den):(bB t l).length=l.length:=by simp[bB]
def gY(t:Ty)(l:List t.den):(bB t l).all (λe=>e.length==t.size)=true:=by simp[bB,lx,fh]
def CU(t:Ty)(l:List t.den)(i:Nat):(bB t l)[i]?=(l[i]?).map (fR t):=by simp[bB]
def nT(t:Ty)(l l':List t.den):bB t (l++l')=bB t l++bB t l':=by simp[bB]
def nH(hm:MR ρ B m2 m){lv sl av:Nat}{t:Ty}{r:SL}{a:AV}(h:RC ρ B m2 (.ref lv sl av t) a)(hr:rowOf m2 lv sl av=some r):dQ m a=some (bB r.t r.l):=by obtain⟨_,u,n,hu,rfl,hn⟩:=h;have:=JN hm hr hu;simp[dQ,this,ae];rw[hn r hr];simp[bA,f8]
def kz(hm:MR ρ B m2 m){lv sl av off len:Nat}{t:Ty}{r:SL}{a:AV}(h:RC ρ B m2 (.ku lv sl av t off len) a)(hr:rowOf m2 lv sl av=some r)(hl:off+len<=r.l.length):dQ m a=some (bB r.t ((r.l.drop off).take len)):=by obtain⟨_,u,hu,rfl,_⟩:=h;have:=JN hm hr hu<;>simp_all[rowOf,bF,Ty.den,bB,Ty.size,dQ]
def jk{t:Ty}{l:List t.den}{o:Ow}{a:AV}(h:RC ρ B m2 (.sl t l o) a):dQ m a=some (bB t l)/\(a=.d (.sl (bB t l))\/∃o',a=.own (bB t l) o')/\(o≠.aY->a=.d (.sl (bB t l))\/∃o',o'≠.aY/\a=.own (bB t l) o'):=by cases o with|app v=>rcases h with⟨_,⟨_,rfl⟩|⟨u,_,rfl⟩⟩<;>exact⟨rfl,.inr ⟨_,rfl⟩,λ_=>.inr ⟨_,by simp,rfl⟩⟩|d=>rcases h with rfl|⟨o,ho,rfl⟩<;>simp_all[RC,Ty.den,bF,bB,dQ]|full=>simp_all[RC,Ty.den,bF,bB,dQ]|aY=>rcases h with rfl|⟨o,rfl⟩<;>simp_all[RC,Ty.den,bF,bB,dQ]
def iD{f:Bool}{a:AV}(h:RC ρ B m2 (.nil f) a):dQ m a=some []/\(a=.d (.sl [])\/∃o',o'≠.aY/\a=.own [] o'):=by cases f with|true=>simp_all[RC,bF,dQ]|false=>rcases h with rfl|⟨o,ho,rfl⟩<;>simp_all[RC,bF,dQ]
def OF{els:List (List D)}{o:YT}(h:o≠.aY):Be m (.own els o)=some (.sl els,[]):=by cases o with|aY=>grind|_=>rfl
def ZQ(hm:MR ρ B m2 m){c c':Cell}{a:AV}{ks:List (Nat×Nat)}(h:Mw m2 c=some (c',ks))(hc:RC ρ B m2 c a):∃d,Be m a=some (d,ks)/\pE c'=some d:=by
 unfold Mw at h;split at h;.cases h<;>simp_all[RC,bF,pE,Be]
 .cases h<;>simp_all[RC,bF,pE,Be]
 .cases h<;>simp_all[RC,bF,pE,Be]
 .cases h<;>simp_all[RC,bF,pE,Be]
 .cases h;rcases(iD (m:=m) hc).2with rfl|⟨o,ho,rfl⟩;.exact⟨_,rfl,rfl⟩
  .exact⟨_,OF ho,rfl⟩
 .cases h
 .rename_i t l o hne;cases h;rcases(jk (m:=m) hc).2.2 (λe=>hne e)with rfl|⟨o',ho,rfl⟩;.exact⟨_,rfl,rfl⟩
  .exact⟨_,OF ho,rfl⟩
 .split at h;.rename_i r hr;cases h;have he:=nH hm hc hr;obtain⟨_,u,n,hu,rfl,hn⟩:=hc;refine⟨.sl (bB r.t r.l),?_,rfl⟩;simp[Be,he,cf]
  grind
 .rename_i lv sl av t off len;split at h;.rename_i r hr;cases h;have he:=kz hm hc hr (hc.2.choose_spec.2.2 r hr);obtain⟨_,u,hu,rfl,hn⟩:=hc;refine⟨.sl (bB r.t ((r.l.drop off).take len)),?_,rfl⟩;simp[Be,he,cf]
  grind
 grind
def MD(hm:MR ρ B m2 m):∀{cs cs':List Cell}{aU:List AV}{ks:List (Nat×Nat)},nK m2 cs=some (cs',ks)->aI (RC ρ B m2) cs aU->∃ds,ED m aU=some (ds,ks)/\cB cs'=some ds
 |[],cs',aU,ks,h,ha=>by match aU,ha with|[],_=>cases h;exact⟨[],rfl,rfl⟩
 |c::r,cs',aU,ks,h,ha=>by match aU,ha with
  |a::aU,⟨ha,hr⟩=>
   simp[nK]at h;split at h;.rename_i y k ys k' h1 h2;cases h;obtain⟨d,g1,g2⟩:=ZQ hm h1 ha;obtain⟨ds,g3,g4⟩:=MD hm h2 hr;exact⟨d::ds,by simp only[ED,g1,g3],by simp only[cB,g2,g4]⟩
   grind
def lI{α:Type}(hm:MR ρ B m2 m){x:Cell}{a:AV}{e:Option Ty}{K:SL->Option α}{r:α}(h:p6 m2 x e K=some r)(hx:RC ρ B m2 x a):∃n,gP m a=some (bB n.t n.l)/\K n=some r:=by
 have key:∀{a:AV}{els:List (List D)},dQ m a=some els->(∀b,a≠.d (.sc (.string b)))->gP m a=some els:=by simp_all[RC,p6,bF,gP,dQ]
 unfold p6 at h;split at h;.rename_i t l o;refine⟨⟨t,l⟩,key (jk hx).1 λb hb=>?_,h⟩;have:=(jk (m:=m) hx).1;rw[hb]at this;cases this
 .obtain⟨t,rfl,h⟩:=aE h;refine⟨⟨t,[]⟩,key (iD hx).1 λb hb=>?_,h⟩;have:=(iD (m:=m) hx).1;rw[hb]at this;cases this
 .obtain⟨r',hr,h⟩:=aE h;refine⟨r',key (nH hm hx hr) λb hb=>?_,h⟩;simp_all[rowOf,cA,RC,gP,dQ,bF]
 .rename_i lv sl av t off len;obtain⟨r',hr,h⟩:=aE h;obtain⟨hl,h⟩:=cC h;have hl:=dE hl;refine⟨⟨r'.t,(r'.l.drop off).take len⟩,key (kz hm hx hr hl) λb hb=>?_,h⟩;have:=kz hm hx hr hl;rw[hb]at this;cases this
 .rename_i s;cases hx;exact⟨⟨.int .u8,bP s⟩,by simp[gP,bB,bP,fR,rc,Function.comp_def],h⟩
 grind
end
def KR(ρ:bF)(k2 k:Nat×Nat×Nat):Prop:=(k2=k/\k.1=0)\/∃v u,k2=kZ v/\k=kZ u/\ρ v=some u
def bn(ρ:bF)(l2 l:List (Nat×Nat×Nat)):Prop:=∀k∈l,∃k2∈l2,KR ρ k2 k
structure pF(ρ:bF)(B B':Nat)(s2:S2)(s:St)(E:Jx)(e:gu):Prop where
 val:RV ρ B' (gG s2.mem E.dD) E.val e.val
 mem:MR ρ B' (gG s2.mem E.dD) (bI s.mem e.dD)aO:TR ρ B' (eO s2.aO E.cT) (eO s.aO e.cT)ajf:fS B s2.mem (gG s2.mem E.dD)rd:bn ρ E.rd e.rd
 wr:bn ρ E.wr e.wr
def eB{α:Type}(ρ:bF)(B B':Nat)(s2:S2)(s:St)(op:cy)(row dst p:Nat)(K:iA->Option α)(r:α):Prop:=∃E e,(∀call sh,op.run call sh s row dst p=some (.cu e))/\pF ρ B B' s2 s E e/\K (.cu E)=some r
section
variable{α:Type}{ρ:bF}{B B':Nat}{s2:S2}{s:St}{op:cy}{row dst p nx:Nat}{K:iA->Option α}{r:α}
def MR.mono{m2:List (Tr E2)}{m:List (Tr bM)}(h:MR ρ B m2 m)(hB:B<=B'):MR ρ B' m2 m:=⟨h.len,λlv sl e2 he=>by obtain⟨e,h1,h2⟩:=h.gz lv sl e2 he;exact⟨e,h1,RE.mono hB (λ_ _=>rfl) (λ_ _=>RC.move (fS.refl _ _) hB λ_ _=>rfl) h2⟩⟩
def TR.up{t2 t:Tr Unit}(h:TR ρ B t2 t)(hB:B<=B'):TR ρ B' t2 t:=λv hv=>⟨by have:=(h v hv).1;omega,(h v hv).2⟩
def RV.up{m:List (Tr E2)}{v:V2}{a:AV}(h:RV ρ B m v a)(hB:B<=B'):RV ρ B' m v a:=h.move (fS.refl _ _) hB λ_ _=>rfl
def RC.up{m:List (Tr E2)}{v:Cell}{a:AV}(h:RC ρ B m v a)(hB:B<=B'):RC ρ B' m v a:=h.move (fS.refl _ _) hB λ_ _=>rfl
def bn.nil{l2:List (Nat×Nat×Nat)}:bn ρ l2 []:=λ_ h=>by cases h
def bn.append{a b c d:List (Nat×Nat×Nat)}(h:bn ρ a b)(k:bn ρ c d):bn ρ (a++c) (b++d):=by
 intro x hx;rcases bm.1 hx with hx|hx;.obtain⟨y,h1,h2⟩:=h x hx;exact⟨y,dt _ h1,h2⟩
 .obtain⟨y,h1,h2⟩:=k x hx;exact⟨y,du _ h1,h2⟩
def bn.ke{a b:List (Nat×Nat×Nat)}(lv sl:Nat)(h:bn ρ a b):bn ρ (cF lv sl::a) (cF lv sl::b):=by
 intro x hx;rcases dq.1 hx with rfl|hx;.simp_all[bn,bF,KR,cF]
 .obtain⟨y,h1,h2⟩:=h x hx<;>grind
def bn.jx(ks:List (Nat×Nat)):bn ρ (jx ks) (jx ks):=by intro x hx;refine⟨x,hx,.inl ⟨rfl,?_⟩⟩;obtain⟨k,_,rfl⟩:=j1.1 hx;rfl
def uV{m:List (Tr E2)}{c:Cell}{a:AV}(h:RC ρ B m c a):bn ρ (tH c) (dN a):=by cases c with
 |nil f=>cases f with|true=>cases h;exact bn.nil|false=>rcases h with rfl|⟨o,_,rfl⟩<;>exact bn.nil
 |sl t l o=>rcases(jk (m:=[]) h).2.1with rfl|⟨o',rfl⟩<;>exact bn.nil|ref lv sl av t=>obtain⟨_,u,n,_,rfl,_⟩:=h;exact bn.ke _ _ bn.nil|ku lv sl av t off len=>obtain⟨_,u,_,rfl,_⟩:=h;exact bn.ke _ _ bn.nil|ptr lv sl av i off=>obtain⟨_,u,_,rfl⟩:=h;exact bn.ke _ _ bn.nil|fX lv sl av off n sz=>obtain⟨_,u,_,rfl⟩:=h;exact bn.ke _ _ bn.nil|mp lv sl av=>obtain⟨_,u,_,rfl⟩:=h;exact bn.ke _ _ bn.nil|_=>cases h;exact bn.nil
def xP{m:List (Tr E2)}:∀{cs:List Cell}{aU:List AV},aI (RC ρ B m) cs aU->bn ρ (cs.flatMap tH) (aU.flatMap dN)|[],[],_=>bn.nil|c::cs,a::aU,h=>by exact(uV h.1).append (xP h.2)|[],_::_,h=>h.elim|_::_,[],h=>h.elim
def JO{a:AV}(h:cellsOf a=some [a])(h0:jX a=true):e9 a=dN a:=by cases a<;>first|rfl|cases h0
def OG{m:List (Tr E2)}{v:V2}{a:AV}(h:RV ρ B m v a):bn ρ (HC v) (e9 a):=by cases v with|c c=>rw[JO (RC.cell h).1 (RC.cell h).2.1];exact uV h|agg cs=>obtain⟨aU,rfl,h2⟩:=h;exact xP h2|fL f cs=>obtain⟨aU,rfl,h2⟩:=h;exact bn.nil|jU vs=>obtain⟨aU,rfl,h2⟩:=h;exact bn.nil
def pF.yZ(hs:MR ρ B s2.mem s.mem)(ht:TR ρ B s2.aO s.aO)(hB:B<=B'){v:V2}{a:AV}{Tk rd:List (Nat×Nat×Nat)}(hv:RV ρ B s2.mem v a)(hr:bn ρ Tk rd):pF ρ B B' s2 s {val:=v,dD:=[],cT:=[],rd:=Tk} {val:=a,dD:=[],cT:=[],rd:=rd}:=⟨hv.up hB,hs.mono hB,ht.up hB,fS.refl _ _,hr,bn.nil⟩
variable(hm:MR ρ B s2.mem s.mem)(ht:TR ρ B s2.aO s.aO)(cr:vS ρ B s2.mem s2.slots s.slots)(hB:B<=B')
include hm ht hB
theorem eB.pure{v:V2}{a:AV}(hrun:∀call sh,op.run call sh s row dst p=gu.pure a)(hv:RV ρ B s2.mem v a)(hK:K (lG v)=some r):eB ρ B B' s2 s op row dst p K r:=⟨_,_,hrun,.yZ hm ht hB hv bn.nil,hK⟩
include cr
omit hm ht hB cr in theorem rZ{m:List (Tr E2)}{b:Bool}{a:AV}(h:RV ρ B m (.c (.bool b)) a):jW a=some b:=by cases h;rfl
omit hm ht hB cr in theorem tO{m:List (Tr E2)}{k:IntKind}{n:Int}{a:AV}(h:RV ρ B m (.c (.int k n)) a):a=.d (.sc (.int k n)):=h
omit hm ht hB cr in theorem jH{m:List (Tr E2)}{k:IntKind}{n:Int}{a:AV}(h:RV ρ B m (.c (.int k n)) a)(h0:0<=n):gN a=some n.toNat:=by cases h;simp[gN,td,h0]
theorem Qd{c a b:cq}{E:ai}{wk:Wk}{ctx:Nat}(h:dn E wk ctx s2 row dst nx (.pick c a b) K=some r):eB ρ B B' s2 s (.pick c a b) row dst p K r:=by
 obtain⟨t,hc,h⟩:=rY h;have hb:=rZ (bx cr hc);have hrun:∀call sh,cy.run call sh s row dst p (.pick c a b)=gu.pure (if t then a.ev s.slots else b.ev s.slots):=λ_ _=>by simp[cy.run,hb]
 split at h;.rename_i x y hx hy;refine .pure hm ht hB hrun (v:=.c (.bool (cond t x y))) ?_ h;cases t with|true=>exact bx cr hx|false=>exact bx cr hy
 .rename_i x y _ hx hy;cases t with|true=>exact .pure hm ht hB hrun (bx cr hx) h|false=>exact .pure hm ht hB hrun (bx cr hy) h
 .rename_i x hx _;obtain⟨rfl,h⟩:=cC h;exact .pure hm ht hB hrun (bx cr hx) h
 .rename_i y _ hy;obtain⟨ht',h⟩:=cC h;cases t with|true=>cases ht'|false=>exact .pure hm ht hB hrun (bx cr hy) h
 grind
omit hm ht hB cr in theorem y7{m:List (Tr E2)}{cs new:List Cell}{aU as':List AV}(h:aI (RC ρ B m) cs aU)(h':aI (RC ρ B m) new as')(off:Nat):aI (RC ρ B m) (bS.splice cs off new) (bS.splice aU off as'):=by unfold bS.splice;rw[h'.length];first|exact((h.take off).append h').append (h.drop _)|exact(h.take off).append (h'.append (h.drop _))
omit hm ht hB in theorem CV:∀{ps:List (Nat×Nat×cq)}{cs cs':List Cell}{aU:List AV},FI s2 cs ps=some cs'->aI (RC ρ B s2.mem) cs aU->∃as',qG s.slots aU ps=some as'/\aI (RC ρ B s2.mem) cs' as'
 |[],cs,cs',aU,h,ha=>by cases h;exact⟨aU,rfl,ha⟩|(off,sz,x)::ps,cs,cs',aU,h,ha=>by
  simp[FI]at h;split at h
  .rename_i new hn;obtain⟨v,hv,hc⟩:=bg hn;split at h;.rename_i hb;rw[ba]at hb;have h1:=bb hb.1;have h2:=i7 hb.2;obtain⟨LU,g1,g2⟩:=xO hc (bx cr hv);obtain⟨as',g3,g4⟩:=CV h (y7 ha g2 off);refine⟨as',?_,g4⟩;simp only[qG,g1];rw[be ⟨by rw[<-g2.length];exact h1,by rw[<-ha.length];exact h2⟩]<;>omega
   grind
  grind
theorem ME{z:List AV}{ps:List (Nat×Nat×cq)}(h:(cA ((Cy z).bind λcs=>FI s2 cs ps) λcs=>K (lG (.agg cs)))=some r):eB ρ B B' s2 s (.build z ps) row dst p K r:=by obtain⟨cs,hc,h⟩:=aE h;obtain⟨cs0,h0,h1⟩:=bg hc;obtain⟨as',g1,g2⟩:=CV cr h1 (xN h0);exact .pure hm ht hB (λ_ _=>by simp[cy.run,g1]) (v:=.agg cs) ⟨as',rfl,g2⟩ h
theorem EL{x:cq}{E:ai}{wk:Wk}{ctx:Nat}(h:dn E wk ctx s2 row dst nx (.nilCheck x) K=some r):eB ρ B B' s2 s (.nilCheck x) row dst p K r:=by
 obtain⟨v,hv,h⟩:=aE h;have hr:=bx cr hv;split at h;.have hr':=hr;obtain⟨_,u,_,he⟩:=hr;exact .pure hm ht hB (λ_ _=>by simp only[cy.run,he]) hr' h
 .have hr':=hr;have he:x.ev s.slots=_:=hr;exact .pure hm ht hB (λ_ _=>by simp only[cy.run,he]) hr' h
 .have hr':=hr;obtain⟨aU,he,_⟩:=hr;exact .pure hm ht hB (λ_ _=>by simp[cy.run,he]) hr' h
 grind
omit hm ht hB cr in theorem ZR{k k':IntKind}{a b:Int}{Tl:BinOp}{K:Cell->Option α}(h:adV Tl k a k' b K=some r):∃v c,GR Tl k a k' b=some v/\K c=some r/\∀(m:List (Tr E2)),RC ρ B m c (.d (.sc v)):=by
 unfold adV at h;split at h;.obtain⟨h1,h⟩:=cC h;refine⟨_,_,?_,h,λ_=>rfl⟩<;>simp_all[aH,bF,RC,GR]
 .obtain⟨h1,h⟩:=cC h;refine⟨_,_,?_,h,λ_=>rfl⟩<;>simp_all[aH,bF,RC,GR]
 .split at h;.cases h
  .subst_vars;split at h;case h_4|h_5=>
    obtain⟨h1,h⟩:=cC h;refine⟨_,_,?_,h,λ_=>rfl⟩;have:¬b=0:=by simpa using h1
    simp[GR,this]
   all_goals first|(refine⟨_,_,?_,h,λ_=>rfl⟩;simp[GR,E5];done)|cases h
omit hm ht hB cr in theorem ah2(s:List UInt8):(⟨s.toArray⟩:ByteArray).toList=s:=by simp_all
end
end Go.Sym
