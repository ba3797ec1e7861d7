/- A machine over typed data that the kernel runs with unknown data: what a cut of Go code computes becomes a Lean function. Definitions. -/
import Derived.Test.YtdogilonhnbapaaGreatDoorEngB
set_option linter.unusedVariables false
set_option linter.unusedSimpArgs false
namespace Go.Sym
open Go Go.bI
inductive qc where|mk(kind:Int)(int:Int)(text:List UInt8)(list:List qc)(cut:Bool)deriving Inhabited
def qc.kind:qc->Int|.mk k _ _ _ _=>k
def qc.int:qc->Int|.mk _ i _ _ _=>i
def qc.text:qc->List UInt8|.mk _ _ s _ _=>s
def qc.list:qc->List qc|.mk _ _ _ l _=>l
def qc.cut:qc->Bool|.mk _ _ _ _ c=>c
inductive Ty where|val|int(k:IntKind)|bool|str|sl(t:Ty)|unit|prod(a b:Ty)|sum(a b:Ty)deriving DecidableEq,Inhabited
@[reducible]def Ty.den:Ty->Type|.val=>qc|.int _=>Int|.bool=>Bool|.str=>List UInt8|.sl t=>List t.den|.unit=>Unit|.prod a b=>a.den×b.den|.sum a b=>a.den⊕b.den
structure eW where
 t:Ty
 v:t.den
def uE(a b:Ty)(x:a.den):Option b.den:=match decEq a b with|.isTrue h=>some (h▸x)|.isFalse _=>none
def js(a b:Ty)(x:List a.den):Option (List b.den):=match decEq a b with|.isTrue h=>some (h▸x)|.isFalse _=>none
def Ty.size:Ty->Nat|.val=>5|.int _|.bool|.str|.sl _=>1|.unit=>0|.prod a b=>a.size+b.size|.sum _ _=>0
inductive Ow where|d|full|app(v:Nat)|bA deriving Inhabited
inductive Cell where|int(k:IntKind)(a:Int)|bool(b:Bool)|er(b:Bool)|str(s:List UInt8)|raw(v:Value)|nil(full:Bool)|sl(t:Ty)(l:List t.den)(o:Ow)|ref(lv sl ai:Nat)(t:Ty)|jz(lv sl ai:Nat)(t:Ty)(off len:Nat)|ptr(lv sl ai i off:Nat)|fJ(t:Ty)(x:t.den)(off:Nat)|ff(lv sl ai off n sz:Nat)|mp(lv sl ai:Nat)deriving Inhabited
inductive V2 where|c(x:Cell)|agg(cs:List Cell)|gm(f:Nat)(cap:List Cell)|iF(vs:List (Bool×List Cell))deriving Inhabited
inductive E2 where|row(ai:Nat)(t:Ty)(l:List t.den)|box(ai:Nat)(cs:List Cell)|set(ai:Nat)(l:List (List UInt8))deriving Inhabited
structure S2 where
 slots:Tr V2
 outer:List (Tr V2)mem:List (Tr E2)aG:Tr Unit
 nv:Nat deriving Inhabited
mutual def Li:qc->List D|.mk k i s l c=>[.sc (.int .u8 k),.sc (.int .i64 i),.sc (.string ⟨s.toArray⟩),.sl (Ed l),.sc (.bool c)]def Ed:List qc->List (List D)|[]=>[]|v::r=>Li v::Ed r end
def eX:(t:Ty)->t.den->List D|.val,v=>Li v|.int k,a=>[.sc (.int k a)]|.bool,b=>[.sc (.bool b)]|.str,s=>[.sc (.string ⟨s.toArray⟩)]|.sl t,l=>[.sl (List.map (eX t) l)]|.unit,_=>[]|.prod a b,x=>eX a x.1++eX b x.2|.sum _ _,_=>[]
def iK:(t:Ty)->t.den->List Cell|.val,v=>[.int .u8 v.kind,.int .i64 v.int,.str v.text,.sl .val v.list .d,.bool v.cut]|.int k,a=>[.int k a]|.bool,b=>[.bool b]|.str,s=>[.str s]|.sl t,l=>[.sl t l .d]|.unit,_=>[]|.prod a b,x=>iK a x.1++iK b x.2|.sum _ _,_=>[]
def IB(k:IntKind):List Cell->Option (Int×List Cell)
 |.int k' a::r=>match decEq k k' with|.isTrue _=>some (a,r)|.isFalse _=>none
 |_=>none
def Gf:List Cell->Option (Bool×List Cell)|.bool b::r=>some (b,r)|_=>none
def NC:List Cell->Option (List UInt8×List Cell)|.str s::r=>some (s,r)|_=>none
def Wv(t:Ty):List Cell->Option (List t.den×List Cell)
 |.nil _::r=>some ([],r)|.sl t' l _::r=>match js t' t l with|some l=>some (l,r)|none=>none
 |_=>none
def ZS(cs:List Cell):Option (qc×List Cell):=match IB .u8 cs with
 |some (k,r)=>match IB .i64 r with
  |some (i,r)=>match NC r with
   |some (s,r)=>match Wv .val r with
    |some (l,r)=>match Gf r with|some (c,r)=>some (.mk k i s l c,r)|none=>none
    |none=>none
   |none=>none
  |none=>none
 |none=>none
def yR:(t:Ty)->List Cell->Option (t.den×List Cell)
 |.val,cs=>ZS cs|.int k,cs=>IB k cs|.bool,cs=>Gf cs|.str,cs=>NC cs|.sl t,cs=>Wv t cs|.unit,r=>some ((),r)|.prod a b,r=>match yR a r with
  |some (x,r')=>match yR b r' with|some (y,r'')=>some ((x,y),r'')|none=>none
  |none=>none
 |.sum _ _,_=>none
def yS(t:Ty)(cs:List Cell):Option t.den:=match yR t cs with|some (x,[])=>some x|_=>none
def acg:Value->Cell|.int k a=>.int k a|.bool b=>.bool b|.string b=>.str b.data.toList|v=>.raw v
def Ww:AV->Option Cell|.d (.sc v)=>some (acg v)|.own [] .full=>some (.nil true)|_=>none
def Bn:List AV->Option (List Cell)|[]=>some []|x::r=>match Ww x,Bn r with|some y,some ys=>some (y::ys)|_,_=>none
def ach:AV->Option V2|.agg cs=>(Bn cs).map .agg|.iF []=>some (.iF [])|.gm f []=>some (.gm f [])|x=>(Ww x).map .c
def Wx:D->Option Cell|.sc v=>some (acg v)|.sl []=>some (.nil false)|_=>none
def sr:List D->Option (List Cell)|[]=>some []|x::r=>match Wx x,sr r with|some y,some ys=>some (y::ys)|_,_=>none
def iD(m:List (Tr E2))(lv sl:Nat):Option E2:=(m[lv]?).bind λt=>t.get? sl
def Bo(m:List (Tr E2))(lv sl:Nat)(e:Option E2):List (Tr E2):=m.modify lv λt=>t.set sl e
def fo(m:List (Tr E2)):List (Nat×Nat×Option E2)->List (Tr E2)|[]=>m|(lv,sl,e)::r=>fo (Bo m lv sl e) r
structure SL where
 t:Ty
 l:List t.den
def rowOf(m:List (Tr E2))(lv sl ai:Nat):Option SL:=match iD m lv sl with
 |some (.row v t l)=>match Nat.beq v ai with|true=>some ⟨t,l⟩|false=>none
 |_=>none
def ND(m:List (Tr E2))(lv sl ai:Nat):Option (List (List UInt8)):=match iD m lv sl with
 |some (.set v l)=>match Nat.beq v ai with|true=>some l|false=>none
 |_=>none
def Lj(m:List (Tr E2)):Cell->Option (Cell×List (Nat×Nat))
 |.int k a=>some (.int k a,[])|.bool b=>some (.bool b,[])|.str s=>some (.str s,[])|.raw v=>some (.raw v,[])|.nil _=>some (.nil false,[])|.sl _ _ .bA=>none|.sl t l _=>some (.sl t l .d,[])|.ref lv sl ai _=>match rowOf m lv sl ai with|some r=>some (.sl r.t r.l .d,[(lv,sl)])|none=>none
 |.jz lv sl ai _ off len=>match rowOf m lv sl ai with|some r=>some (.sl r.t ((r.l.drop off).take len) .d,[(lv,sl)])|none=>none
 |_=>none
def lZ(m:List (Tr E2)):List Cell->Option (List Cell×List (Nat×Nat))|[]=>some ([],[])|x::r=>match Lj m x,lZ m r with|some (y,k),some (ys,ks)=>some (y::ys,k++ks)|_,_=>none
structure IC where
 val:V2
 cX:List (Nat×Nat×Option E2)cB:List (Nat×Bool)rd:List (Nat×Nat×Nat)deriving Inhabited
inductive gC where|bX(e:IC)|all(val:V2)(s:S2)deriving Inhabited
def IC.wr(e:IC):List (Nat×Nat×Nat):=e.cX.map (λu=>bL u.1 u.2.1)++e.cB.map λu=>jX u.1
def ki(v:V2):gC:=.bX {val:=v,cX:=[],cB:=[],rd:=[]}
def dO(c:Cell):gC:=ki (.c c)
def su:Cell->List (Nat×Nat×Nat)|.ref lv sl _ _=>[bL lv sl]|.jz lv sl _ _ _ _=>[bL lv sl]|.ptr lv sl _ _ _=>[bL lv sl]|.ff lv sl _ _ _ _=>[bL lv sl]|.mp lv sl _=>[bL lv sl]|_=>[]
def Dk:V2->List (Nat×Nat×Nat)|.c x=>su x|.agg cs=>cs.flatMap su|_=>[]
def kj(ks:List (Nat×Nat)):List (Nat×Nat×Option E2):=ks.map λk=>(k.1,k.2,none)
def Wy(s:Tr V2)(dst:Option Nat)(v:V2):Tr V2:=match dst with|some n=>s.set n (some v)|none=>s
def S2.app(s:S2)(dst:Option Nat):gC->S2|.bX e=>{slots:=Wy s.slots dst e.val,outer:=s.outer,mem:=fo s.mem e.cX,aG:=dR s.aG e.cB,nv:=s.nv}|.all v s'=>{s' with slots:=Wy s'.slots dst v}
def Cell.still:Cell->Bool|.ref ..|.jz ..|.ptr ..|.ff ..|.mp ..=>false|.sl _ _ (.app _)=>false|_=>true
def V2.still:V2->Bool|.c x=>x.still|.agg cs=>cs.all Cell.still|.gm _ cs=>cs.all Cell.still|.iF vs=>vs.all λv=>v.2.all Cell.still
def loose:Tr V2->Tr V2|.lf=>.lf|.nd v l r=>.nd (match v with|none=>none|some x=>match x.still with|true=>none|false=>some x) (loose l) (loose r)
def merge:Tr V2->Tr V2->Tr V2|.lf,_=>.lf|.nd v l r,b=>.nd (match v with|none=>none|some x=>match x.still with|true=>some x|false=>b.top) (merge l b.left) (merge r b.right)
def jd(s:S2):bZ->Option V2|.t n=>s.slots.get? n|.c v=>ach v
def Gg(s:S2):List bZ->Option (List V2)|[]=>some []|x::r=>match jd s x,Gg s r with|some y,some ys=>some (y::ys)|_,_=>none
def V2.cells?:V2->Option (List Cell)|.c x=>some [x]|.agg cs=>some cs|_=>none
def Bp(agg:Bool)(cs:List Cell):Option V2:=match agg with|true=>some (.agg cs)|false=>match cs with|[x]=>some (.c x)|_=>none
section
variable{α:Type}
def aE(b:Bool)(k:Option α):Option α:=cond b k none
def idx{β:Type}(l:List β)(i:Int):Option β:=cond (decide (0<=i)) (l[i.toNat]?) none
def Pc:Nat->Nat->(Nat->Option α)->Option α|0,_,_=>none|n+1,k,F=>cond (Nat.beq k n) (F n) (Pc n k F)
def fP(i:Int)(n:Nat):Bool:=decide (0<=i)&&decide (i.toNat<n)
def room(n b:Nat):Bool:=decide (n<=eT)&&decide (n*b<=jO)
def ID{β:Type}(news l:List β):List β:=news.take (min news.length l.length)++l.drop (news.take (min news.length l.length)).length
def bM(s:List UInt8):List Int:=s.map λc=>(c.toNat:Int)
def iL(v:Option V2)(k:Cell->Option α):Option α:=match v with|some (.c x)=>k x|_=>none
def Pd(v:Option V2)(k:Int->Option α):Option α:=match v with|some (.c (.int _ n))=>k n|_=>none
def Gh(v:Option V2)(k:Nat->Option α):Option α:=Pd v λn=>aE (decide (0<=n)) (k n.toNat)
def vT(v:Option V2)(k:Bool->Option α):Option α:=match v with|some (.c (.bool b))=>k b|_=>none
def bN{β:Type}(o:Option β)(k:β->Option α):Option α:=match o with|some x=>k x|none=>none
def aqa:Value->Option Cell|.int k a=>some (.int k a)|.bool b=>some (.bool b)|_=>none
def aci(op:BinOp)(k:IntKind)(a:Int)(k':IntKind)(b:Int)(K:Cell->Option α):Option α:=match op with|.shl=>aE (!decide (b<0)) (K (.int k (k.wrap (a*2^min b.toNat k.bits))))|.shr=>aE (!decide (b<0)) (K (.int k (a.fdiv (2^min b.toNat k.bits))))|op=>match decEq k k' with|.isFalse _=>none|.isTrue _=>match op with|.add=>K (.int k (k.wrap (a+b)))|.sub=>K (.int k (k.wrap (a-b)))|.mul=>K (.int k (k.wrap (a*b)))|.quo=>aE (!decide (b=0)) (K (.int k (k.wrap (a.tdiv b))))|.rem=>aE (!decide (b=0)) (K (.int k (a.tmod b)))|.and=>K (.int k (k.wrap (BitVec.ofInt k.bits a&&&BitVec.ofInt k.bits b).toNat))|.or=>K (.int k (k.wrap (BitVec.ofInt k.bits a|||BitVec.ofInt k.bits b).toNat))|.xor=>K (.int k (k.wrap (BitVec.ofInt k.bits a^^^BitVec.ofInt k.bits b).toNat))|.andNot=>K (.int k (k.wrap (BitVec.ofInt k.bits a&&&~~~(BitVec.ofInt k.bits b)).toNat))|.eql=>K (.bool (a==b))|.neq=>K (.bool (a !=b))|.lss=>K (.bool (decide (a<b)))|.leq=>K (.bool (decide (a<=b)))|.gtr=>K (.bool (decide (a>b)))|.geq=>K (.bool (decide (a>=b)))|_=>none
def acj(op:BinOp)(x y:List UInt8)(K:Cell->Option α):Option α:=match op with|.add=>aE (!decide (((x.length+y.length:Nat):Int)>IntKind.i64.max)) (K (.str (x++y)))|.eql=>K (.bool (x==y))|.neq=>K (.bool !(x==y))|.lss=>K (.bool (Op.bytesLess x y))|.leq=>K (.bool (Op.bytesLess x y||x==y))|.gtr=>K (.bool !(Op.bytesLess x y||x==y))|.geq=>K (.bool !(Op.bytesLess x y))|_=>none
def ack(op:BinOp)(x y:Cell)(K:Cell->Option α):Option α:=match x,y with|.int k a,.int k' b=>aci op k a k' b K|.str a,.str b=>acj op a b K|_,_=>none
def R9(kd:Nat):Cell->Cell->Option Bool
 |.bool a,.bool b=>match kd with|0=>some (a==b)|_=>none
 |.int k a,.int k' b=>match kd with
  |1=>match decEq k k' with|.isTrue _=>some (a==b)|.isFalse _=>none
  |_=>none
 |.str a,.str b=>match kd with|0=>none|1=>none|_=>some (a==b)
 |_,_=>none
def Gi(xs ys:List Cell):List (Nat×Nat)->Option Bool|[]=>some true|o::r=>match xs[o.1]?,ys[o.1]?,Gi xs ys r with|some x,some y,some b'=>(R9 o.2 x y).map λb=>b&&b'|_,_,_=>none
def unK(op:UnOp)(x:Cell)(K:Cell->Option α):Option α:=match x with
 |.bool b=>match op with|.not=>K (.bool !b)|_=>none
 |.int k n=>match op with|.neg=>K (.int k (k.wrap (0-n)))|.xor=>K (.int k (k.wrap (BitVec.ofInt k.bits (if k.signed then-1 else k.max)^^^BitVec.ofInt k.bits n).toNat))|_=>none
 |_=>none
def ou(m:List (Tr E2))(x:Cell)(e:Option Ty)(K:SL->Option α):Option α:=match x with|.sl t l _=>K ⟨t,l⟩|.nil _=>bN e λt=>K ⟨t,[]⟩|.ref lv sl ai _=>bN (rowOf m lv sl ai) K|.jz lv sl ai _ off len=>bN (rowOf m lv sl ai) λr=>aE (decide (off+len<=r.l.length)) (K ⟨r.t,(r.l.drop off).take len⟩)|.str s=>K ⟨.int .u8,bM s⟩|_=>none
def Ee(s:S2):List Cell->List (Nat×Nat×bZ)->Option (List Cell)|cs,[]=>some cs|cs,(off,sz,x)::r=>match(jd s x).bind V2.cells? with
 |some new=>match Nat.beq new.length sz&&Nat.ble (off+sz) cs.length with|true=>Ee s (bI.splice cs off new) r|false=>none
 |none=>none
def Bq(s:S2)(sz:Nat):List (List Cell)->List (Nat×bZ)->Option (List (List Cell)×List (Nat×Nat))|els,[]=>some (els,[])|els,(i,x)::r=>match((jd s x).bind V2.cells?).bind (lZ s.mem)with
 |some (e,ks)=>match Nat.beq e.length sz&&Nat.blt i els.length with
  |true=>match Bq s sz (els.set i e) r with|some (els',ks')=>some (els',ks++ks')|none=>none
  |false=>none
 |none=>none
def Br(t:Ty):List (List Cell)->Option (List t.den)|[]=>some []|e::r=>match yS t e,Br t r with|some x,some xs=>some (x::xs)|_,_=>none
def Bs:List V2->Option (List Cell)|[]=>some []|.c x::r=>(Bs r).map (x::·)|_=>none
def NF(m:List (Tr E2))(sz:Nat)(p:Cell)(K:List Cell->Option α):Option α:=match p with
 |.ptr lv sl ai i off=>match iD m lv sl with
  |some (.box v cs)=>match Nat.beq v ai&&Nat.beq i 0&&Nat.ble (off+sz) cs.length with|true=>K ((cs.drop off).take sz)|false=>none
  |some (.row v t l)=>match Nat.beq v ai&&Nat.ble (off+sz) t.size with|true=>Option.bind l[i]? λx=>K (((iK t x).drop off).take sz)|false=>none
  |some (.set _ _)=>none|none=>none
 |.fJ t x off=>match Nat.ble (off+sz) t.size with|true=>K (((iK t x).drop off).take sz)|false=>none
 |_=>none
def Bt(ks:List (Nat×Nat))(lv sl:Nat):Bool:=ks.any λk=>Nat.beq k.1 lv&&Nat.beq k.2 sl
def Ll(m:List (Tr E2))(sz:Nat)(p:Cell)(new:List Cell)(K:gC->Option α):Option α:=match p,Nat.beq new.length sz with
 |.ptr lv sl ai i off,true=>match iD m lv sl with
  |some (.box v cs)=>match Nat.beq v ai&&Nat.beq i 0&&Nat.ble (off+sz) cs.length with|true=>K (.bX {val:=.iF [],cX:=[(lv,sl,some (.box v (bI.splice cs off new)))],cB:=[],rd:=[bL lv sl]})|false=>none
  |some (.row v t l)=>match Nat.beq v ai&&Nat.ble (off+sz) t.size,lZ m new with
   |true,some (new,ks)=>match Bt ks lv sl with|true=>none|false=>Option.bind l[i]? λx=>bN (yS t (bI.splice (iK t x) off new)) λy=>K (.bX {val:=.iF [],cX:=kj ks++[(lv,sl,some (.row v t (l.set i y)))],cB:=[],rd:=bL lv sl::iG ks})
   |_,_=>none
  |some (.set _ _)=>none|none=>none
 |_,_=>none
def Pe(s:S2)(row:Bool)(lv sl aO sz bytes:Nat)(x y:Cell)(e:Option Ty)(K:gC->Option α):Option α:=match x with
 |.nil true=>ou s.mem y e λn=>match Nat.beq n.t.size sz with|true=>aE (room n.l.length bytes) (match row with|false=>K (.bX {val:=.c (.sl n.t n.l (.app aO)),cX:=[],cB:=[(aO,true)],rd:=su y})|true=>K (.bX {val:=.c (.ref lv sl aO n.t),cX:=[(lv,sl,some (.row aO n.t n.l))],cB:=[],rd:=su y}))|false=>none
 |.sl t l .full=>ou s.mem y (some t) λn=>match Nat.beq t.size sz,js n.t t n.l with|true,some news=>aE (room (l.length+news.length) bytes) (match row with|false=>K (.bX {val:=.c (.sl t (l++news) (.app aO)),cX:=[],cB:=[(aO,true)],rd:=su y})|true=>aE (l.isEmpty||!news.isEmpty) (K (.bX {val:=.c (.ref lv sl aO t),cX:=[(lv,sl,some (.row aO t (l++news)))],cB:=[],rd:=su y})))|_,_=>none
 |.sl t l (.app v)=>ou s.mem y (some t) λn=>match Nat.beq t.size sz,js n.t t n.l,row,s.aG.get? v with|true,some news,false,some ()=>aE (room (l.length+news.length) bytes) (K (.bX {val:=.c (.sl t (l++news) (.app aO)),cX:=[],cB:=[(v,false),(aO,true)],rd:=jX v::su y}))|_,_,_,_=>none
 |.ref cG dF ai t=>bN (rowOf s.mem cG dF ai) λr=>ou s.mem y (some t) λn=>match Nat.beq t.size sz,js r.t t r.l,js n.t t n.l with|true,some l,some news=>aE (room (l.length+news.length) bytes) (K (.bX {val:=.c (.ref cG dF aO t),cX:=[(cG,dF,some (.row aO t (l++news)))],cB:=[],rd:=bL cG dF::su y}))|_,_,_=>none
 |.jz cG dF ai t off len=>bN (rowOf s.mem cG dF ai) λr=>ou s.mem y (some t) λn=>match Nat.beq t.size sz,js r.t t r.l,js n.t t n.l with|true,some l,some news=>aE (decide (off+len<=l.length)&&room (len+news.length) bytes) (K (.bX {val:=.c (.ref cG dF aO t),cX:=[(cG,dF,some (.row aO t ((l.drop off).take len++news)))],cB:=[],rd:=bL cG dF::su y}))|_,_,_=>none
 |_=>none
def uF(x:Option bZ)(s:S2)(K:Option Nat->Option α):Option α:=match x with|none=>K none|some o=>Gh (jd s o) λn=>K (some n)
def ov{β:Type}(l:List β)(lo hi:Option Nat):List β:=match lo,hi with|none,none=>l|some a,none=>l.drop a|none,some b=>l.take b|some a,some b=>(l.drop a).take (b-a)
def mG(n:Nat)(lo hi:Option Nat):Bool:=match lo,hi with|none,none=>true|some a,none=>decide (a<=n)|none,some b=>decide (b<=n)|some a,some b=>decide (a<=b)&&decide (b<=n)
def zY(lo:Option Nat):Nat:=lo.getD 0
def Cell.isRow:Cell->Bool|.ref ..=>true|.jz ..=>true|_=>false
def V2.isRow:V2->Bool|.c x=>x.isRow|_=>false
def acm(m:List (Tr E2))(sz aO:Nat)(x:Cell)(lo hi:Option Nat)(K:gC->Option α):Option α:=match x with
 |.ref lv sl ai t=>bN (rowOf m lv sl ai) λr=>match Nat.beq t.size sz,js r.t t r.l with|true,some l=>aE (mG l.length lo hi) (K (.bX {val:=.c (.ref lv sl aO t),cX:=[(lv,sl,some (.row aO t (ov l lo hi)))],cB:=[],rd:=[bL lv sl]}))|_,_=>none
 |_=>none
def Lm(m:List (Tr E2))(sz:Nat)(x:Cell)(lo hi mx:Option Nat)(K:Cell->Option α):Option α:=match x with
 |.sl t l o=>match Nat.beq t.size sz with
  |true=>match mx with|none=>aE (mG l.length lo hi) (match o with
   |.bA=>K (.sl t (ov l lo hi) .bA)|.full=>match hi with|none=>K (.sl t (ov l lo hi) .full)|some _=>K (.sl t (ov l lo hi) .d)
   |_=>K (.sl t (ov l lo hi) .d))|some m=>match o,hi with|.bA,_=>none|_,none=>none|_,some h=>aE (mG l.length lo hi&&Nat.beq h m) (K (.sl t (ov l lo hi) .full))
  |false=>none
 |.nil f=>match mx with|none=>aE (mG 0 lo hi) (K (.nil f))|some _=>none
 |.ref lv sl ai t=>match Nat.beq t.size sz,mx with|true,none=>bN (rowOf m lv sl ai) λr=>aE (mG r.l.length lo hi) (K (.jz lv sl ai t (zY lo) (hi.getD r.l.length-zY lo)))|_,_=>none
 |.jz lv sl ai t off len=>match Nat.beq t.size sz,mx with|true,none=>aE (mG len lo hi) (K (.jz lv sl ai t (off+zY lo) (hi.getD len-zY lo)))|_,_=>none
 |_=>none
end
inductive gf where|int(k:IntKind)|bool|er|str|sl(t:Ty)(o:Ow)|nil(full:Bool)|ref(lv sl ai:Nat)(t:Ty)|ptr(lv sl ai i off:Nat)|fJ(t:Ty)(off:Nat)|mp(lv sl ai:Nat)deriving Inhabited
inductive rI where|c(x:gf)|agg(l:List gf)|gm(f:Nat)(l:List gf)deriving Inhabited
inductive NG where|row(ai:Nat)(t:Ty)|box(ai:Nat)(l:List gf)|set(ai:Nat)deriving Inhabited
@[reducible]def rj:List Ty->Ty|[]=>.unit|[a]=>a|a::b::r=>.prod a (rj (b::r))
def unpack:(ts:List Ty)->(rj ts).den->List eW|[],_=>[]|[a],x=>[⟨a,x⟩]|a::b::r,x=>⟨a,x.1⟩::unpack (b::r) x.2
def pack:(ts:List Ty)->List eW->Option (rj ts).den
 |[],[]=>some ()|[a],[d]=>uE d.t a d.v|a::b::r,d::ds=>match uE d.t a d.v,pack (b::r) ds with|some x,some y=>some (x,y)|_,_=>none
 |_,_=>none
def gf.fill:gf->List eW->Option (Cell×List eW)|.int _,⟨.int k,a⟩::r=>some (.int k a,r)|.bool,⟨.bool,b⟩::r=>some (.bool b,r)|.er,⟨.bool,b⟩::r=>some (.er b,r)|.str,⟨.str,s⟩::r=>some (.str s,r)|.sl _ o,⟨.sl t,l⟩::r=>some (.sl t l o,r)|.nil f,r=>some (.nil f,r)|.ref lv sq ai t,r=>some (.ref lv sq ai t,r)|.ptr lv sq ai i off,r=>some (.ptr lv sq ai i off,r)|.fJ _ off,⟨t,x⟩::r=>some (.fJ t x off,r)|.mp lv sq ai,r=>some (.mp lv sq ai,r)|_,_=>none
def cJ:List gf->List eW->Option (List Cell×List eW)|[],r=>some ([],r)|c::cs,r=>match c.fill r with
 |some (x,r')=>match cJ cs r' with|some (xs,r'')=>some (x::xs,r'')|none=>none
 |none=>none
def rI.fill:rI->List eW->Option (V2×List eW)
 |.c x,r=>match x.fill r with|some (y,r')=>some (.c y,r')|none=>none
 |.agg l,r=>match cJ l r with|some (y,r')=>some (.agg y,r')|none=>none
 |.gm f l,r=>match cJ l r with|some (y,r')=>some (.gm f y,r')|none=>none
def NG.fill:NG->List eW->Option (E2×List eW)
 |.row ai _,⟨.sl t,l⟩::r=>some (.row ai t l,r)|.box ai l,r=>match cJ l r with|some (y,r')=>some (.box ai y,r')|none=>none
 |.set ai,⟨.sl .str,l⟩::r=>some (.set ai l,r)|_,_=>none
abbrev Ren:=List (Nat×Option Nat)
def gf.get:gf->Cell->Option (List eW×Ren)
 |.int k,.int k' a=>match decEq k k' with|.isTrue _=>some ([⟨.int k',a⟩],[])|.isFalse _=>none
 |.bool,.bool b=>some ([⟨.bool,b⟩],[])|.er,.er b=>some ([⟨.bool,b⟩],[])|.str,.str s=>some ([⟨.str,s⟩],[])|.sl t o,.nil f=>match o,f with|.d,_=>some ([⟨.sl t,[]⟩],[])|.bA,_=>some ([⟨.sl t,[]⟩],[])|.full,true=>some ([⟨.sl t,[]⟩],[])|.app v,true=>some ([⟨.sl t,[]⟩],[(v,none)])|_,_=>none
 |.sl _ o,.sl t' l o'=>match o,o' with|.bA,_=>some ([⟨.sl t',l⟩],[])|.d,.bA=>none|.d,_=>some ([⟨.sl t',l⟩],[])|.full,.full=>some ([⟨.sl t',l⟩],[])|.app v,.full=>some ([⟨.sl t',l⟩],[(v,none)])|.app v,.app v'=>some ([⟨.sl t',l⟩],[(v,some v')])|_,_=>none
 |.nil true,.nil true=>some ([],[])|.nil false,.nil _=>some ([],[])|.ref lv sq ai t,.ref cG sq' gG t'=>match Nat.beq lv cG&&Nat.beq sq sq',decEq t t' with|true,.isTrue _=>some ([],[(ai,some gG)])|_,_=>none
 |.ptr lv sq ai i off,.ptr cG sq' gG i' off'=>match Nat.beq lv cG&&Nat.beq sq sq'&&Nat.beq i i'&&Nat.beq off off' with|true=>some ([],[(ai,some gG)])|false=>none
 |.fJ _ off,.fJ t' x off'=>match Nat.beq off off' with|true=>some ([⟨t',x⟩],[])|false=>none
 |.mp lv sq ai,.mp cG sq' gG=>match Nat.beq lv cG&&Nat.beq sq sq' with|true=>some ([],[(ai,some gG)])|false=>none
 |_,_=>none
def yT:List gf->List Cell->Option (List eW×Ren)
 |[],[]=>some ([],[])|c::cs,x::xs=>match c.get x,yT cs xs with|some (d,r),some (ds,rs)=>some (d++ds,r++rs)|_,_=>none
 |_,_=>none
def rI.get:rI->V2->Option (List eW×Ren)
 |.c x,.c y=>x.get y|.agg l,.agg cs=>yT l cs|.gm f l,.gm f' cs=>match Nat.beq f f' with|true=>yT l cs|false=>none
 |_,_=>none
def NG.get:NG->E2->Option (List eW×Ren)
 |.row ai _,.row gG t' l=>some ([⟨.sl t',l⟩],[(ai,some gG)])|.box ai l,.box gG cs=>match yT l cs with|some (d,r)=>some (d,(ai,some gG)::r)|none=>none
 |.set ai,.set gG l=>some ([⟨.sl .str,l⟩],[(ai,some gG)])|_,_=>none
structure bw where
 slots:List (Nat×rI)outer:List (List (Nat×rI))mem:List (Nat×Nat×NG)lvs:Nat
 aG:List Nat
 nv:Nat
 tys:List Ty deriving Inhabited
def nj:List (Nat×rI)->List eW->Tr V2->Option (Tr V2×List eW)|[],r,t=>some (t,r)|(k,v)::l,r,t=>match v.fill r with|some (x,r')=>nj l r' (t.set k (some x))|none=>none
def tI:List (List (Nat×rI))->List eW->Option (List (Tr V2)×List eW)|[],r=>some ([],r)|x::l,r=>match nj x r .lf with
 |some (t,r')=>match tI l r' with|some (ts,r'')=>some (t::ts,r'')|none=>none
 |none=>none
def vU:List (Nat×Nat×NG)->List eW->List (Tr E2)->Option (List (Tr E2)×List eW)|[],r,m=>some (m,r)|(lv,sl,e)::l,r,m=>match e.fill r with|some (x,r')=>vU l r' (Bo m lv sl (some x))|none=>none
def Gj:List Nat->Tr Unit->Tr Unit|[],t=>t|v::r,t=>Gj r (t.set v (some ()))
def bw.st(T:bw)(ds:List eW):Option S2:=match nj T.slots ds .lf with
 |some (sl,r)=>match tI T.outer r with
  |some (os,r)=>match vU T.mem r (List.replicate T.lvs .lf)with|some (m,[])=>some {slots:=sl,outer:=os,mem:=m,aG:=Gj T.aG .lf,nv:=T.nv}|_=>none
  |none=>none
 |none=>none
def pJ(s:Tr V2):List (Nat×rI)->Option (List eW×Ren)|[]=>some ([],[])|(k,v)::l=>match(s.get? k).bind v.get,pJ s l with|some (d,r),some (ds,rs)=>some (d++ds,r++rs)|_,_=>none
def pK:List (Tr V2)->List (List (Nat×rI))->Option (List eW×Ren)
 |[],[]=>some ([],[])|t::ts,x::xs=>match pJ t x,pK ts xs with|some (d,r),some (ds,rs)=>some (d++ds,r++rs)|_,_=>none
 |_,_=>none
def Bu(m:List (Tr E2)):List (Nat×Nat×NG)->Option (List eW×Ren)|[]=>some ([],[])|(lv,sl,e)::l=>match(iD m lv sl).bind e.get,Bu m l with|some (d,r),some (ds,rs)=>some (d++ds,r++rs)|_,_=>none
def ue:Ren->Nat->Option Nat|[],_=>none|(a,w)::r,v=>match Nat.beq a v with|true=>w|false=>ue r v
def oeq:Option Nat->Option Nat->Bool|none,none=>true|some a,some b=>Nat.beq a b|_,_=>false
def Sa(nv snv:Nat)(σ:Ren):Bool:=σ.all λp=>Nat.blt p.1 nv&&oeq (ue σ p.1) p.2&&(match p.2with|none=>true|some w=>Nat.blt w snv&&σ.all λq=>Nat.beq q.1 p.1||!oeq q.2 p.2)
def Gk(nv:Nat)(σ:Ren)(t:Tr Unit):List Nat->Bool|[]=>true|v::r=>Nat.blt v nv&&(match ue σ v with|none=>true|some w=>(t.get? w).isSome)&&Gk nv σ t r
def bw.get(T:bw)(s:S2):Option (List eW):=match pJ s.slots T.slots,pK s.outer T.outer,Bu s.mem T.mem with
 |some (d,r),some (ds',rs'),some (ds,rs)=>match Nat.beq T.lvs s.mem.length&&Sa T.nv s.nv (r++(rs'++rs))&&Gk T.nv (r++(rs'++rs)) s.aG T.aG with|true=>some (d++(ds'++ds))|false=>none
 |_,_,_=>none
inductive pL where|c(x:gf)|agg(l:List gf)|gm(f:Nat)|box(l:List gf)deriving Inhabited
structure Callee where
 args:List pL
 ta:List Ty
 res:List (Bool×List gf)tr:List Ty
 rk:Nat
 F:(rj ta).den->Option (rj tr).den
abbrev bt:=List (AX×bw)
@[reducible]def oA:bt->Ty|[]=>.unit|[x]=>rj x.2.tys|x::y::r=>.sum (rj x.2.tys) (oA (y::r))
structure IE where
 T:bw
 outs:bt
 F:(rj T.tys).den->Option (oA outs).den
structure aq where
 fns:Nat->Option tV
 Aj:Nat->Option Callee
 loops:Nat->Nat->AC->Option IE
 IF:Nat->Nat->Option bt
 Sb:Nat->Nat->Option bt
 Ln:Nat->Nat->Option (Nat×Ty)unr:Nat->Nat->Bool
 NH:Nat->Nat->Option Ty
def aq.sh(E:aq)(g:Nat):Bool:=((E.fns g).map (·.sh)).getD false
def gf.arg(m:List (Tr E2))(agg:Bool):gf->Cell->Option (List eW×List (Nat×Nat)×List Bool)
 |.int k,.int k' a=>match decEq k k' with|.isTrue _=>some ([⟨.int k',a⟩],[],[])|.isFalse _=>none
 |.bool,.bool b=>some ([⟨.bool,b⟩],[],[])|.str,.str s=>some ([⟨.str,s⟩],[],[])|.sl t o,.nil _=>match o with|.d=>some ([⟨.sl t,[]⟩],[],[])|.bA=>some ([⟨.sl t,[]⟩],[],[])|_=>none
 |.sl _ o,.sl t' l o'=>match o,o' with|.bA,_=>some ([⟨.sl t',l⟩],[],[])|.d,.bA=>none|.d,_=>some ([⟨.sl t',l⟩],[],[])|_,_=>none
 |.sl _ o,.ref lv sq ai _=>match rowOf m lv sq ai,o,agg with|some r,.bA,false=>some ([⟨.sl r.t,r.l⟩],[],[])|some r,.bA,true=>some ([⟨.sl r.t,r.l⟩],[(lv,sq)],[])|some r,.d,true=>some ([⟨.sl r.t,r.l⟩],[(lv,sq)],[])|_,_,_=>none
 |.sl _ o,.jz lv sq ai _ off len=>match rowOf m lv sq ai,o,agg with|some r,.bA,false=>some ([⟨.sl r.t,(r.l.drop off).take len⟩],[],[decide (off+len<=r.l.length)])|_,_,_=>none
 |_,_=>none
def Bv(m:List (Tr E2)):List gf->List Cell->Option (List eW×List (Nat×Nat)×List Bool)
 |[],[]=>some ([],[],[])|c::cs,x::xs=>match c.arg m true x,Bv m cs xs with|some (d,k,b),some (ds,ks,bs)=>some (d++ds,k++ks,b++bs)|_,_=>none
 |_,_=>none
def pL.arg(m:List (Tr E2)):pL->V2->Option (List eW×List (Nat×Nat)×List Bool)
 |.c x,.c y=>x.arg m false y|.agg l,.agg cs=>Bv m l cs|.gm f,.gm f' []=>match Nat.beq f f' with|true=>some ([],[],[])|false=>none
 |_,_=>none
def Ef(m:List (Tr E2)):List pL->List V2->Option (List eW×List (Nat×Nat)×List Bool)
 |[],[]=>some ([],[],[])|p::ps,x::xs=>match p.arg m x,Ef m ps xs with|some (d,k,b),some (ds,ks,bs)=>some (d++ds,k++ks,b++bs)|_,_=>none
 |_,_=>none
def uG{α:Type}(l:List Bool)(k:Option α):Option α:=match l with|[]=>k|b::r=>aE b (uG r k)
def acn(m:List (Tr E2)):Cell->Option Cell
 |.int k a=>some (.int k a)|.bool b=>some (.bool b)|.str s=>some (.str s)|.raw v=>some (.raw v)|.nil _=>some (.nil false)|.sl t l _=>some (.sl t l .d)|.ref lv sl ai _=>match rowOf m lv sl ai with|some r=>some (.sl r.t r.l .d)|none=>none
 |.jz lv sl ai _ off len=>match rowOf m lv sl ai with|some r=>some (.sl r.t ((r.l.drop off).take len) .d)|none=>none
 |_=>none
def Wz(m:List (Tr E2)):List Cell->Option (List Cell)|[]=>some []|x::r=>match acn m x,Wz m r with|some y,some ys=>some (y::ys)|_,_=>none
def gf.kR(m:List (Tr E2))(agg:Bool):gf->Cell->Option (List eW×List Bool)
 |.int k,.int k' a=>match decEq k k' with|.isTrue _=>some ([⟨.int k',a⟩],[])|.isFalse _=>none
 |.bool,.bool b=>some ([⟨.bool,b⟩],[])|.str,.str s=>some ([⟨.str,s⟩],[])|.sl t o,.nil _=>match o with|.d=>some ([⟨.sl t,[]⟩],[])|.bA=>some ([⟨.sl t,[]⟩],[])|_=>none
 |.sl _ o,.sl t' l _=>match o with|.d=>some ([⟨.sl t',l⟩],[])|.bA=>some ([⟨.sl t',l⟩],[])|_=>none
 |.sl _ o,.ref lv sq ai _=>match rowOf m lv sq ai,o with|some r,.d=>some ([⟨.sl r.t,r.l⟩],[])|some r,.bA=>some ([⟨.sl r.t,r.l⟩],[])|_,_=>none
 |.sl _ o,.jz lv sq ai _ off len=>match rowOf m lv sq ai,o with|some r,.d=>some ([⟨.sl r.t,(r.l.drop off).take len⟩],[decide (off+len<=r.l.length)])|some r,.bA=>some ([⟨.sl r.t,(r.l.drop off).take len⟩],[decide (off+len<=r.l.length)])|_,_=>none
 |.sl t o,.ff lv sq ai off n sz=>match agg,iD m lv sq with
  |false,some (.box v cs)=>match Nat.beq v ai&&Nat.ble (off+n*sz) cs.length,(Wz m ((cs.drop off).take (n*sz))).bind λds=>Br t (bI.chunk sz n ds)with
   |true,some l=>match o with|.d=>some ([⟨.sl t,l⟩],[])|.bA=>some ([⟨.sl t,l⟩],[])|_=>none
   |_,_=>none
  |_,_=>none
 |_,_=>none
def xA(m:List (Tr E2)):List gf->List Cell->Option (List eW×List Bool)
 |[],[]=>some ([],[])|c::cs,x::xs=>match c.kR m true x,xA m cs xs with|some (d,b),some (ds,bs)=>some (d++ds,b++bs)|_,_=>none
 |_,_=>none
def pL.kR(m:List (Tr E2)):pL->V2->Option (List eW×List Bool)
 |.c x,.c y=>x.kR m false y|.agg l,.agg cs=>xA m l cs|.gm f,.gm f' []=>match Nat.beq f f' with|true=>some ([],[])|false=>none
 |_,_=>none
def xB(m:List (Tr E2)):List pL->List V2->Option (List eW×List Bool)
 |[],[]=>some ([],[])|p::ps,x::xs=>match p.kR m x,xB m ps xs with|some (d,b),some (ds,bs)=>some (d++ds,b++bs)|_,_=>none
 |_,_=>none
def yU(m:List (Tr E2)):V2->List (Nat×Nat×Nat)|.c (.ff lv sl _ _ _ _)=>bL lv sl::(match iD m lv sl with|some (.box _ cs)=>cs.flatMap su|_=>[])|v=>Dk v
def gf.flat:gf->Bool|.int _|.bool|.str=>true|_=>false
def Ak(res:List (Bool×List gf)):Bool:=res.all λr=>r.2.all gf.flat
def Dl:List pL->Option (List gf×List pL)|.box l::r=>some (l,r)|_=>none
def dtC:Cell->Option Cell|.int k a=>some (.int k a)|.bool b=>some (.bool b)|.str s=>some (.str s)|.nil _=>some (.nil false)|.sl _ _ .bA=>none|.sl t l _=>some (.sl t l .d)|_=>none
def cS:List pL->List eW->Option (List V2×List eW)|[],r=>some ([],r)|p::ps,r=>match(match p with|.c x=>rI.fill (.c x) r|.agg l=>rI.fill (.agg l) r|.gm f=>some (.gm f [],r)|.box _=>none)with
 |some (x,r')=>match cS ps r' with|some (xs,r'')=>some (x::xs,r'')|none=>none
 |none=>none
def ic:List (Bool×List gf)->List eW->Option (List (Bool×List Cell)×List eW)|[],r=>some ([],r)|(a,l)::ps,r=>match cJ l r with
 |some (x,r')=>match ic ps r' with|some (xs,r'')=>some ((a,x)::xs,r'')|none=>none
 |none=>none
def mY:List (Bool×List Cell)->Option V2|[(a,cs)]=>Bp a cs|vs=>some (.iF vs)
def iw:Nat->List V2->Tr V2->Tr V2|_,[],t=>t|i,x::r,t=>iw (i+1) r (t.set i (some x))
def mZ:gf->Cell->Option (List eW)
 |.int k,.int k' a=>match decEq k k' with|.isTrue _=>some [⟨.int k',a⟩]|.isFalse _=>none
 |.bool,.bool b=>some [⟨.bool,b⟩]|.str,.str s=>some [⟨.str,s⟩]|.sl t .d,.nil _=>some [⟨.sl t,[]⟩]|.sl _ .d,.sl t' l _=>some [⟨.sl t',l⟩]|_,_=>none
def fV:List gf->List Cell->Option (List eW)
 |[],[]=>some []|c::cs,x::xs=>match mZ c x,fV cs xs with|some d,some ds=>some (d++ds)|_,_=>none
 |_,_=>none
def IG:List gf->List Cell->Option (List eW)
 |[],[]=>some []|c::cs,x::xs=>match(dtC x).bind (mZ c),IG cs xs with|some d,some ds=>some (d++ds)|_,_=>none
 |_,_=>none
def Pf:List pL->List V2->Option (List eW)
 |[],[]=>some []|.c c::ps,.c x::xs=>match(dtC x).bind (mZ c),Pf ps xs with|some d,some ds=>some (d++ds)|_,_=>none
 |.agg l::ps,.agg cs::xs=>match IG l cs,Pf ps xs with|some d,some ds=>some (d++ds)|_,_=>none
 |_,_=>none
def VL(top:Nat):Cell->Bool|.ref lv _ _ _=>Nat.ble top lv|.jz lv _ _ _ _ _=>Nat.ble top lv|_=>true
def hiR(top:Nat)(vs:List (Bool×List Cell)):Bool:=vs.all λv=>v.2.all (VL top)
def Lo(m:List (Tr E2))(rk k:Nat):Cell->Bool|.ref lv sl ai t=>Nat.beq k rk&&(match rowOf m lv sl ai with|some r=>Nat.beq r.t.size t.size|none=>false)|.nil true=>true|.jz ..=>false|_=>!Nat.beq k rk
def WA(m:List (Tr E2))(rk:Nat):Nat->List Cell->Bool|_,[]=>true|k,c::r=>Lo m rk k c&&WA m rk (k+1) r
def Eg(m:List (Tr E2))(rk:Nat):Nat->List (Bool×List Cell)->Bool|_,[]=>true|k,(_,cs)::r=>WA m rk k cs&&Eg m rk (k+64) r
def aco(m:List (Tr E2))(rk:Nat)(vs:List (Bool×List Cell)):Bool:=match Nat.beq rk 0with|true=>true|false=>Eg m rk 1 vs
def Eh(rk lv sl ai k:Nat)(c:Cell):Option (Cell×List SL):=match Nat.beq k rk with
 |true=>match c with|.sl t l _=>some (.ref lv sl ai t,[⟨t,l⟩])|_=>none
 |false=>some (c,[])
def sw(rk lv sl ai:Nat):Nat->List Cell->Option (List Cell×List SL)|_,[]=>some ([],[])|k,c::r=>match Eh rk lv sl ai k c,sw rk lv sl ai (k+1) r with|some (x,u),some (xs,us)=>some (x::xs,u++us)|_,_=>none
def Ei(rk lv sl ai:Nat):Nat->List (Bool×List Cell)->Option (List (Bool×List Cell)×List SL)|_,[]=>some ([],[])|k,(a,cs)::r=>match sw rk lv sl ai k cs,Ei rk lv sl ai (k+64) r with|some (xs,us),some (ys,vs)=>some ((a,xs)::ys,us++vs)|_,_=>none
section
variable{α:Type}
def acp(s:S2)(r:AG)(K:Bool->List Cell->Option α):Option α:=match r with
 |.t n=>match s.slots.get? n with|some (.c x)=>K false [x]|some (.agg cs)=>K true cs|_=>none
 |.cell n sz agg=>iL (s.slots.get? n) λp=>NF s.mem sz p λcs=>match agg,cs with|true,cs=>K true cs|false,[x]=>K false [x]|_,_=>none
def yV(s:S2):List AG->(List (Bool×List Cell)->Option α)->Option α|[],K=>K []|r::rs,K=>acp s r λa cs=>yV s rs λl=>K ((a,cs)::l)
end
def jv(m:List (Tr E2)):List (Bool×List gf)->List (Bool×List Cell)->Option (List eW)
 |[],[]=>some []|(a,l)::ps,(b,cs)::vs=>match a==b,lZ m cs,jv m ps vs with|true,some (cs,_),some ds=>(fV l cs).map (·++ds)|_,_,_=>none
 |_,_=>none
def Sc(m:List (Tr E2))(top:Nat):Cell->Option Cell
 |.int k a=>some (.int k a)|.bool b=>some (.bool b)|.str s=>some (.str s)|.raw v=>some (.raw v)|.nil _=>some (.nil false)|.sl _ _ .bA=>none|.sl t l _=>some (.sl t l .d)|.ref lv sl ai t=>match Nat.ble top lv with|false=>some (.ref lv sl ai t)|true=>match rowOf m lv sl ai with|some r=>some (.sl r.t r.l .d)|none=>none
 |.jz lv sl ai t off len=>match Nat.ble top lv with|false=>some (.jz lv sl ai t off len)|true=>match rowOf m lv sl ai with|some r=>some (.sl r.t ((r.l.drop off).take len) .d)|none=>none
 |_=>none
def Bw(m:List (Tr E2))(top:Nat):List Cell->Option (List Cell)|[]=>some []|x::r=>match Sc m top x,Bw m top r with|some y,some ys=>some (y::ys)|_,_=>none
def yW(m:List (Tr E2))(top:Nat):List (Bool×List Cell)->Option (List (Bool×List Cell))|[]=>some []|(a,x)::r=>match Bw m top x,yW m top r with|some y,some ys=>some ((a,y)::ys)|_,_=>none
def ZT(top:Nat):Cell->Bool|.ref lv _ _ _=>Nat.ble top lv|.jz lv _ _ _ _ _=>Nat.ble top lv|_=>false
def acq(m:List (Tr E2))(top:Nat)(c:Cell):Option Cell:=match c with
 |.nil b=>match Nat.beq top 0with|true=>some (.nil false)|false=>some (.nil b)
 |.sl t l (.app v)=>match Nat.beq top 0with|true=>some (.sl t l .d)|false=>some (.sl t l (.app v))
 |.sl t l .full=>match Nat.beq top 0with|true=>some (.sl t l .d)|false=>some (.sl t l .full)
 |c=>Sc m top c
def Sd(m:List (Tr E2))(top rk lv sl ai:Nat)(e:Option Ty)(k:Nat)(c:Cell):Option (Cell×List SL):=match Nat.beq k rk with
 |true=>match c with
  |.nil true=>e.map λt=>(.ref lv sl ai t,[⟨t,[]⟩])|.ref cG dF gG t=>match Nat.ble top cG,rowOf m cG dF gG with
   |true,some r=>match Nat.beq r.t.size t.size with|true=>some (.ref lv sl ai r.t,[⟨r.t,r.l⟩])|false=>none
   |_,_=>none
  |.jz cG dF gG t off len=>match Nat.ble top cG,rowOf m cG dF gG with
   |true,some r=>match Nat.beq r.t.size t.size with|true=>some (.ref lv sl ai r.t,[⟨r.t,(r.l.drop off).take len⟩])|false=>none
   |_,_=>none
  |_=>none
 |false=>match ZT top c with|true=>none|false=>(acq m top c).map λy=>(y,[])
def Ej(m:List (Tr E2))(top rk lv sl ai:Nat)(e:Option Ty):Nat->List Cell->Option (List Cell×List SL)|_,[]=>some ([],[])|k,x::r=>match Sd m top rk lv sl ai e k x,Ej m top rk lv sl ai e (k+1) r with|some (y,u),some (ys,us)=>some (y::ys,u++us)|_,_=>none
def Bx(m:List (Tr E2))(top rk lv sl ai:Nat)(e:Option Ty):Nat->List (Bool×List Cell)->Option (List (Bool×List Cell)×List SL)|_,[]=>some ([],[])|k,(a,x)::r=>match Ej m top rk lv sl ai e k x,Bx m top rk lv sl ai e (k+64) r with|some (y,u),some (ys,us)=>some ((a,y)::ys,u++us)|_,_=>none
section
variable{α:Type}
def WB:AX->AX->Bool|.normal,.normal=>true|.exit a,.exit b=>Nat.beq a b|.ret,.ret=>true|_,_=>false
def pM:(os:bt)->(oA os).den->(AX->S2->Option α)->Option α|[],_,_=>none|[x],y,K=>bN (x.2.st (unpack x.2.tys y)) λs=>K x.1 s|x::z::r,y,K=>match y with|.inl a=>bN (x.2.st (unpack x.2.tys a)) λs=>K x.1 s|.inr b=>pM (z::r) b K
def mN:(os:bt)->AX->S2->Option (oA os).den
 |[],_,_=>none|[x],ax,s=>match WB x.1 ax with|true=>bN (x.2.get s) λds=>pack x.2.tys ds|false=>none
 |x::z::r,ax,s=>match WB x.1 ax with|true=>bN ((x.2.get s).bind (pack x.2.tys)) λy=>some (.inl y)|false=>bN (mN (z::r) ax s) λy=>some (.inr y)
end
abbrev Wk:=∀(α:Type),Nat->Nat->AC->S2->(AX->S2->Option α)->Option α
def ZU(ctx d:Nat):Nat:=(ctx+1)*1000000+d*1000
section
variable{α:Type}
def V2.ZV:V2->Bool|.iF _=>false|_=>true
def acr(s:S2)(c:Callee)(l:List gf)(ps:List pL)(args:List V2)(K:gC->Option α):Option α:=match args with
 |.c (.ptr lv sl ai i off)::rest=>match Nat.beq i 0&&Nat.beq off 0,iD s.mem lv sl with
  |true,some (.box v cs)=>match Nat.beq v ai with
   |true=>bN (IG l cs) λds=>bN (Pf ps rest) λes=>bN (pack c.ta (ds++es)) λx=>Option.bind (c.F x) λy=>match ic c.res (unpack c.tr y)with|some ((true,new)::vs,[])=>bN (mY vs) λw=>K (.bX {val:=w,cX:=[(lv,sl,some (.box ai new))],cB:=[],rd:=bL lv sl::rest.flatMap Dk})|_=>none
   |false=>none
  |_,_=>none
 |_=>none
def Al(s:S2)(K:List Cell->Option α):Option α:=match s.outer with
 |[o]=>match o.get? 0with
  |some (.c (.ptr lv sl ai _ _))=>match iD s.mem lv sl with
   |some (.box v cs)=>match Nat.beq v ai with|true=>K cs|false=>none
   |_=>none
  |_=>none
 |_=>none
def Se(E:aq)(s:S2)(row d nx f:Nat)(args:List V2)(K:gC->Option α):Option α:=bN (E.Aj f) λc=>match Dl c.args with
 |some (l,ps)=>match Nat.beq row 0with|true=>acr s c l ps args K|false=>none
 |none=>bN (Ef s.mem c.args args) λ(ds,ks,bs)=>bN (pack c.ta ds) λx=>uG bs<|Option.bind (c.F x) λy=>match ic c.res (unpack c.tr y)with
  |some (vs,[])=>match Nat.beq row 0with
   |true=>match Nat.beq c.rk 65535with|true=>none|false=>bN (mY vs) λv=>K (.bX {val:=v,cX:=kj ks,cB:=[],rd:=args.flatMap Dk})
   |false=>match Nat.beq (row%65536) c.rk&&!Nat.beq c.rk 0&&!Nat.beq (row/65536) 0,Ei c.rk (s.mem.length-1) d nx 1 vs with
    |true,some (vs,[])=>bN (mY vs) λv=>K (.bX {val:=v,cX:=kj ks,cB:=[],rd:=args.flatMap Dk})|true,some (vs,[u])=>match Nat.beq (row/65536) u.t.size with|true=>bN (mY vs) λv=>K (.bX {val:=v,cX:=kj ks++[(s.mem.length-1,d,some (.row nx u.t u.l))],cB:=[],rd:=args.flatMap Dk})|false=>none
    |_,_=>none
  |_=>none
def pL.agW(m:List (Tr E2)):pL->V2->Option (List eW×List (Nat×Nat)×List Bool)|.c x,.c y=>x.arg m true y|.agg l,.agg cs=>Bv m l cs|_,_=>none
def Ek(m:List (Tr E2)):List pL->List V2->Option (List eW×List (Nat×Nat)×List Bool)
 |[],[]=>some ([],[],[])|p::ps,x::xs=>match p.agW m x,Ek m ps xs with|some (d,k,b),some (ds,ks,bs)=>some (d++ds,k++ks,b++bs)|_,_=>none
 |_,_=>none
def ZW(E:aq)(s:S2)(f:Nat)(args:List V2)(K:gC->Option α):Option α:=bN (E.Aj f) λc=>match(Dl c.args).isNone&&!Nat.beq c.rk 65535with
 |true=>bN (Ek s.mem c.args args) λ(ds,ks,bs)=>bN (pack c.ta ds) λx=>uG bs<|Option.bind (c.F x) λy=>match ic c.res (unpack c.tr y)with|some (vs,[])=>bN (mY vs) λv=>K (.bX {val:=v,cX:=kj ks,cB:=[],rd:=args.flatMap Dk})|_=>none
 |false=>none
def xC(m:List (Tr E2)):List gf->List Cell->Option (List eW×List Bool)
 |[],[]=>some ([],[])|c::cs,x::xs=>match c.arg m false x,xC m cs xs with|some (d,[],b),some (ds,bs)=>some (d++ds,b++bs)|_,_=>none
 |_,_=>none
def pL.agX(m:List (Tr E2)):pL->V2->Option (List eW×List Bool)
 |.c x,.c y=>match x.arg m false y with|some (d,[],b)=>some (d,b)|_=>none
 |.agg l,.agg cs=>xC m l cs|_,_=>none
def El(m:List (Tr E2)):List pL->List V2->Option (List eW×List Bool)
 |[],[]=>some ([],[])|p::ps,x::xs=>match p.agX m x,El m ps xs with|some (d,b),some (ds,bs)=>some (d++ds,b++bs)|_,_=>none
 |_,_=>none
def ZX(E:aq)(s:S2)(f:Nat)(args:List V2)(K:gC->Option α):Option α:=bN (E.Aj f) λc=>match(Dl c.args).isNone&&!Nat.beq c.rk 65535with
 |true=>bN (El s.mem c.args args) λ(ds,bs)=>bN (pack c.ta ds) λx=>uG bs<|Option.bind (c.F x) λy=>match ic c.res (unpack c.tr y)with|some (vs,[])=>bN (mY vs) λv=>K (.bX {val:=v,cX:=[],cB:=[],rd:=args.flatMap Dk})|_=>none
 |false=>none
def II(E:aq)(wk:Wk)(ctx:Nat)(s:S2)(row d nx f:Nat)(args:List V2)(K:gC->Option α):Option α:=match E.fns f with
 |some fn=>match fn.sh with|false=>Se E s row d nx f args K|true=>match Nat.beq args.length fn.np&&args.all V2.ZV with
  |false=>none|true=>let st:S2:={slots:=iw 0 args .lf,outer:=loose s.slots::s.outer,mem:=s.mem++[.lf],aG:=s.aG,nv:=nx};let back:S2->Option α:=λs'=>match s'.outer with
    |o::os=>yV s' fn.res λvs=>match Nat.beq row 0with|true=>bN (yW s'.mem s.mem.length vs) λvs=>bN (mY vs) λv=>K (.all v {slots:=merge s.slots o,outer:=os,mem:=s'.mem.take s.mem.length,aG:=s'.aG,nv:=s'.nv})|false=>match !Nat.beq (row%65536) 0&&!Nat.beq (row/65536) 0,Bx s'.mem s.mem.length (row%65536) (s.mem.length-1) d s'.nv (E.NH ctx d) 1 vs with
     |true,some (vs,[u])=>match Nat.beq (row/65536) u.t.size with|true=>bN (mY vs) λv=>K (.all v {slots:=merge s.slots o,outer:=os,mem:=fo (s'.mem.take s.mem.length) [(s.mem.length-1,d,some (.row s'.nv u.t u.l))],aG:=s'.aG,nv:=s'.nv+1})|false=>none
     |true,some (vs,[])=>bN (mY vs) λv=>K (.all v {slots:=merge s.slots o,outer:=os,mem:=s'.mem.take s.mem.length,aG:=s'.aG,nv:=s'.nv+1})|_,_=>none
    |[]=>none;match E.Sb ctx d with
   |none=>wk α (ZU ctx d) 0 fn.body st λax s'=>match ax with|.exit _=>none|_=>back s'
   |some os=>Option.bind (wk (oA os).den (ZU ctx d) 0 fn.body st λax s'=>match ax with|.exit _=>none|_=>mN os .ret s') λy=>pM os y λ_ s'=>back s'
 |none=>Se E s row d nx f args K
def Sf(E:aq)(s:S2)(f:Nat)(args:List V2)(K:gC->Option α):Option α:=bN (E.Aj f) λc=>match Ak c.res&&(Dl c.args).isNone&&!Nat.beq c.rk 65535with
 |true=>bN (xB s.mem c.args args) λ(ds,bs)=>bN (pack c.ta ds) λx=>uG bs<|Option.bind (c.F x) λy=>match ic c.res (unpack c.tr y)with|some (vs,[])=>bN (mY vs) λv=>K (.bX {val:=v,cX:=[],cB:=[],rd:=args.flatMap (yU s.mem)})|_=>none
 |false=>none
def cT(E:aq)(wk:Wk)(ctx:Nat)(s:S2)(row dst aO:Nat)(op:cq)(K:gC->Option α):Option α:=match op with
 |.HQ x=>bN (jd s x) λv=>match Nat.beq (row%65536) 6&&v.isRow with
  |true=>match v with|.c (.ref lv sl ai t)=>bN (rowOf s.mem lv sl ai) λr=>bN (js r.t t r.l) λl=>K (.bX {val:=.c (.ref (s.mem.length-1) dst aO t),cX:=[(lv,sl,none),(s.mem.length-1,dst,some (.row aO t l))],cB:=[],rd:=[bL lv sl]})|_=>none
  |false=>match Rq row with|false=>K (ki v)|true=>match v with
   |.c (.nil true)=>bN (E.NH ctx dst) λt=>match Nat.beq t.size (row/65536)with|true=>K (.bX {val:=.c (.ref (s.mem.length-1) dst aO t),cX:=[(s.mem.length-1,dst,some (.row aO t []))],cB:=[],rd:=[]})|false=>none
   |.c (.nil _)=>none|.c (.sl ..)=>none|v=>K (ki v)
 |.pick c a b=>vT (jd s c) λt=>match jd s a,jd s b with|some (.c (.bool x)),some (.c (.bool y))=>K (dO (.bool (cond t x y)))|some x,some y=>cond t (K (ki x)) (K (ki y))|some x,none=>aE t (K (ki x))|none,some y=>aE (!t) (K (ki y))|none,none=>none
 |.alloc z=>bN (Bn z) λcs=>K (.bX {val:=.c (.ptr (s.mem.length-1) dst aO 0 0),cX:=[(s.mem.length-1,dst,some (.box aO cs))],cB:=[],rd:=[]})|.box x=>bN ((jd s x).bind V2.cells?) λcs=>K (.bX {val:=.c (.ptr (s.mem.length-1) dst aO 0 0),cX:=[(s.mem.length-1,dst,some (.box aO cs))],cB:=[],rd:=[]})|.build z ps=>bN ((Bn z).bind λcs=>Ee s cs ps) λcs=>K (ki (.agg cs))|.buildSlice sz n z ps=>match Nat.beq row 2with
  |true=>match Nat.beq n 0with|true=>none|false=>bN ((sr z).bind λzc=>Ee s (List.replicate n zc).flatten (ps.map λp=>(p.1*sz,sz,p.2))) λcs=>K (.bX {val:=.c (.ff (s.mem.length-1) dst aO 0 n sz),cX:=[(s.mem.length-1,dst,some (.box aO cs))],cB:=[],rd:=[]})
  |false=>bN (E.NH ctx dst) λt=>bN (sr z) λzc=>bN (Bq s sz (List.replicate n zc) ps) λ(els,ks)=>match Nat.beq t.size sz,Br t els with
  |true,some l=>match Nat.beq row 0with|true=>K (.bX {val:=.c (.sl t l .full),cX:=kj ks,cB:=[],rd:=iG ks})|false=>match Bt ks (s.mem.length-1) dst with|true=>none|false=>K (.bX {val:=.c (.ref (s.mem.length-1) dst aO t),cX:=kj ks++[(s.mem.length-1,dst,some (.row aO t l))],cB:=[],rd:=iG ks})
  |_,_=>none
 |.load sz agg x=>iL (jd s x) λp=>NF s.mem sz p λcs=>bN (Bp agg cs) λv=>K (.bX {val:=v,cX:=[],cB:=[],rd:=su p})|.store sz x v=>iL (jd s x) λp=>bN ((jd s v).bind V2.cells?) λnew=>Ll s.mem sz p new K|.nilCheck x=>bN (jd s x) λv=>match v with|.c (.ptr lv sl ai i off)=>K (dO (.ptr lv sl ai i off))|.c (.fJ t e off)=>K (dO (.fJ t e off))|.gm f cs=>K (ki (.gm f cs))|_=>none
 |.bin op x y=>iL (jd s x) λa=>iL (jd s y) λb=>ack op a b λc=>K (dO c)|.VT neg x y=>vT (jd s x) λa=>vT (jd s y) λb=>K (dO (.bool (match neg with|true=>!(a==b)|false=>a==b)))|.yp neg x=>match jd s x with
  |some (.c (.er b))=>match neg with|true=>K (dO (.bool b))|false=>K (dO (.bool (!b)))
  |_=>none
 |.rK lo n sz x=>match jd s x with
  |some (.c (.ptr lv sl ai i off))=>match Nat.beq i 0&&Nat.blt lo n with|true=>K (dO (.ff lv sl ai (off+lo*sz) (n-lo) sz))|false=>none
  |_=>none
 |.VU neg sz cells x y=>match jd s x,jd s y with
  |some (.agg xs),some (.agg ys)=>match Nat.beq xs.length sz&&Nat.beq ys.length sz,Gi xs ys cells with|true,some b=>K (dO (.bool (match neg with|true=>!b|false=>b)))|_,_=>none
  |_,_=>none
 |.un op x=>iL (jd s x) λa=>unK op a λc=>K (dO c)|.conv k x=>Pd (jd s x) λn=>K (dO (.int k (k.wrap n)))|.field off sz agg x=>match jd s x with
  |some (.agg cs)=>match Nat.ble (off+sz) cs.length,Bp agg ((cs.drop off).take sz)with|true,some v=>K (ki v)|_,_=>none
  |_=>none
 |.fieldAddr off x=>match jd s x with|some (.c (.ptr lv sl ai i o))=>K (dO (.ptr lv sl ai i (o+off)))|some (.c (.fJ t e o))=>K (dO (.fJ t e (o+off)))|_=>none
 |.indexAddr sz x i=>Pd (jd s i) λn=>match jd s x with
  |some (.c (.sl t l _))=>match Nat.beq t.size sz with|true=>Option.bind (idx l n) λe=>K (dO (.fJ t e 0))|false=>none
  |some (.c (.ref lv sl ai t))=>match Nat.beq t.size sz with|true=>bN (rowOf s.mem lv sl ai) λr=>aE (fP n r.l.length) (K (dO (.ptr lv sl ai n.toNat 0)))|false=>none
  |some (.c (.jz lv sl ai t off len))=>match Nat.beq t.size sz with|true=>aE (fP n len) (K (dO (.ptr lv sl ai (off+n.toNat) 0)))|false=>none
  |_=>none
 |.j0 n sz x i=>Gh (jd s i) λk=>match jd s x with|some (.c (.ptr lv sl ai j o))=>Pc n k λk=>K (dO (.ptr lv sl ai j (o+k*sz)))|some (.c (.fJ t e o))=>Pc n k λk=>K (dO (.fJ t e (o+k*sz)))|_=>none
 |.qd n sz agg x i=>Gh (jd s i) λk=>match jd s x with
  |some (.agg cs)=>Pc n k λk=>match Nat.ble (k*sz+sz) cs.length,Bp agg ((cs.drop (k*sz)).take sz)with|true,some v=>K (ki v)|_,_=>none
  |_=>none
 |.qe x i=>Pd (jd s i) λn=>match jd s x with|some (.c (.str b))=>Option.bind (idx b n) λc=>K (dO (.int .u8 c.toNat))|_=>none
 |.slice sz x lo hi mx=>iL (jd s x) λc=>uF lo s λl=>uF hi s λh=>uF mx s λk=>match Nat.beq row 3&&(mx.isNone&&c.isRow)with|true=>acm s.mem sz aO c l h K|false=>Lm s.mem sz c l h k λv=>K (dO v)
 |.qf x lo hi=>match jd s x with|some (.c (.str b))=>uF lo s λlo=>uF hi s λhi=>aE (mG b.length lo hi) (K (dO (.str (ov b lo hi))))|_=>none
 |.extract x i=>match jd s x with
  |some (.iF vs)=>match vs[i]?with|some (a,cs)=>bN (Bp a cs) λv=>K (ki v)|none=>none
  |_=>none
 |.len x=>iL (jd s x) λc=>match c with|.sl _ l _=>K (dO (.int .i64 l.length))|.nil _=>K (dO (.int .i64 0))|.ref lv sl ai _=>bN (rowOf s.mem lv sl ai) λr=>K (dO (.int .i64 r.l.length))|.jz _ _ _ _ _ len=>K (dO (.int .i64 len))|_=>none
 |.HR x=>iL (jd s x) λc=>match c with|.nil true=>K (dO (.int .i64 0))|.sl _ l .full=>K (dO (.int .i64 l.length))|_=>none
 |.Fy x=>match jd s x with|some (.c (.str b))=>K (dO (.int .i64 b.length))|_=>none
 |.Db n=>K (dO (.int .i64 n))|.ZH x=>match jd s x with|some (.c (.str b))=>K (dO (.sl (.int .u8) (bM b) .d))|_=>none
 |.ZG x=>iL (jd s x) λc=>match c with|.str _=>none|c=>ou s.mem c (some (.int .u8)) λn=>bN (js n.t (.int .u8) n.l) λl=>K (.bX {val:=.c (.str (l.map λn=>UInt8.ofNat n.toNat)),cX:=[],cB:=[],rd:=su c})
 |.mkSet=>K (.bX {val:=.c (.mp (s.mem.length-1) dst aO),cX:=[(s.mem.length-1,dst,some (.set aO []))],cB:=[],rd:=[]})|.HS m k=>match jd s m,jd s k with|some (.c (.mp lv sl ai)),some (.c (.str b))=>bN (ND s.mem lv sl ai) λl=>K (.bX {val:=.c (.bool (hasB l b)),cX:=[],cB:=[],rd:=[bL lv sl]})|_,_=>none
 |.HT m k=>match jd s m,jd s k with|some (.c (.mp lv sl ai)),some (.c (.str b))=>bN (ND s.mem lv sl ai) λl=>K (.bX {val:=.iF [],cX:=[(lv,sl,some (.set ai (rL l b)))],cB:=[],rd:=[bL lv sl]})|_,_=>none
 |.Fz x y=>match jd s x,jd s y with
  |some (.c (.int k a)),some (.c (.int k' b))=>match decEq k k' with|.isTrue _=>K (dO (.int k (min a b)))|.isFalse _=>none
  |_,_=>none
 |.FA x y=>match jd s x,jd s y with
  |some (.c (.int k a)),some (.c (.int k' b))=>match decEq k k' with|.isTrue _=>K (dO (.int k (max a b)))|.isFalse _=>none
  |_,_=>none
 |.append sz bytes x y=>iL (jd s x) λa=>iL (jd s y) λb=>Pe s (!Nat.beq row 0) (uo row (s.mem.length-1) dst).1 (uo row (s.mem.length-1) dst).2 aO sz bytes a b (E.NH ctx dst) K|.clone sz bytes x=>iL (jd s x) λb=>match b with|.str _=>none|b=>Pe s (!Nat.beq row 0) (s.mem.length-1) dst aO sz bytes (.nil true) b (E.NH ctx dst) K
 |.copy sz x y=>iL (jd s x) λa=>iL (jd s y) λb=>match a with
  |.ref lv sl ai t=>bN (rowOf s.mem lv sl ai) λr=>ou s.mem b (some t) λn=>match Nat.beq t.size sz,js r.t t r.l,js n.t t n.l with|true,some l,some news=>K (.bX {val:=.c (.int .i64 ((min news.length l.length:Nat):Int)),cX:=[(lv,sl,some (.row ai t (ID news l)))],cB:=[],rd:=bL lv sl::su b})|_,_,_=>none
  |.jz lv sl ai t off len=>bN (rowOf s.mem lv sl ai) λr=>ou s.mem b (some t) λn=>match Nat.beq t.size sz,js r.t t r.l,js n.t t n.l with|true,some l,some news=>aE (decide (off+len<=l.length)) (K (.bX {val:=.c (.int .i64 ((min news.length len:Nat):Int)),cX:=[(lv,sl,some (.row ai t (l.take off++(news.take (min news.length len)++l.drop (off+(news.take (min news.length len)).length)))))],cB:=[],rd:=bL lv sl::su b}))|_,_,_=>none
  |.ff lv sl ai off n sz'=>match iD s.mem lv sl with
   |some (.box v cs)=>ou s.mem b none λnw=>match Nat.beq v ai&&Nat.beq sz' sz&&Nat.ble (off+n*sz) cs.length&&Nat.beq nw.t.size sz with|true=>K (.bX {val:=.c (.int .i64 ((min nw.l.length n:Nat):Int)),cX:=[(lv,sl,some (.box ai (bI.splice cs off ((nw.l.take (min nw.l.length n)).flatMap (iK nw.t)))))],cB:=[],rd:=bL lv sl::su b})|false=>none
   |_=>none
  |_=>none
 |.od sz bytes z x n=>iL (jd s x) λa=>Gh (jd s n) λk=>bN (E.NH ctx dst) λt=>bN ((sr z).bind (yS t)) λz'=>match Nat.beq t.size sz&&Nat.beq z.length sz with|true=>aE (room k bytes) (Pe s (!Nat.beq row 0) (s.mem.length-1) dst aO sz bytes a (.sl t (List.replicate k z') .d) (some t) K)|false=>none
 |.makeSlice sz bytes z l c=>Gh (jd s l) λl=>Gh (jd s c) λc=>bN (E.NH ctx dst) λt=>bN ((sr z).bind (yS t)) λz'=>match Nat.beq t.size sz&&Nat.beq z.length sz with|true=>aE (decide (l<=c)&&room c bytes) (K (.bX {val:=.c (.ref (s.mem.length-1) dst aO t),cX:=[(s.mem.length-1,dst,some (.row aO t (List.replicate l z')))],cB:=[],rd:=[]}))|false=>none
 |.sliceB n sz x=>iL (jd s x) λc=>match c with
  |.ptr lv sl ai i off=>match Nat.beq i 0with|true=>K (dO (.ff lv sl ai off n sz))|false=>none
  |_=>none
 |.makeFunc f cap=>bN ((Gg s cap).bind Bs) λcs=>K (ki (.gm f cs))|.clear sz z x=>iL (jd s x) λa=>match a with
  |.ref lv sl ai t=>bN (rowOf s.mem lv sl ai) λr=>bN ((sr z).bind (yS t)) λz'=>match Nat.beq t.size sz&&Nat.beq z.length sz,js r.t t r.l with|true,some l=>K (.bX {val:=.iF [],cX:=[(lv,sl,some (.row ai t (List.replicate l.length z')))],cB:=[],rd:=[bL lv sl]})|_,_=>none
  |.jz lv sl ai t off len=>bN (rowOf s.mem lv sl ai) λr=>bN ((sr z).bind (yS t)) λz'=>match Nat.beq t.size sz&&Nat.beq z.length sz,js r.t t r.l with|true,some l=>aE (decide (off+len<=l.length)) (K (.bX {val:=.iF [],cX:=[(lv,sl,some (.row ai t (l.take off++List.replicate len z'++l.drop (off+len))))],cB:=[],rd:=[bL lv sl]}))|_,_=>none
  |_=>none
 |.compact x=>iL (jd s x) λa=>match a with
  |.nil true=>K (dO (.nil true))|.ref lv sl ai t=>bN (rowOf s.mem lv sl ai) λr=>match Nat.beq t.size 1,js r.t (.int .i64) r.l with|true,some l=>aE (decide (l.length<4611686018427387904)) (K (.bX {val:=.c (.ref lv sl aO (.int .i64)),cX:=[(lv,sl,some (.row aO (.int .i64) (jq l)))],cB:=[],rd:=[bL lv sl]}))|_,_=>none
  |_=>none
 |.sort x=>iL (jd s x) λa=>match a with
  |.nil true=>K (.bX {val:=.iF [],cX:=[],cB:=[],rd:=[]})|.ref lv sl ai t=>bN (rowOf s.mem lv sl ai) λr=>match Nat.beq t.size 1,js r.t (.int .i64) r.l with|true,some l=>aE (decide (l.length<4611686018427387904)) (K (.bX {val:=.iF [],cX:=[(lv,sl,some (.row ai (.int .i64) (jo l)))],cB:=[],rd:=[bL lv sl]}))|_,_=>none
  |_=>none
 |.grow sz x n=>iL (jd s x) λa=>Gh (jd s n) λ_=>match a,E.NH ctx dst with
  |.nil true,some t=>match Nat.beq t.size sz with|true=>K (.bX {val:=.c (.sl t [] (.app aO)),cX:=[],cB:=[(aO,true)],rd:=[]})|false=>none
  |_,_=>none
 |.call f args=>match Nat.beq row 7,Nat.beq row 8,Nat.beq row 9,Nat.beq row 10with|false,false,false,false=>bN (Gg s args) λaJ=>II E wk ctx s row dst aO f aJ K|false,false,true,_=>bN (Gg s args) λaJ=>ZW E s f aJ K|false,false,false,true=>bN (Gg s args) λaJ=>ZX E s f aJ K|_,_,_,_=>none
 |.vi f args=>bN (Gg s args) λaJ=>match E.sh f with|true=>II E wk ctx s row dst aO f aJ K|false=>Sf E s f aJ K
 |.AF x args=>match jd s x with|some (.gm f cap)=>bN (Gg s args) λaJ=>II E wk ctx s row dst aO f (aJ++cap.map .c) K|_=>none
 |_=>none
def step2(E:aq)(wk:Wk)(ctx:Nat)(s:S2)(aO:Nat)(o:bB)(K:S2->gC->Option α):Option α:=match o.gd with|none=>cT E wk ctx s o.row (o.dst.getD 0) aO o.op (K s)|some (g,b)=>match s.slots.get? g with|some (.c (.bool t))=>cond t (let s':={s with slots:=s.slots.set g (some (.c (.bool true)))};match b with|true=>cT E wk ctx s' o.row (o.dst.getD 0) aO o.op (K s')|false=>K s' (ki (.iF []))) (let s':={s with slots:=s.slots.set g (some (.c (.bool false)))};match b with|true=>K s' (ki (.iF []))|false=>cT E wk ctx s' o.row (o.dst.getD 0) aO o.op (K s'))|some (.iF _)=>K s (ki (.iF []))|_=>none
def Am(E:aq)(wk:Wk)(ctx:Nat):Nat->List bB->S2->(S2->Option α)->Option α|_,[],s,K=>K s|nx,o::r,s,K=>step2 E wk ctx s nx o λs e=>match e with|.bX e=>Am E wk ctx (nx+1) r (s.app o.dst (.bX e)) K|.all v s'=>Am E wk ctx s'.nv r {s'.app o.dst (.all v s')with nv:=s'.nv+r.length} K
def keq(a b:Nat×Nat×Nat):Bool:=Nat.beq a.1 b.1&&Nat.beq a.2.1 b.2.1&&Nat.beq a.2.2 b.2.2
def xD(a b:List (Nat×Nat×Nat)):Bool:=a.any λk=>b.any (keq k)
def pN:gC->Bool|.bX e=>!(e.rd.isEmpty&&e.cX.isEmpty&&e.cB.isEmpty)|.all ..=>true
def xE:gC->gC->Bool|.bX a,.bX b=>xD a.rd b.wr||xD a.wr b.rd||xD a.wr b.wr|a,b=>pN a&&pN b
def Gl(nB:Nat)(e:gC):List (Nat×gC)->Bool|[]=>true|(i,x)::r=>(nB.testBit i||!xE x e)&&Gl nB e r
def yX(l:List (Nat×gC)):List (Nat×gC):=l.map λx=>(x.1,match pN x.2with|true=>.all (.iF []) default|false=>x.2)
def An(E:aq)(wk:Wk)(ctx:Nat):Nat->Nat->List bB->List (Nat×gC)->S2->(S2->Option α)->Option α|_,_,[],_,s,K=>K s|i,nx,o::r,past,s,K=>step2 E wk ctx s nx o λs e=>match Gl o.nB e past with
 |true=>match e with|.bX e=>An E wk ctx (i+1) (nx+1) r ((i,.bX e)::past) (s.app o.dst (.bX e)) K|.all v s'=>An E wk ctx (i+1) s'.nv r ((i,.all (.iF []) default)::yX past) {s'.app o.dst (.all v s')with nv:=s'.nv+r.length} K
 |false=>none
def uH:AC->Nat|.seq a b=>uH a+uH b|.cond _ a b=>uH a+uH b+1|.block _ c=>uH c+1|.loop c=>uH c+1|.region ..=>1|_=>0
end
def WC{α:Type}(E:aq)(wk:Wk)(ctx:Nat)(ops:List bB)(draw:Bool)(s:S2)(K:S2->Option α):Option α:=match draw with|false=>Am E wk ctx s.nv ops {s with nv:=s.nv+ops.length} K|true=>An E wk ctx 0 s.nv ops [] {s with nv:=s.nv+ops.length} K
def Sh(sh:Nat->Bool):cq->Bool|.HQ _|.pick ..|.nilCheck _|.bin ..|.VT ..|.VU ..|.un ..|.conv ..|.field ..|.fieldAddr ..|.indexAddr ..|.j0 ..|.qd ..|.qe ..|.load ..|.slice ..|.qf ..|.extract ..|.len _|.Fy _|.Db _|.Fz ..|.FA ..=>true|.vi f _=>!sh f|_=>false
def Em(sh:Nat->Bool)(o:bB):Bool:=Nat.beq o.row 0&&Sh sh o.op
def sx(sh:Nat->Bool):AC->Bool|.skip=>true|.region ops _=>ops.all (Em sh)|.seq a b=>sx sh a&&sx sh b|.cond _ a b=>sx sh a&&sx sh b|_=>false
def pO:AC->List Nat|.region ops _=>ops.flatMap λo=>o.dst.toList|.seq a b=>pO a++pO b|.cond _ a b=>pO a++pO b|_=>[]
def IJ:List Nat->Tr V2->Tr V2|[],t=>t|n::r,t=>IJ r (t.set n none)
def Gm(t:Ty)(c:Cell):Option t.den:=match t,c with
 |.int k,.int k' a=>match decEq k k' with|.isTrue _=>some a|.isFalse _=>none
 |.bool,.bool b=>some b|.str,.str s=>some s|_,_=>none
def Lp:(t:Ty)->t.den->Option Cell|.int k,a=>some (.int k a)|.bool,b=>some (.bool b)|.str,s=>some (.str s)|_,_=>none
def IK(t:Ty)(n:Nat)(ax:AX)(s:S2):Option t.den:=match ax with
 |.normal=>match s.slots.get? n with|some (.c c)=>Gm t c|_=>none
 |_=>none
def uI(s:S2)(c:bZ)(b:Bool):S2:=match c with|.t n=>{s with slots:=s.slots.set n (some (.c (.bool b)))}|.c _=>s
def agY(i:Nat):Nat:=match Nat.blt i 100000with|true=>i+100000|false=>i
def agZ(o:Option (List eW))(i:Nat):Nat:=match o with|some _=>i|none=>i+200000
def walk(E:aq):Nat->Wk|0=>λ_ _ _ _ _ _=>none|n+1=>λα ctx i c s K=>match c with
 |.skip=>K .normal s|.region ops draw=>match E.Ln ctx i with
  |some m=>match ops.all (Em E.sh)with|true=>Option.bind (WC E (walk E n) ctx ops draw s (IK m.2 m.1 .normal)) λy=>bN (Lp m.2 y) λy=>K .normal {s with slots:=(IJ (pO (.region ops draw)) s.slots).set m.1 (some (.c y))}|false=>none
  |none=>match E.IF ctx i with|none=>WC E (walk E n) ctx ops draw s λs'=>K .normal s'|some os=>Option.bind (WC E (walk E n) ctx ops draw s (mN os .normal)) λy=>pM os y K
 |.seq a b=>walk E n α ctx i a s λax s'=>match ax with|.normal=>walk E n α ctx (i+uH a) b s' K|ax=>K ax s'
 |.cond c a b=>match E.Ln ctx i with
  |some m=>match sx E.sh a&&sx E.sh b with|true=>Option.bind (vT (jd s c) λt=>cond t (walk E n m.2.den ctx (i+1) a (uI s c true) (IK m.2 m.1)) (walk E n m.2.den ctx (i+1+uH a) b (uI s c false) (IK m.2 m.1))) λy=>bN (Lp m.2 y) λy=>K .normal {s with slots:=(IJ (pO a++pO b) s.slots).set m.1 (some (.c y))}|false=>none
  |none=>match E.IF ctx i with|none=>vT (jd s c) λt=>cond t (walk E n α ctx (i+1) a (uI s c true) K) (walk E n α ctx (i+1+uH a) b (uI s c false) K)|some os=>Option.bind (vT (jd s c) λt=>cond t (walk E n (oA os).den ctx (i+1) a (uI s c true) (mN os)) (walk E n (oA os).den ctx (i+1+uH a) b (uI s c false) (mN os))) λy=>pM os y K
 |.block id c=>match E.IF ctx i with
  |none=>walk E n α ctx (i+1) c s λax s'=>match ax with
   |.exit id'=>match Nat.beq id' id with|true=>K .normal s'|false=>K (.exit id') s'
   |ax=>K ax s'
  |some os=>Option.bind (walk E n (oA os).den ctx (i+1) c s λax s'=>match ax with
   |.exit id'=>match Nat.beq id' id with|true=>mN os .normal s'|false=>mN os (.exit id') s'
   |ax=>mN os ax s') λy=>pM os y K
 |.loop c=>match E.unr ctx i with
  |true=>walk E n α ctx (i+1) c s λax s'=>match ax with|.normal=>walk E n α ctx (agY i) (.loop c) s' K|ax=>K ax s'
  |false=>bN (E.loops ctx (agZ ((E.loops ctx i c).bind λL=>L.T.get s) i) c) λL=>bN (L.T.get s) λds=>bN (pack L.T.tys ds) λx=>Option.bind (L.F x) λy=>pM L.outs y K
 |.exit id=>K (.exit id) s|.ret=>K .ret s
def By(E:aq)(N ctx i:Nat)(body:AC)(T:bw)(outs:bt)(rec:(rj T.tys).den->Option (oA outs).den)(x:(rj T.tys).den):Option (oA outs).den:=bN (T.st (unpack T.tys x)) λs=>walk E N (oA outs).den ctx (i+1) body s λax s'=>match ax with|.normal=>bN (T.get s') λds=>bN (pack T.tys ds) λy=>rec y|ax=>mN outs ax s'
def NI{α β:Type}(step:(α->Option β)->α->Option β):Nat->α->Option β|0,_=>none|n+1,x=>step (NI step n) x
def Si(E:aq)(N:Nat)(f:Nat)(args:List pL)(ta:List Ty)(res:List (Bool×List gf))(tr:List Ty)(rk:Nat)(x:(rj ta).den):Option (rj tr).den:=bN (E.fns f) λfn=>match Dl args with
 |some (l,ps)=>match cJ l (unpack ta x)with
  |some (cs,r)=>match cS ps r with
   |some (vs,[])=>match Nat.beq (vs.length+1) fn.np with
    |true=>walk E N _ 0 0 fn.body {slots:=iw 0 (.c (.ptr 0 0 0 0 0)::vs) .lf,outer:=[Tr.set .lf 0 (some (.c (.ptr 0 0 0 0 0)))],mem:=fo [.lf,.lf] [(0,0,some (.box 0 cs))],aG:=.lf,nv:=1} λax s=>match ax with|.exit _=>none|_=>Al s λcs'=>yV s fn.res λvs=>match hiR 1 ((true,cs')::vs)with|true=>bN (jv s.mem res ((true,cs')::vs)) λds=>pack tr ds|false=>none
    |false=>none
   |_=>none
  |none=>none
 |none=>match cS args (unpack ta x)with
 |some (vs,[])=>match Nat.beq vs.length fn.np with
  |true=>walk E N _ 0 0 fn.body {slots:=iw 0 vs .lf,outer:=[],mem:=[.lf],aG:=.lf,nv:=0} λax s=>match ax with|.exit _=>none|_=>yV s fn.res λvs=>match aco s.mem rk vs&&!Nat.beq rk 65535with|true=>bN (jv s.mem res vs) λds=>pack tr ds|false=>none
  |false=>none
 |_=>none
end Go.Sym
