/- A machine over typed data that the kernel runs with unknown data: what a cut of Go code computes becomes a Lean function. Definitions. -/
import Derived.Test.YtgkllgjmfpjeoaaGreatDoorEngB
set_option linter.unusedVariables false
set_option linter.unusedSimpArgs false
namespace Go.Sym
open Go Go.bJ
inductive pX where|mk(kind:Int)(int:Int)(text:List UInt8)(list:List pX)(cut:Bool)deriving Inhabited
def pX.kind:pX->Int|.mk k _ _ _ _=>k
def pX.int:pX->Int|.mk _ i _ _ _=>i
def pX.text:pX->List UInt8|.mk _ _ s _ _=>s
def pX.list:pX->List pX|.mk _ _ _ l _=>l
def pX.cut:pX->Bool|.mk _ _ _ _ c=>c
inductive Ty where|val|int(k:IntKind)|bool|str|sl(t:Ty)|unit|prod(a b:Ty)|sum(a b:Ty)deriving DecidableEq,Inhabited
@[reducible]def Ty.den:Ty->Type|.val=>pX|.int _=>Int|.bool=>Bool|.str=>List UInt8|.sl t=>List t.den|.unit=>Unit|.prod a b=>a.den×b.den|.sum a b=>a.den⊕b.den
structure fG where
 t:Ty
 v:t.den
def uj(a b:Ty)(x:a.den):Option b.den:=match decEq a b with|.isTrue h=>some (h▸x)|.isFalse _=>none
def jq(a b:Ty)(x:List a.den):Option (List b.den):=match decEq a b with|.isTrue h=>some (h▸x)|.isFalse _=>none
def Ty.size:Ty->Nat|.val=>5|.int _|.bool|.str|.sl _=>1|.unit=>0|.prod a b=>a.size+b.size|.sum _ _=>0
inductive Ow where|d|full|app(v:Nat)|bC deriving Inhabited
inductive Cell where|int(k:IntKind)(a:Int)|bool(b:Bool)|er(b:Bool)|str(s:List UInt8)|raw(v:Value)|nil(full:Bool)|sl(t:Ty)(l:List t.den)(o:Ow)|ref(lv sl ah:Nat)(t:Ty)|jx(lv sl ah:Nat)(t:Ty)(off len:Nat)|ptr(lv sl ah i off:Nat)|fK(t:Ty)(x:t.den)(off:Nat)|fe(lv sl ah off n sz:Nat)|mp(lv sl ah:Nat)deriving Inhabited
inductive V2 where|c(x:Cell)|agg(cs:List Cell)|gp(f:Nat)(cap:List Cell)|iY(vs:List (Bool×List Cell))deriving Inhabited
inductive E2 where|row(ah:Nat)(t:Ty)(l:List t.den)|box(ah:Nat)(cs:List Cell)|set(ah:Nat)(l:List (List UInt8))deriving Inhabited
structure S2 where
 slots:Tr V2
 outer:List (Tr V2)mem:List (Tr E2)aI:Tr Unit
 nv:Nat deriving Inhabited
mutual def Kj:pX->List D|.mk k i s l c=>[.sc (.int .u8 k),.sc (.int .i64 i),.sc (.string ⟨s.toArray⟩),.sl (DE l),.sc (.bool c)]def DE:List pX->List (List D)|[]=>[]|v::r=>Kj v::DE r end
def eY:(t:Ty)->t.den->List D|.val,v=>Kj v|.int k,a=>[.sc (.int k a)]|.bool,b=>[.sc (.bool b)]|.str,s=>[.sc (.string ⟨s.toArray⟩)]|.sl t,l=>[.sl (List.map (eY t) l)]|.unit,_=>[]|.prod a b,x=>eY a x.1++eY b x.2|.sum _ _,_=>[]
def iI:(t:Ty)->t.den->List Cell|.val,v=>[.int .u8 v.kind,.int .i64 v.int,.str v.text,.sl .val v.list .d,.bool v.cut]|.int k,a=>[.int k a]|.bool,b=>[.bool b]|.str,s=>[.str s]|.sl t,l=>[.sl t l .d]|.unit,_=>[]|.prod a b,x=>iI a x.1++iI b x.2|.sum _ _,_=>[]
def HD(k:IntKind):List Cell->Option (Int×List Cell)
 |.int k' a::r=>match decEq k k' with|.isTrue _=>some (a,r)|.isFalse _=>none
 |_=>none
def Fv:List Cell->Option (Bool×List Cell)|.bool b::r=>some (b,r)|_=>none
def Ms:List Cell->Option (List UInt8×List Cell)|.str s::r=>some (s,r)|_=>none
def Vz(t:Ty):List Cell->Option (List t.den×List Cell)
 |.nil _::r=>some ([],r)|.sl t' l _::r=>match jq t' t l with|some l=>some (l,r)|none=>none
 |_=>none
def XI(cs:List Cell):Option (pX×List Cell):=match HD .u8 cs with
 |some (k,r)=>match HD .i64 r with
  |some (i,r)=>match Ms r with
   |some (s,r)=>match Vz .val r with
    |some (l,r)=>match Fv r with|some (c,r)=>some (.mk k i s l c,r)|none=>none
    |none=>none
   |none=>none
  |none=>none
 |none=>none
def yu:(t:Ty)->List Cell->Option (t.den×List Cell)
 |.val,cs=>XI cs|.int k,cs=>HD k cs|.bool,cs=>Fv cs|.str,cs=>Ms cs|.sl t,cs=>Vz t cs|.unit,r=>some ((),r)|.prod a b,r=>match yu a r with
  |some (x,r')=>match yu b r' with|some (y,r'')=>some ((x,y),r'')|none=>none
  |none=>none
 |.sum _ _,_=>none
def yw(t:Ty)(cs:List Cell):Option t.den:=match yu t cs with|some (x,[])=>some x|_=>none
def Z2:Value->Cell|.int k a=>.int k a|.bool b=>.bool b|.string b=>.str b.data.toList|v=>.raw v
def VA:AV->Option Cell|.d (.sc v)=>some (Z2 v)|.own [] .full=>some (.nil true)|_=>none
def AK:List AV->Option (List Cell)|[]=>some []|x::r=>match VA x,AK r with|some y,some ys=>some (y::ys)|_,_=>none
def Z3:AV->Option V2|.agg cs=>(AK cs).map .agg|.iY []=>some (.iY [])|.gp f []=>some (.gp f [])|x=>(VA x).map .c
def VB:D->Option Cell|.sc v=>some (Z2 v)|.sl []=>some (.nil false)|_=>none
def rL:List D->Option (List Cell)|[]=>some []|x::r=>match VB x,rL r with|some y,some ys=>some (y::ys)|_,_=>none
def ji(m:List (Tr E2))(lv sl:Nat):Option E2:=(m[lv]?).bind λt=>t.get? sl
def AM(m:List (Tr E2))(lv sl:Nat)(e:Option E2):List (Tr E2):=m.modify lv λt=>t.set sl e
def fU(m:List (Tr E2)):List (Nat×Nat×Option E2)->List (Tr E2)|[]=>m|(lv,sl,e)::r=>fU (AM m lv sl e) r
structure SL where
 t:Ty
 l:List t.den
def rowOf(m:List (Tr E2))(lv sl ah:Nat):Option SL:=match ji m lv sl with
 |some (.row v t l)=>match Nat.beq v ah with|true=>some ⟨t,l⟩|false=>none
 |_=>none
def Mt(m:List (Tr E2))(lv sl ah:Nat):Option (List (List UInt8)):=match ji m lv sl with
 |some (.set v l)=>match Nat.beq v ah with|true=>some l|false=>none
 |_=>none
def Kk(m:List (Tr E2)):Cell->Option (Cell×List (Nat×Nat))
 |.int k a=>some (.int k a,[])|.bool b=>some (.bool b,[])|.str s=>some (.str s,[])|.raw v=>some (.raw v,[])|.nil _=>some (.nil false,[])|.sl _ _ .bC=>none|.sl t l _=>some (.sl t l .d,[])|.ref lv sl ah _=>match rowOf m lv sl ah with|some r=>some (.sl r.t r.l .d,[(lv,sl)])|none=>none
 |.jx lv sl ah _ off len=>match rowOf m lv sl ah with|some r=>some (.sl r.t ((r.l.drop off).take len) .d,[(lv,sl)])|none=>none
 |_=>none
def lU(m:List (Tr E2)):List Cell->Option (List Cell×List (Nat×Nat))|[]=>some ([],[])|x::r=>match Kk m x,lU m r with|some (y,k),some (ys,ks)=>some (y::ys,k++ks)|_,_=>none
structure HE where
 val:V2
 cV:List (Nat×Nat×Option E2)cD:List (Nat×Bool)rd:List (Nat×Nat×Nat)deriving Inhabited
inductive gF where|bW(e:HE)|all(val:V2)(s:S2)deriving Inhabited
def HE.wr(e:HE):List (Nat×Nat×Nat):=e.cV.map (λu=>cq u.1 u.2.1)++e.cD.map λu=>jW u.1
def ke(v:V2):gF:=.bW {val:=v,cV:=[],cD:=[],rd:=[]}
def dN(c:Cell):gF:=ke (.c c)
def rM:Cell->List (Nat×Nat×Nat)|.ref lv sl _ _=>[cq lv sl]|.jx lv sl _ _ _ _=>[cq lv sl]|.ptr lv sl _ _ _=>[cq lv sl]|.fe lv sl _ _ _ _=>[cq lv sl]|.mp lv sl _=>[cq lv sl]|_=>[]
def Fw:V2->List (Nat×Nat×Nat)|.c x=>rM x|.agg cs=>cs.flatMap rM|_=>[]
def kf(ks:List (Nat×Nat)):List (Nat×Nat×Option E2):=ks.map λk=>(k.1,k.2,none)
def VD(s:Tr V2)(dst:Option Nat)(v:V2):Tr V2:=match dst with|some n=>s.set n (some v)|none=>s
def S2.app(s:S2)(dst:Option Nat):gF->S2|.bW e=>{slots:=VD s.slots dst e.val,outer:=s.outer,mem:=fU s.mem e.cV,aI:=dS s.aI e.cD,nv:=s.nv}|.all v s'=>{s' with slots:=VD s'.slots dst v}
def Cell.still:Cell->Bool|.ref ..|.jx ..|.ptr ..|.fe ..|.mp ..=>false|.sl _ _ (.app _)=>false|_=>true
def V2.still:V2->Bool|.c x=>x.still|.agg cs=>cs.all Cell.still|.gp _ cs=>cs.all Cell.still|.iY vs=>vs.all λv=>v.2.all Cell.still
def loose:Tr V2->Tr V2|.lf=>.lf|.nd v l r=>.nd (match v with|none=>none|some x=>match x.still with|true=>none|false=>some x) (loose l) (loose r)
def merge:Tr V2->Tr V2->Tr V2|.lf,_=>.lf|.nd v l r,b=>.nd (match v with|none=>none|some x=>match x.still with|true=>some x|false=>b.top) (merge l b.left) (merge r b.right)
def iZ(s:S2):bT->Option V2|.t n=>s.slots.get? n|.c v=>Z3 v
def Fy(s:S2):List bT->Option (List V2)|[]=>some []|x::r=>match iZ s x,Fy s r with|some y,some ys=>some (y::ys)|_,_=>none
def V2.cells?:V2->Option (List Cell)|.c x=>some [x]|.agg cs=>some cs|_=>none
def AN(agg:Bool)(cs:List Cell):Option V2:=match agg with|true=>some (.agg cs)|false=>match cs with|[x]=>some (.c x)|_=>none
section
variable{α:Type}
def aF(b:Bool)(k:Option α):Option α:=cond b k none
def idx{β:Type}(l:List β)(i:Int):Option β:=cond (decide (0<=i)) (l[i.toNat]?) none
def N3:Nat->Nat->(Nat->Option α)->Option α|0,_,_=>none|n+1,k,F=>cond (Nat.beq k n) (F n) (N3 n k F)
def fP(i:Int)(n:Nat):Bool:=decide (0<=i)&&decide (i.toNat<n)
def room(n b:Nat):Bool:=decide (n<=eV)&&decide (n*b<=jP)
def HF{β:Type}(news l:List β):List β:=news.take (min news.length l.length)++l.drop (news.take (min news.length l.length)).length
def bU(s:List UInt8):List Int:=s.map λc=>(c.toNat:Int)
def iJ(v:Option V2)(k:Cell->Option α):Option α:=match v with|some (.c x)=>k x|_=>none
def N4(v:Option V2)(k:Int->Option α):Option α:=match v with|some (.c (.int _ n))=>k n|_=>none
def Fz(v:Option V2)(k:Nat->Option α):Option α:=N4 v λn=>aF (decide (0<=n)) (k n.toNat)
def vC(v:Option V2)(k:Bool->Option α):Option α:=match v with|some (.c (.bool b))=>k b|_=>none
def bZ{β:Type}(o:Option β)(k:β->Option α):Option α:=match o with|some x=>k x|none=>none
def apK:Value->Option Cell|.int k a=>some (.int k a)|.bool b=>some (.bool b)|_=>none
def Z4(op:BinOp)(k:IntKind)(a:Int)(k':IntKind)(b:Int)(K:Cell->Option α):Option α:=match op with|.shl=>aF (!decide (b<0)) (K (.int k (k.wrap (a*2^min b.toNat k.bits))))|.shr=>aF (!decide (b<0)) (K (.int k (a.fdiv (2^min b.toNat k.bits))))|op=>match decEq k k' with|.isFalse _=>none|.isTrue _=>match op with|.add=>K (.int k (k.wrap (a+b)))|.sub=>K (.int k (k.wrap (a-b)))|.mul=>K (.int k (k.wrap (a*b)))|.quo=>aF (!decide (b=0)) (K (.int k (k.wrap (a.tdiv b))))|.rem=>aF (!decide (b=0)) (K (.int k (a.tmod b)))|.and=>K (.int k (k.wrap (BitVec.ofInt k.bits a&&&BitVec.ofInt k.bits b).toNat))|.or=>K (.int k (k.wrap (BitVec.ofInt k.bits a|||BitVec.ofInt k.bits b).toNat))|.xor=>K (.int k (k.wrap (BitVec.ofInt k.bits a^^^BitVec.ofInt k.bits b).toNat))|.andNot=>K (.int k (k.wrap (BitVec.ofInt k.bits a&&&~~~(BitVec.ofInt k.bits b)).toNat))|.eql=>K (.bool (a==b))|.neq=>K (.bool (a !=b))|.lss=>K (.bool (decide (a<b)))|.leq=>K (.bool (decide (a<=b)))|.gtr=>K (.bool (decide (a>b)))|.geq=>K (.bool (decide (a>=b)))|_=>none
def Z5(op:BinOp)(x y:List UInt8)(K:Cell->Option α):Option α:=match op with|.add=>aF (!decide (((x.length+y.length:Nat):Int)>IntKind.i64.max)) (K (.str (x++y)))|.eql=>K (.bool (x==y))|.neq=>K (.bool !(x==y))|.lss=>K (.bool (Op.bytesLess x y))|.leq=>K (.bool (Op.bytesLess x y||x==y))|.gtr=>K (.bool !(Op.bytesLess x y||x==y))|.geq=>K (.bool !(Op.bytesLess x y))|_=>none
def Z6(op:BinOp)(x y:Cell)(K:Cell->Option α):Option α:=match x,y with|.int k a,.int k' b=>Z4 op k a k' b K|.str a,.str b=>Z5 op a b K|_,_=>none
def QU(kd:Nat):Cell->Cell->Option Bool
 |.bool a,.bool b=>match kd with|0=>some (a==b)|_=>none
 |.int k a,.int k' b=>match kd with
  |1=>match decEq k k' with|.isTrue _=>some (a==b)|.isFalse _=>none
  |_=>none
 |.str a,.str b=>match kd with|0=>none|1=>none|_=>some (a==b)
 |_,_=>none
def FA(xs ys:List Cell):List (Nat×Nat)->Option Bool|[]=>some true|o::r=>match xs[o.1]?,ys[o.1]?,FA xs ys r with|some x,some y,some b'=>(QU o.2 x y).map λb=>b&&b'|_,_,_=>none
def unK(op:UnOp)(x:Cell)(K:Cell->Option α):Option α:=match x with
 |.bool b=>match op with|.not=>K (.bool !b)|_=>none
 |.int k n=>match op with|.neg=>K (.int k (k.wrap (0-n)))|.xor=>K (.int k (k.wrap (BitVec.ofInt k.bits (if k.signed then-1 else k.max)^^^BitVec.ofInt k.bits n).toNat))|_=>none
 |_=>none
def n8(m:List (Tr E2))(x:Cell)(e:Option Ty)(K:SL->Option α):Option α:=match x with|.sl t l _=>K ⟨t,l⟩|.nil _=>bZ e λt=>K ⟨t,[]⟩|.ref lv sl ah _=>bZ (rowOf m lv sl ah) K|.jx lv sl ah _ off len=>bZ (rowOf m lv sl ah) λr=>aF (decide (off+len<=r.l.length)) (K ⟨r.t,(r.l.drop off).take len⟩)|.str s=>K ⟨.int .u8,bU s⟩|_=>none
def DF(s:S2):List Cell->List (Nat×Nat×bT)->Option (List Cell)|cs,[]=>some cs|cs,(off,sz,x)::r=>match(iZ s x).bind V2.cells? with
 |some new=>match Nat.beq new.length sz&&Nat.ble (off+sz) cs.length with|true=>DF s (bJ.splice cs off new) r|false=>none
 |none=>none
def AO(s:S2)(sz:Nat):List (List Cell)->List (Nat×bT)->Option (List (List Cell)×List (Nat×Nat))|els,[]=>some (els,[])|els,(i,x)::r=>match((iZ s x).bind V2.cells?).bind (lU s.mem)with
 |some (e,ks)=>match Nat.beq e.length sz&&Nat.blt i els.length with
  |true=>match AO s sz (els.set i e) r with|some (els',ks')=>some (els',ks++ks')|none=>none
  |false=>none
 |none=>none
def AP(t:Ty):List (List Cell)->Option (List t.den)|[]=>some []|e::r=>match yw t e,AP t r with|some x,some xs=>some (x::xs)|_,_=>none
def AQ:List V2->Option (List Cell)|[]=>some []|.c x::r=>(AQ r).map (x::·)|_=>none
def Mu(m:List (Tr E2))(sz:Nat)(p:Cell)(K:List Cell->Option α):Option α:=match p with
 |.ptr lv sl ah i off=>match ji m lv sl with
  |some (.box v cs)=>match Nat.beq v ah&&Nat.beq i 0&&Nat.ble (off+sz) cs.length with|true=>K ((cs.drop off).take sz)|false=>none
  |some (.row v t l)=>match Nat.beq v ah&&Nat.ble (off+sz) t.size with|true=>Option.bind l[i]? λx=>K (((iI t x).drop off).take sz)|false=>none
  |some (.set _ _)=>none|none=>none
 |.fK t x off=>match Nat.ble (off+sz) t.size with|true=>K (((iI t x).drop off).take sz)|false=>none
 |_=>none
def AR(ks:List (Nat×Nat))(lv sl:Nat):Bool:=ks.any λk=>Nat.beq k.1 lv&&Nat.beq k.2 sl
def Kl(m:List (Tr E2))(sz:Nat)(p:Cell)(new:List Cell)(K:gF->Option α):Option α:=match p,Nat.beq new.length sz with
 |.ptr lv sl ah i off,true=>match ji m lv sl with
  |some (.box v cs)=>match Nat.beq v ah&&Nat.beq i 0&&Nat.ble (off+sz) cs.length with|true=>K (.bW {val:=.iY [],cV:=[(lv,sl,some (.box v (bJ.splice cs off new)))],cD:=[],rd:=[cq lv sl]})|false=>none
  |some (.row v t l)=>match Nat.beq v ah&&Nat.ble (off+sz) t.size,lU m new with
   |true,some (new,ks)=>match AR ks lv sl with|true=>none|false=>Option.bind l[i]? λx=>bZ (yw t (bJ.splice (iI t x) off new)) λy=>K (.bW {val:=.iY [],cV:=kf ks++[(lv,sl,some (.row v t (l.set i y)))],cD:=[],rd:=cq lv sl::iE ks})
   |_,_=>none
  |some (.set _ _)=>none|none=>none
 |_,_=>none
def N5(s:S2)(row:Bool)(lv sl aO sz bytes:Nat)(x y:Cell)(e:Option Ty)(K:gF->Option α):Option α:=match x with
 |.nil true=>n8 s.mem y e λn=>match Nat.beq n.t.size sz with|true=>aF (room n.l.length bytes) (match row with|false=>K (.bW {val:=.c (.sl n.t n.l (.app aO)),cV:=[],cD:=[(aO,true)],rd:=rM y})|true=>K (.bW {val:=.c (.ref lv sl aO n.t),cV:=[(lv,sl,some (.row aO n.t n.l))],cD:=[],rd:=rM y}))|false=>none
 |.sl t l .full=>n8 s.mem y (some t) λn=>match Nat.beq t.size sz,jq n.t t n.l with|true,some news=>aF (room (l.length+news.length) bytes) (match row with|false=>K (.bW {val:=.c (.sl t (l++news) (.app aO)),cV:=[],cD:=[(aO,true)],rd:=rM y})|true=>aF (l.isEmpty||!news.isEmpty) (K (.bW {val:=.c (.ref lv sl aO t),cV:=[(lv,sl,some (.row aO t (l++news)))],cD:=[],rd:=rM y})))|_,_=>none
 |.sl t l (.app v)=>n8 s.mem y (some t) λn=>match Nat.beq t.size sz,jq n.t t n.l,row,s.aI.get? v with|true,some news,false,some ()=>aF (room (l.length+news.length) bytes) (K (.bW {val:=.c (.sl t (l++news) (.app aO)),cV:=[],cD:=[(v,false),(aO,true)],rd:=jW v::rM y}))|_,_,_,_=>none
 |.ref cL dU ah t=>bZ (rowOf s.mem cL dU ah) λr=>n8 s.mem y (some t) λn=>match Nat.beq t.size sz,jq r.t t r.l,jq n.t t n.l with|true,some l,some news=>aF (room (l.length+news.length) bytes) (K (.bW {val:=.c (.ref cL dU aO t),cV:=[(cL,dU,some (.row aO t (l++news)))],cD:=[],rd:=cq cL dU::rM y}))|_,_,_=>none
 |.jx cL dU ah t off len=>bZ (rowOf s.mem cL dU ah) λr=>n8 s.mem y (some t) λn=>match Nat.beq t.size sz,jq r.t t r.l,jq n.t t n.l with|true,some l,some news=>aF (decide (off+len<=l.length)&&room (len+news.length) bytes) (K (.bW {val:=.c (.ref cL dU aO t),cV:=[(cL,dU,some (.row aO t ((l.drop off).take len++news)))],cD:=[],rd:=cq cL dU::rM y}))|_,_,_=>none
 |_=>none
def uk(x:Option bT)(s:S2)(K:Option Nat->Option α):Option α:=match x with|none=>K none|some o=>Fz (iZ s o) λn=>K (some n)
def n9{β:Type}(l:List β)(lo hi:Option Nat):List β:=match lo,hi with|none,none=>l|some a,none=>l.drop a|none,some b=>l.take b|some a,some b=>(l.drop a).take (b-a)
def mE(n:Nat)(lo hi:Option Nat):Bool:=match lo,hi with|none,none=>true|some a,none=>decide (a<=n)|none,some b=>decide (b<=n)|some a,some b=>decide (a<=b)&&decide (b<=n)
def zy(lo:Option Nat):Nat:=lo.getD 0
def Cell.isRow:Cell->Bool|.ref ..=>true|.jx ..=>true|_=>false
def V2.isRow:V2->Bool|.c x=>x.isRow|_=>false
def Z7(m:List (Tr E2))(sz aO:Nat)(x:Cell)(lo hi:Option Nat)(K:gF->Option α):Option α:=match x with
 |.ref lv sl ah t=>bZ (rowOf m lv sl ah) λr=>match Nat.beq t.size sz,jq r.t t r.l with|true,some l=>aF (mE l.length lo hi) (K (.bW {val:=.c (.ref lv sl aO t),cV:=[(lv,sl,some (.row aO t (n9 l lo hi)))],cD:=[],rd:=[cq lv sl]}))|_,_=>none
 |_=>none
def Km(m:List (Tr E2))(sz:Nat)(x:Cell)(lo hi mx:Option Nat)(K:Cell->Option α):Option α:=match x with
 |.sl t l o=>match Nat.beq t.size sz with
  |true=>match mx with|none=>aF (mE l.length lo hi) (match o with
   |.bC=>K (.sl t (n9 l lo hi) .bC)|.full=>match hi with|none=>K (.sl t (n9 l lo hi) .full)|some _=>K (.sl t (n9 l lo hi) .d)
   |_=>K (.sl t (n9 l lo hi) .d))|some m=>match o,hi with|.bC,_=>none|_,none=>none|_,some h=>aF (mE l.length lo hi&&Nat.beq h m) (K (.sl t (n9 l lo hi) .full))
  |false=>none
 |.nil f=>match mx with|none=>aF (mE 0 lo hi) (K (.nil f))|some _=>none
 |.ref lv sl ah t=>match Nat.beq t.size sz,mx with|true,none=>bZ (rowOf m lv sl ah) λr=>aF (mE r.l.length lo hi) (K (.jx lv sl ah t (zy lo) (hi.getD r.l.length-zy lo)))|_,_=>none
 |.jx lv sl ah t off len=>match Nat.beq t.size sz,mx with|true,none=>aF (mE len lo hi) (K (.jx lv sl ah t (off+zy lo) (hi.getD len-zy lo)))|_,_=>none
 |_=>none
end
inductive gG where|int(k:IntKind)|bool|er|str|sl(t:Ty)(o:Ow)|nil(full:Bool)|ref(lv sl ah:Nat)(t:Ty)|ptr(lv sl ah i off:Nat)|fK(t:Ty)(off:Nat)|mp(lv sl ah:Nat)deriving Inhabited
inductive tc where|c(x:gG)|agg(l:List gG)|gp(f:Nat)(l:List gG)deriving Inhabited
inductive Mv where|row(ah:Nat)(t:Ty)|box(ah:Nat)(l:List gG)|set(ah:Nat)deriving Inhabited
@[reducible]def qQ:List Ty->Ty|[]=>.unit|[a]=>a|a::b::r=>.prod a (qQ (b::r))
def unpack:(ts:List Ty)->(qQ ts).den->List fG|[],_=>[]|[a],x=>[⟨a,x⟩]|a::b::r,x=>⟨a,x.1⟩::unpack (b::r) x.2
def pack:(ts:List Ty)->List fG->Option (qQ ts).den
 |[],[]=>some ()|[a],[d]=>uj d.t a d.v|a::b::r,d::ds=>match uj d.t a d.v,pack (b::r) ds with|some x,some y=>some (x,y)|_,_=>none
 |_,_=>none
def gG.fill:gG->List fG->Option (Cell×List fG)|.int _,⟨.int k,a⟩::r=>some (.int k a,r)|.bool,⟨.bool,b⟩::r=>some (.bool b,r)|.er,⟨.bool,b⟩::r=>some (.er b,r)|.str,⟨.str,s⟩::r=>some (.str s,r)|.sl _ o,⟨.sl t,l⟩::r=>some (.sl t l o,r)|.nil f,r=>some (.nil f,r)|.ref lv sq ah t,r=>some (.ref lv sq ah t,r)|.ptr lv sq ah i off,r=>some (.ptr lv sq ah i off,r)|.fK _ off,⟨t,x⟩::r=>some (.fK t x off,r)|.mp lv sq ah,r=>some (.mp lv sq ah,r)|_,_=>none
def cW:List gG->List fG->Option (List Cell×List fG)|[],r=>some ([],r)|c::cs,r=>match c.fill r with
 |some (x,r')=>match cW cs r' with|some (xs,r'')=>some (x::xs,r'')|none=>none
 |none=>none
def tc.fill:tc->List fG->Option (V2×List fG)
 |.c x,r=>match x.fill r with|some (y,r')=>some (.c y,r')|none=>none
 |.agg l,r=>match cW l r with|some (y,r')=>some (.agg y,r')|none=>none
 |.gp f l,r=>match cW l r with|some (y,r')=>some (.gp f y,r')|none=>none
def Mv.fill:Mv->List fG->Option (E2×List fG)
 |.row ah _,⟨.sl t,l⟩::r=>some (.row ah t l,r)|.box ah l,r=>match cW l r with|some (y,r')=>some (.box ah y,r')|none=>none
 |.set ah,⟨.sl .str,l⟩::r=>some (.set ah l,r)|_,_=>none
abbrev Ren:=List (Nat×Option Nat)
def gG.get:gG->Cell->Option (List fG×Ren)
 |.int k,.int k' a=>match decEq k k' with|.isTrue _=>some ([⟨.int k',a⟩],[])|.isFalse _=>none
 |.bool,.bool b=>some ([⟨.bool,b⟩],[])|.er,.er b=>some ([⟨.bool,b⟩],[])|.str,.str s=>some ([⟨.str,s⟩],[])|.sl t o,.nil f=>match o,f with|.d,_=>some ([⟨.sl t,[]⟩],[])|.bC,_=>some ([⟨.sl t,[]⟩],[])|.full,true=>some ([⟨.sl t,[]⟩],[])|.app v,true=>some ([⟨.sl t,[]⟩],[(v,none)])|_,_=>none
 |.sl _ o,.sl t' l o'=>match o,o' with|.bC,_=>some ([⟨.sl t',l⟩],[])|.d,.bC=>none|.d,_=>some ([⟨.sl t',l⟩],[])|.full,.full=>some ([⟨.sl t',l⟩],[])|.app v,.full=>some ([⟨.sl t',l⟩],[(v,none)])|.app v,.app v'=>some ([⟨.sl t',l⟩],[(v,some v')])|_,_=>none
 |.nil true,.nil true=>some ([],[])|.nil false,.nil _=>some ([],[])|.ref lv sq ah t,.ref cL sq' gB t'=>match Nat.beq lv cL&&Nat.beq sq sq',decEq t t' with|true,.isTrue _=>some ([],[(ah,some gB)])|_,_=>none
 |.ptr lv sq ah i off,.ptr cL sq' gB i' off'=>match Nat.beq lv cL&&Nat.beq sq sq'&&Nat.beq i i'&&Nat.beq off off' with|true=>some ([],[(ah,some gB)])|false=>none
 |.fK _ off,.fK t' x off'=>match Nat.beq off off' with|true=>some ([⟨t',x⟩],[])|false=>none
 |.mp lv sq ah,.mp cL sq' gB=>match Nat.beq lv cL&&Nat.beq sq sq' with|true=>some ([],[(ah,some gB)])|false=>none
 |_,_=>none
def yy:List gG->List Cell->Option (List fG×Ren)
 |[],[]=>some ([],[])|c::cs,x::xs=>match c.get x,yy cs xs with|some (d,r),some (ds,rs)=>some (d++ds,r++rs)|_,_=>none
 |_,_=>none
def tc.get:tc->V2->Option (List fG×Ren)
 |.c x,.c y=>x.get y|.agg l,.agg cs=>yy l cs|.gp f l,.gp f' cs=>match Nat.beq f f' with|true=>yy l cs|false=>none
 |_,_=>none
def Mv.get:Mv->E2->Option (List fG×Ren)
 |.row ah _,.row gB t' l=>some ([⟨.sl t',l⟩],[(ah,some gB)])|.box ah l,.box gB cs=>match yy l cs with|some (d,r)=>some (d,(ah,some gB)::r)|none=>none
 |.set ah,.set gB l=>some ([⟨.sl .str,l⟩],[(ah,some gB)])|_,_=>none
structure bq where
 slots:List (Nat×tc)outer:List (List (Nat×tc))mem:List (Nat×Nat×Mv)lvs:Nat
 aI:List Nat
 nv:Nat
 tys:List Ty deriving Inhabited
def mY:List (Nat×tc)->List fG->Tr V2->Option (Tr V2×List fG)|[],r,t=>some (t,r)|(k,v)::l,r,t=>match v.fill r with|some (x,r')=>mY l r' (t.set k (some x))|none=>none
def td:List (List (Nat×tc))->List fG->Option (List (Tr V2)×List fG)|[],r=>some ([],r)|x::l,r=>match mY x r .lf with
 |some (t,r')=>match td l r' with|some (ts,r'')=>some (t::ts,r'')|none=>none
 |none=>none
def vD:List (Nat×Nat×Mv)->List fG->List (Tr E2)->Option (List (Tr E2)×List fG)|[],r,m=>some (m,r)|(lv,sl,e)::l,r,m=>match e.fill r with|some (x,r')=>vD l r' (AM m lv sl (some x))|none=>none
def FB:List Nat->Tr Unit->Tr Unit|[],t=>t|v::r,t=>FB r (t.set v (some ()))
def bq.st(T:bq)(ds:List fG):Option S2:=match mY T.slots ds .lf with
 |some (sl,r)=>match td T.outer r with
  |some (os,r)=>match vD T.mem r (List.replicate T.lvs .lf)with|some (m,[])=>some {slots:=sl,outer:=os,mem:=m,aI:=FB T.aI .lf,nv:=T.nv}|_=>none
  |none=>none
 |none=>none
def pg(s:Tr V2):List (Nat×tc)->Option (List fG×Ren)|[]=>some ([],[])|(k,v)::l=>match(s.get? k).bind v.get,pg s l with|some (d,r),some (ds,rs)=>some (d++ds,r++rs)|_,_=>none
def pq:List (Tr V2)->List (List (Nat×tc))->Option (List fG×Ren)
 |[],[]=>some ([],[])|t::ts,x::xs=>match pg t x,pq ts xs with|some (d,r),some (ds,rs)=>some (d++ds,r++rs)|_,_=>none
 |_,_=>none
def AS(m:List (Tr E2)):List (Nat×Nat×Mv)->Option (List fG×Ren)|[]=>some ([],[])|(lv,sl,e)::l=>match(ji m lv sl).bind e.get,AS m l with|some (d,r),some (ds,rs)=>some (d++ds,r++rs)|_,_=>none
def tO:Ren->Nat->Option Nat|[],_=>none|(a,w)::r,v=>match Nat.beq a v with|true=>w|false=>tO r v
def oeq:Option Nat->Option Nat->Bool|none,none=>true|some a,some b=>Nat.beq a b|_,_=>false
def QV(nv snv:Nat)(σ:Ren):Bool:=σ.all λp=>Nat.blt p.1 nv&&oeq (tO σ p.1) p.2&&(match p.2with|none=>true|some w=>Nat.blt w snv&&σ.all λq=>Nat.beq q.1 p.1||!oeq q.2 p.2)
def FC(nv:Nat)(σ:Ren)(t:Tr Unit):List Nat->Bool|[]=>true|v::r=>Nat.blt v nv&&(match tO σ v with|none=>true|some w=>(t.get? w).isSome)&&FC nv σ t r
def bq.get(T:bq)(s:S2):Option (List fG):=match pg s.slots T.slots,pq s.outer T.outer,AS s.mem T.mem with
 |some (d,r),some (ds',rs'),some (ds,rs)=>match Nat.beq T.lvs s.mem.length&&QV T.nv s.nv (r++(rs'++rs))&&FC T.nv (r++(rs'++rs)) s.aI T.aI with|true=>some (d++(ds'++ds))|false=>none
 |_,_,_=>none
inductive tP where|c(x:gG)|agg(l:List gG)|gp(f:Nat)|box(l:List gG)deriving Inhabited
structure Callee where
 args:List tP
 ta:List Ty
 res:List (Bool×List gG)tr:List Ty
 rk:Nat
 F:(qQ ta).den->Option (qQ tr).den
abbrev bp:=List (AX×bq)
@[reducible]def oa:bp->Ty|[]=>.unit|[x]=>qQ x.2.tys|x::y::r=>.sum (qQ x.2.tys) (oa (y::r))
structure HG where
 T:bq
 outs:bp
 F:(qQ T.tys).den->Option (oa outs).den
structure ak where
 fns:Nat->Option tF
 AT:Nat->Option Callee
 loops:Nat->Nat->AC->Option HG
 HH:Nat->Nat->Option bp
 QW:Nat->Nat->Option bp
 Ko:Nat->Nat->Option (Nat×Ty)unr:Nat->Nat->Bool
 Mw:Nat->Nat->Option Ty
def ak.sh(E:ak)(g:Nat):Bool:=((E.fns g).map (·.sh)).getD false
def gG.arg(m:List (Tr E2))(agg:Bool):gG->Cell->Option (List fG×List (Nat×Nat)×List Bool)
 |.int k,.int k' a=>match decEq k k' with|.isTrue _=>some ([⟨.int k',a⟩],[],[])|.isFalse _=>none
 |.bool,.bool b=>some ([⟨.bool,b⟩],[],[])|.str,.str s=>some ([⟨.str,s⟩],[],[])|.sl t o,.nil _=>match o with|.d=>some ([⟨.sl t,[]⟩],[],[])|.bC=>some ([⟨.sl t,[]⟩],[],[])|_=>none
 |.sl _ o,.sl t' l o'=>match o,o' with|.bC,_=>some ([⟨.sl t',l⟩],[],[])|.d,.bC=>none|.d,_=>some ([⟨.sl t',l⟩],[],[])|_,_=>none
 |.sl _ o,.ref lv sq ah _=>match rowOf m lv sq ah,o,agg with|some r,.bC,false=>some ([⟨.sl r.t,r.l⟩],[],[])|some r,.bC,true=>some ([⟨.sl r.t,r.l⟩],[(lv,sq)],[])|some r,.d,true=>some ([⟨.sl r.t,r.l⟩],[(lv,sq)],[])|_,_,_=>none
 |.sl _ o,.jx lv sq ah _ off len=>match rowOf m lv sq ah,o,agg with|some r,.bC,false=>some ([⟨.sl r.t,(r.l.drop off).take len⟩],[],[decide (off+len<=r.l.length)])|_,_,_=>none
 |_,_=>none
def AU(m:List (Tr E2)):List gG->List Cell->Option (List fG×List (Nat×Nat)×List Bool)
 |[],[]=>some ([],[],[])|c::cs,x::xs=>match c.arg m true x,AU m cs xs with|some (d,k,b),some (ds,ks,bs)=>some (d++ds,k++ks,b++bs)|_,_=>none
 |_,_=>none
def tP.arg(m:List (Tr E2)):tP->V2->Option (List fG×List (Nat×Nat)×List Bool)
 |.c x,.c y=>x.arg m false y|.agg l,.agg cs=>AU m l cs|.gp f,.gp f' []=>match Nat.beq f f' with|true=>some ([],[],[])|false=>none
 |_,_=>none
def DG(m:List (Tr E2)):List tP->List V2->Option (List fG×List (Nat×Nat)×List Bool)
 |[],[]=>some ([],[],[])|p::ps,x::xs=>match p.arg m x,DG m ps xs with|some (d,k,b),some (ds,ks,bs)=>some (d++ds,k++ks,b++bs)|_,_=>none
 |_,_=>none
def um{α:Type}(l:List Bool)(k:Option α):Option α:=match l with|[]=>k|b::r=>aF b (um r k)
def Z8(m:List (Tr E2)):Cell->Option Cell
 |.int k a=>some (.int k a)|.bool b=>some (.bool b)|.str s=>some (.str s)|.raw v=>some (.raw v)|.nil _=>some (.nil false)|.sl t l _=>some (.sl t l .d)|.ref lv sl ah _=>match rowOf m lv sl ah with|some r=>some (.sl r.t r.l .d)|none=>none
 |.jx lv sl ah _ off len=>match rowOf m lv sl ah with|some r=>some (.sl r.t ((r.l.drop off).take len) .d)|none=>none
 |_=>none
def VE(m:List (Tr E2)):List Cell->Option (List Cell)|[]=>some []|x::r=>match Z8 m x,VE m r with|some y,some ys=>some (y::ys)|_,_=>none
def gG.kL(m:List (Tr E2))(agg:Bool):gG->Cell->Option (List fG×List Bool)
 |.int k,.int k' a=>match decEq k k' with|.isTrue _=>some ([⟨.int k',a⟩],[])|.isFalse _=>none
 |.bool,.bool b=>some ([⟨.bool,b⟩],[])|.str,.str s=>some ([⟨.str,s⟩],[])|.sl t o,.nil _=>match o with|.d=>some ([⟨.sl t,[]⟩],[])|.bC=>some ([⟨.sl t,[]⟩],[])|_=>none
 |.sl _ o,.sl t' l _=>match o with|.d=>some ([⟨.sl t',l⟩],[])|.bC=>some ([⟨.sl t',l⟩],[])|_=>none
 |.sl _ o,.ref lv sq ah _=>match rowOf m lv sq ah,o with|some r,.d=>some ([⟨.sl r.t,r.l⟩],[])|some r,.bC=>some ([⟨.sl r.t,r.l⟩],[])|_,_=>none
 |.sl _ o,.jx lv sq ah _ off len=>match rowOf m lv sq ah,o with|some r,.d=>some ([⟨.sl r.t,(r.l.drop off).take len⟩],[decide (off+len<=r.l.length)])|some r,.bC=>some ([⟨.sl r.t,(r.l.drop off).take len⟩],[decide (off+len<=r.l.length)])|_,_=>none
 |.sl t o,.fe lv sq ah off n sz=>match agg,ji m lv sq with
  |false,some (.box v cs)=>match Nat.beq v ah&&Nat.ble (off+n*sz) cs.length,(VE m ((cs.drop off).take (n*sz))).bind λds=>AP t (bJ.chunk sz n ds)with
   |true,some l=>match o with|.d=>some ([⟨.sl t,l⟩],[])|.bC=>some ([⟨.sl t,l⟩],[])|_=>none
   |_,_=>none
  |_,_=>none
 |_,_=>none
def wY(m:List (Tr E2)):List gG->List Cell->Option (List fG×List Bool)
 |[],[]=>some ([],[])|c::cs,x::xs=>match c.kL m true x,wY m cs xs with|some (d,b),some (ds,bs)=>some (d++ds,b++bs)|_,_=>none
 |_,_=>none
def tP.kL(m:List (Tr E2)):tP->V2->Option (List fG×List Bool)
 |.c x,.c y=>x.kL m false y|.agg l,.agg cs=>wY m l cs|.gp f,.gp f' []=>match Nat.beq f f' with|true=>some ([],[])|false=>none
 |_,_=>none
def wZ(m:List (Tr E2)):List tP->List V2->Option (List fG×List Bool)
 |[],[]=>some ([],[])|p::ps,x::xs=>match p.kL m x,wZ m ps xs with|some (d,b),some (ds,bs)=>some (d++ds,b++bs)|_,_=>none
 |_,_=>none
def yz(m:List (Tr E2)):V2->List (Nat×Nat×Nat)|.c (.fe lv sl _ _ _ _)=>cq lv sl::(match ji m lv sl with|some (.box _ cs)=>cs.flatMap rM|_=>[])|v=>Fw v
def gG.flat:gG->Bool|.int _|.bool|.str=>true|_=>false
def zI(res:List (Bool×List gG)):Bool:=res.all λr=>r.2.all gG.flat
def di:List tP->List fG->Option (List V2×List fG)|[],r=>some ([],r)|p::ps,r=>match(match p with|.c x=>tc.fill (.c x) r|.agg l=>tc.fill (.agg l) r|.gp f=>some (.gp f [],r)|.box _=>none)with
 |some (x,r')=>match di ps r' with|some (xs,r'')=>some (x::xs,r'')|none=>none
 |none=>none
def jr:List (Bool×List gG)->List fG->Option (List (Bool×List Cell)×List fG)|[],r=>some ([],r)|(a,l)::ps,r=>match cW l r with
 |some (x,r')=>match jr ps r' with|some (xs,r'')=>some ((a,x)::xs,r'')|none=>none
 |none=>none
def nU:List (Bool×List Cell)->Option V2|[(a,cs)]=>AN a cs|vs=>some (.iY vs)
def jT:Nat->List V2->Tr V2->Tr V2|_,[],t=>t|i,x::r,t=>jT (i+1) r (t.set i (some x))
def tf:gG->Cell->Option (List fG)
 |.int k,.int k' a=>match decEq k k' with|.isTrue _=>some [⟨.int k',a⟩]|.isFalse _=>none
 |.bool,.bool b=>some [⟨.bool,b⟩]|.str,.str s=>some [⟨.str,s⟩]|.sl t .d,.nil _=>some [⟨.sl t,[]⟩]|.sl _ .d,.sl t' l _=>some [⟨.sl t',l⟩]|_,_=>none
def fV:List gG->List Cell->Option (List fG)
 |[],[]=>some []|c::cs,x::xs=>match tf c x,fV cs xs with|some d,some ds=>some (d++ds)|_,_=>none
 |_,_=>none
def VF(top:Nat):Cell->Bool|.ref lv _ _ _=>Nat.ble top lv|.jx lv _ _ _ _ _=>Nat.ble top lv|_=>true
def hiR(top:Nat)(vs:List (Bool×List Cell)):Bool:=vs.all λv=>v.2.all (VF top)
def Kp(m:List (Tr E2))(rk k:Nat):Cell->Bool|.ref lv sl ah t=>Nat.beq k rk&&(match rowOf m lv sl ah with|some r=>Nat.beq r.t.size t.size|none=>false)|.nil true=>true|.jx ..=>false|_=>!Nat.beq k rk
def VG(m:List (Tr E2))(rk:Nat):Nat->List Cell->Bool|_,[]=>true|k,c::r=>Kp m rk k c&&VG m rk (k+1) r
def DH(m:List (Tr E2))(rk:Nat):Nat->List (Bool×List Cell)->Bool|_,[]=>true|k,(_,cs)::r=>VG m rk k cs&&DH m rk (k+64) r
def Z9(m:List (Tr E2))(rk:Nat)(vs:List (Bool×List Cell)):Bool:=match Nat.beq rk 0with|true=>true|false=>DH m rk 1 vs
def DI(rk lv sl ah k:Nat)(c:Cell):Option (Cell×List SL):=match Nat.beq k rk with
 |true=>match c with|.sl t l _=>some (.ref lv sl ah t,[⟨t,l⟩])|_=>none
 |false=>some (c,[])
def rN(rk lv sl ah:Nat):Nat->List Cell->Option (List Cell×List SL)|_,[]=>some ([],[])|k,c::r=>match DI rk lv sl ah k c,rN rk lv sl ah (k+1) r with|some (x,u),some (xs,us)=>some (x::xs,u++us)|_,_=>none
def DJ(rk lv sl ah:Nat):Nat->List (Bool×List Cell)->Option (List (Bool×List Cell)×List SL)|_,[]=>some ([],[])|k,(a,cs)::r=>match rN rk lv sl ah k cs,DJ rk lv sl ah (k+64) r with|some (xs,us),some (ys,vs)=>some ((a,xs)::ys,us++vs)|_,_=>none
section
variable{α:Type}
def aaa(s:S2)(r:z6)(K:Bool->List Cell->Option α):Option α:=match r with
 |.t n=>match s.slots.get? n with|some (.c x)=>K false [x]|some (.agg cs)=>K true cs|_=>none
 |.cell n sz agg=>iJ (s.slots.get? n) λp=>Mu s.mem sz p λcs=>match agg,cs with|true,cs=>K true cs|false,[x]=>K false [x]|_,_=>none
def DK(s:S2):List z6->(List (Bool×List Cell)->Option α)->Option α|[],K=>K []|r::rs,K=>aaa s r λa cs=>DK s rs λl=>K ((a,cs)::l)
end
def kW(m:List (Tr E2)):List (Bool×List gG)->List (Bool×List Cell)->Option (List fG)
 |[],[]=>some []|(a,l)::ps,(b,cs)::vs=>match a==b,lU m cs,kW m ps vs with|true,some (cs,_),some ds=>(fV l cs).map (·++ds)|_,_,_=>none
 |_,_=>none
def QX(m:List (Tr E2))(top:Nat):Cell->Option Cell
 |.int k a=>some (.int k a)|.bool b=>some (.bool b)|.str s=>some (.str s)|.raw v=>some (.raw v)|.nil _=>some (.nil false)|.sl _ _ .bC=>none|.sl t l _=>some (.sl t l .d)|.ref lv sl ah t=>match Nat.ble top lv with|false=>some (.ref lv sl ah t)|true=>match rowOf m lv sl ah with|some r=>some (.sl r.t r.l .d)|none=>none
 |.jx lv sl ah t off len=>match Nat.ble top lv with|false=>some (.jx lv sl ah t off len)|true=>match rowOf m lv sl ah with|some r=>some (.sl r.t ((r.l.drop off).take len) .d)|none=>none
 |_=>none
def AW(m:List (Tr E2))(top:Nat):List Cell->Option (List Cell)|[]=>some []|x::r=>match QX m top x,AW m top r with|some y,some ys=>some (y::ys)|_,_=>none
def yA(m:List (Tr E2))(top:Nat):List (Bool×List Cell)->Option (List (Bool×List Cell))|[]=>some []|(a,x)::r=>match AW m top x,yA m top r with|some y,some ys=>some ((a,y)::ys)|_,_=>none
def XJ(top:Nat):Cell->Bool|.ref lv _ _ _=>Nat.ble top lv|.jx lv _ _ _ _ _=>Nat.ble top lv|_=>false
def aab(m:List (Tr E2))(top:Nat)(c:Cell):Option Cell:=match c with
 |.nil b=>match Nat.beq top 0with|true=>some (.nil false)|false=>some (.nil b)
 |.sl t l (.app v)=>match Nat.beq top 0with|true=>some (.sl t l .d)|false=>some (.sl t l (.app v))
 |.sl t l .full=>match Nat.beq top 0with|true=>some (.sl t l .d)|false=>some (.sl t l .full)
 |c=>QX m top c
def QY(m:List (Tr E2))(top rk lv sl ah:Nat)(e:Option Ty)(k:Nat)(c:Cell):Option (Cell×List SL):=match Nat.beq k rk with
 |true=>match c with
  |.nil true=>e.map λt=>(.ref lv sl ah t,[⟨t,[]⟩])|.ref cL dU gB t=>match Nat.ble top cL,rowOf m cL dU gB with
   |true,some r=>match Nat.beq r.t.size t.size with|true=>some (.ref lv sl ah r.t,[⟨r.t,r.l⟩])|false=>none
   |_,_=>none
  |.jx cL dU gB t off len=>match Nat.ble top cL,rowOf m cL dU gB with
   |true,some r=>match Nat.beq r.t.size t.size with|true=>some (.ref lv sl ah r.t,[⟨r.t,(r.l.drop off).take len⟩])|false=>none
   |_,_=>none
  |_=>none
 |false=>match XJ top c with|true=>none|false=>(aab m top c).map λy=>(y,[])
def DL(m:List (Tr E2))(top rk lv sl ah:Nat)(e:Option Ty):Nat->List Cell->Option (List Cell×List SL)|_,[]=>some ([],[])|k,x::r=>match QY m top rk lv sl ah e k x,DL m top rk lv sl ah e (k+1) r with|some (y,u),some (ys,us)=>some (y::ys,u++us)|_,_=>none
def AY(m:List (Tr E2))(top rk lv sl ah:Nat)(e:Option Ty):Nat->List (Bool×List Cell)->Option (List (Bool×List Cell)×List SL)|_,[]=>some ([],[])|k,(a,x)::r=>match DL m top rk lv sl ah e k x,AY m top rk lv sl ah e (k+64) r with|some (y,u),some (ys,us)=>some ((a,y)::ys,u++us)|_,_=>none
section
variable{α:Type}
def VH:AX->AX->Bool|.normal,.normal=>true|.exit a,.exit b=>Nat.beq a b|.ret,.ret=>true|_,_=>false
def pz:(os:bp)->(oa os).den->(AX->S2->Option α)->Option α|[],_,_=>none|[x],y,K=>bZ (x.2.st (unpack x.2.tys y)) λs=>K x.1 s|x::z::r,y,K=>match y with|.inl a=>bZ (x.2.st (unpack x.2.tys a)) λs=>K x.1 s|.inr b=>pz (z::r) b K
def mL:(os:bp)->AX->S2->Option (oa os).den
 |[],_,_=>none|[x],ax,s=>match VH x.1 ax with|true=>bZ (x.2.get s) λds=>pack x.2.tys ds|false=>none
 |x::z::r,ax,s=>match VH x.1 ax with|true=>bZ ((x.2.get s).bind (pack x.2.tys)) λy=>some (.inl y)|false=>bZ (mL (z::r) ax s) λy=>some (.inr y)
end
abbrev Wk:=∀(α:Type),Nat->Nat->AC->S2->(AX->S2->Option α)->Option α
def XK(ctx d:Nat):Nat:=(ctx+1)*1000000+d*1000
section
variable{α:Type}
def V2.XL:V2->Bool|.iY _=>false|_=>true
def QZ(E:ak)(s:S2)(row d nx f:Nat)(args:List V2)(K:gF->Option α):Option α:=bZ (E.AT f) λc=>bZ (DG s.mem c.args args) λ(ds,ks,bs)=>bZ (pack c.ta ds) λx=>um bs<|Option.bind (c.F x) λy=>match jr c.res (unpack c.tr y)with
 |some (vs,[])=>match Nat.beq row 0with
  |true=>match Nat.beq c.rk 65535with|true=>none|false=>bZ (nU vs) λv=>K (.bW {val:=v,cV:=kf ks,cD:=[],rd:=args.flatMap Fw})
  |false=>match Nat.beq (row%65536) c.rk&&!Nat.beq c.rk 0&&!Nat.beq (row/65536) 0,DJ c.rk (s.mem.length-1) d nx 1 vs with
   |true,some (vs,[])=>bZ (nU vs) λv=>K (.bW {val:=v,cV:=kf ks,cD:=[],rd:=args.flatMap Fw})|true,some (vs,[u])=>match Nat.beq (row/65536) u.t.size with|true=>bZ (nU vs) λv=>K (.bW {val:=v,cV:=kf ks++[(s.mem.length-1,d,some (.row nx u.t u.l))],cD:=[],rd:=args.flatMap Fw})|false=>none
   |_,_=>none
 |_=>none
def tP.adN(m:List (Tr E2)):tP->V2->Option (List fG×List (Nat×Nat)×List Bool)|.c x,.c y=>x.arg m true y|.agg l,.agg cs=>AU m l cs|_,_=>none
def DM(m:List (Tr E2)):List tP->List V2->Option (List fG×List (Nat×Nat)×List Bool)
 |[],[]=>some ([],[],[])|p::ps,x::xs=>match p.adN m x,DM m ps xs with|some (d,k,b),some (ds,ks,bs)=>some (d++ds,k++ks,b++bs)|_,_=>none
 |_,_=>none
def XM(E:ak)(s:S2)(f:Nat)(args:List V2)(K:gF->Option α):Option α:=bZ (E.AT f) λc=>match !Nat.beq c.rk 65535with
 |true=>bZ (DM s.mem c.args args) λ(ds,ks,bs)=>bZ (pack c.ta ds) λx=>um bs<|Option.bind (c.F x) λy=>match jr c.res (unpack c.tr y)with|some (vs,[])=>bZ (nU vs) λv=>K (.bW {val:=v,cV:=kf ks,cD:=[],rd:=args.flatMap Fw})|_=>none
 |false=>none
def w8(m:List (Tr E2)):List gG->List Cell->Option (List fG×List Bool)
 |[],[]=>some ([],[])|c::cs,x::xs=>match c.arg m false x,w8 m cs xs with|some (d,[],b),some (ds,bs)=>some (d++ds,b++bs)|_,_=>none
 |_,_=>none
def tP.adO(m:List (Tr E2)):tP->V2->Option (List fG×List Bool)
 |.c x,.c y=>match x.arg m false y with|some (d,[],b)=>some (d,b)|_=>none
 |.agg l,.agg cs=>w8 m l cs|_,_=>none
def DN(m:List (Tr E2)):List tP->List V2->Option (List fG×List Bool)
 |[],[]=>some ([],[])|p::ps,x::xs=>match p.adO m x,DN m ps xs with|some (d,b),some (ds,bs)=>some (d++ds,b++bs)|_,_=>none
 |_,_=>none
def XN(E:ak)(s:S2)(f:Nat)(args:List V2)(K:gF->Option α):Option α:=bZ (E.AT f) λc=>match !Nat.beq c.rk 65535with
 |true=>bZ (DN s.mem c.args args) λ(ds,bs)=>bZ (pack c.ta ds) λx=>um bs<|Option.bind (c.F x) λy=>match jr c.res (unpack c.tr y)with|some (vs,[])=>bZ (nU vs) λv=>K (.bW {val:=v,cV:=[],cD:=[],rd:=args.flatMap Fw})|_=>none
 |false=>none
def HI(E:ak)(wk:Wk)(ctx:Nat)(s:S2)(row d nx f:Nat)(args:List V2)(K:gF->Option α):Option α:=match E.fns f with
 |some fn=>match fn.sh with|false=>QZ E s row d nx f args K|true=>match Nat.beq args.length fn.np&&args.all V2.XL with
  |false=>none|true=>let st:S2:={slots:=jT 0 args .lf,outer:=loose s.slots::s.outer,mem:=s.mem++[.lf],aI:=s.aI,nv:=nx};let back:S2->Option α:=λs'=>match s'.outer with
    |o::os=>DK s' fn.res λvs=>match Nat.beq row 0with|true=>bZ (yA s'.mem s.mem.length vs) λvs=>bZ (nU vs) λv=>K (.all v {slots:=merge s.slots o,outer:=os,mem:=s'.mem.take s.mem.length,aI:=s'.aI,nv:=s'.nv})|false=>match !Nat.beq (row%65536) 0&&!Nat.beq (row/65536) 0,AY s'.mem s.mem.length (row%65536) (s.mem.length-1) d s'.nv (E.Mw ctx d) 1 vs with
     |true,some (vs,[u])=>match Nat.beq (row/65536) u.t.size with|true=>bZ (nU vs) λv=>K (.all v {slots:=merge s.slots o,outer:=os,mem:=fU (s'.mem.take s.mem.length) [(s.mem.length-1,d,some (.row s'.nv u.t u.l))],aI:=s'.aI,nv:=s'.nv+1})|false=>none
     |true,some (vs,[])=>bZ (nU vs) λv=>K (.all v {slots:=merge s.slots o,outer:=os,mem:=s'.mem.take s.mem.length,aI:=s'.aI,nv:=s'.nv+1})|_,_=>none
    |[]=>none;match E.QW ctx d with
   |none=>wk α (XK ctx d) 0 fn.body st λax s'=>match ax with|.exit _=>none|_=>back s'
   |some os=>Option.bind (wk (oa os).den (XK ctx d) 0 fn.body st λax s'=>match ax with|.exit _=>none|_=>mL os .ret s') λy=>pz os y λ_ s'=>back s'
 |none=>QZ E s row d nx f args K
def Q1(E:ak)(s:S2)(f:Nat)(args:List V2)(K:gF->Option α):Option α:=bZ (E.AT f) λc=>match zI c.res&&!Nat.beq c.rk 65535with
 |true=>bZ (wZ s.mem c.args args) λ(ds,bs)=>bZ (pack c.ta ds) λx=>um bs<|Option.bind (c.F x) λy=>match jr c.res (unpack c.tr y)with|some (vs,[])=>bZ (nU vs) λv=>K (.bW {val:=v,cV:=[],cD:=[],rd:=args.flatMap (yz s.mem)})|_=>none
 |false=>none
def cQ(E:ak)(wk:Wk)(ctx:Nat)(s:S2)(row dst aO:Nat)(op:cj)(K:gF->Option α):Option α:=match op with
 |.GM x=>bZ (iZ s x) λv=>match Nat.beq (row%65536) 6&&v.isRow with
  |true=>match v with|.c (.ref lv sl ah t)=>bZ (rowOf s.mem lv sl ah) λr=>bZ (jq r.t t r.l) λl=>K (.bW {val:=.c (.ref (s.mem.length-1) dst aO t),cV:=[(lv,sl,none),(s.mem.length-1,dst,some (.row aO t l))],cD:=[],rd:=[cq lv sl]})|_=>none
  |false=>match Qi row with|false=>K (ke v)|true=>match v with
   |.c (.nil true)=>bZ (E.Mw ctx dst) λt=>match Nat.beq t.size (row/65536)with|true=>K (.bW {val:=.c (.ref (s.mem.length-1) dst aO t),cV:=[(s.mem.length-1,dst,some (.row aO t []))],cD:=[],rd:=[]})|false=>none
   |.c (.nil _)=>none|.c (.sl ..)=>none|v=>K (ke v)
 |.pick c a b=>vC (iZ s c) λt=>match iZ s a,iZ s b with|some (.c (.bool x)),some (.c (.bool y))=>K (dN (.bool (cond t x y)))|some x,some y=>cond t (K (ke x)) (K (ke y))|some x,none=>aF t (K (ke x))|none,some y=>aF (!t) (K (ke y))|none,none=>none
 |.alloc z=>bZ (AK z) λcs=>K (.bW {val:=.c (.ptr (s.mem.length-1) dst aO 0 0),cV:=[(s.mem.length-1,dst,some (.box aO cs))],cD:=[],rd:=[]})|.box x=>bZ ((iZ s x).bind V2.cells?) λcs=>K (.bW {val:=.c (.ptr (s.mem.length-1) dst aO 0 0),cV:=[(s.mem.length-1,dst,some (.box aO cs))],cD:=[],rd:=[]})|.build z ps=>bZ ((AK z).bind λcs=>DF s cs ps) λcs=>K (ke (.agg cs))|.buildSlice sz n z ps=>match Nat.beq row 2with
  |true=>match Nat.beq n 0with|true=>none|false=>bZ ((rL z).bind λzc=>DF s (List.replicate n zc).flatten (ps.map λp=>(p.1*sz,sz,p.2))) λcs=>K (.bW {val:=.c (.fe (s.mem.length-1) dst aO 0 n sz),cV:=[(s.mem.length-1,dst,some (.box aO cs))],cD:=[],rd:=[]})
  |false=>bZ (E.Mw ctx dst) λt=>bZ (rL z) λzc=>bZ (AO s sz (List.replicate n zc) ps) λ(els,ks)=>match Nat.beq t.size sz,AP t els with
  |true,some l=>match Nat.beq row 0with|true=>K (.bW {val:=.c (.sl t l .full),cV:=kf ks,cD:=[],rd:=iE ks})|false=>match AR ks (s.mem.length-1) dst with|true=>none|false=>K (.bW {val:=.c (.ref (s.mem.length-1) dst aO t),cV:=kf ks++[(s.mem.length-1,dst,some (.row aO t l))],cD:=[],rd:=iE ks})
  |_,_=>none
 |.load sz agg x=>iJ (iZ s x) λp=>Mu s.mem sz p λcs=>bZ (AN agg cs) λv=>K (.bW {val:=v,cV:=[],cD:=[],rd:=rM p})|.store sz x v=>iJ (iZ s x) λp=>bZ ((iZ s v).bind V2.cells?) λnew=>Kl s.mem sz p new K|.nilCheck x=>bZ (iZ s x) λv=>match v with|.c (.ptr lv sl ah i off)=>K (dN (.ptr lv sl ah i off))|.c (.fK t e off)=>K (dN (.fK t e off))|.gp f cs=>K (ke (.gp f cs))|_=>none
 |.bin op x y=>iJ (iZ s x) λa=>iJ (iZ s y) λb=>Z6 op a b λc=>K (dN c)|.U4 neg x y=>vC (iZ s x) λa=>vC (iZ s y) λb=>K (dN (.bool (match neg with|true=>!(a==b)|false=>a==b)))|.xY neg x=>match iZ s x with
  |some (.c (.er b))=>match neg with|true=>K (dN (.bool b))|false=>K (dN (.bool (!b)))
  |_=>none
 |.q8 lo n sz x=>match iZ s x with
  |some (.c (.ptr lv sl ah i off))=>match Nat.beq i 0&&Nat.blt lo n with|true=>K (dN (.fe lv sl ah (off+lo*sz) (n-lo) sz))|false=>none
  |_=>none
 |.U5 neg sz cells x y=>match iZ s x,iZ s y with
  |some (.agg xs),some (.agg ys)=>match Nat.beq xs.length sz&&Nat.beq ys.length sz,FA xs ys cells with|true,some b=>K (dN (.bool (match neg with|true=>!b|false=>b)))|_,_=>none
  |_,_=>none
 |.un op x=>iJ (iZ s x) λa=>unK op a λc=>K (dN c)|.conv k x=>N4 (iZ s x) λn=>K (dN (.int k (k.wrap n)))|.field off sz agg x=>match iZ s x with
  |some (.agg cs)=>match Nat.ble (off+sz) cs.length,AN agg ((cs.drop off).take sz)with|true,some v=>K (ke v)|_,_=>none
  |_=>none
 |.fieldAddr off x=>match iZ s x with|some (.c (.ptr lv sl ah i o))=>K (dN (.ptr lv sl ah i (o+off)))|some (.c (.fK t e o))=>K (dN (.fK t e (o+off)))|_=>none
 |.indexAddr sz x i=>N4 (iZ s i) λn=>match iZ s x with
  |some (.c (.sl t l _))=>match Nat.beq t.size sz with|true=>Option.bind (idx l n) λe=>K (dN (.fK t e 0))|false=>none
  |some (.c (.ref lv sl ah t))=>match Nat.beq t.size sz with|true=>bZ (rowOf s.mem lv sl ah) λr=>aF (fP n r.l.length) (K (dN (.ptr lv sl ah n.toNat 0)))|false=>none
  |some (.c (.jx lv sl ah t off len))=>match Nat.beq t.size sz with|true=>aF (fP n len) (K (dN (.ptr lv sl ah (off+n.toNat) 0)))|false=>none
  |_=>none
 |.jY n sz x i=>Fz (iZ s i) λk=>match iZ s x with|some (.c (.ptr lv sl ah j o))=>N3 n k λk=>K (dN (.ptr lv sl ah j (o+k*sz)))|some (.c (.fK t e o))=>N3 n k λk=>K (dN (.fK t e (o+k*sz)))|_=>none
 |.pY n sz agg x i=>Fz (iZ s i) λk=>match iZ s x with
  |some (.agg cs)=>N3 n k λk=>match Nat.ble (k*sz+sz) cs.length,AN agg ((cs.drop (k*sz)).take sz)with|true,some v=>K (ke v)|_,_=>none
  |_=>none
 |.pZ x i=>N4 (iZ s i) λn=>match iZ s x with|some (.c (.str b))=>Option.bind (idx b n) λc=>K (dN (.int .u8 c.toNat))|_=>none
 |.slice sz x lo hi mx=>iJ (iZ s x) λc=>uk lo s λl=>uk hi s λh=>uk mx s λk=>match Nat.beq row 3&&(mx.isNone&&c.isRow)with|true=>Z7 s.mem sz aO c l h K|false=>Km s.mem sz c l h k λv=>K (dN v)
 |.p4 x lo hi=>match iZ s x with|some (.c (.str b))=>uk lo s λlo=>uk hi s λhi=>aF (mE b.length lo hi) (K (dN (.str (n9 b lo hi))))|_=>none
 |.extract x i=>match iZ s x with
  |some (.iY vs)=>match vs[i]?with|some (a,cs)=>bZ (AN a cs) λv=>K (ke v)|none=>none
  |_=>none
 |.len x=>iJ (iZ s x) λc=>match c with|.sl _ l _=>K (dN (.int .i64 l.length))|.nil _=>K (dN (.int .i64 0))|.ref lv sl ah _=>bZ (rowOf s.mem lv sl ah) λr=>K (dN (.int .i64 r.l.length))|.jx _ _ _ _ _ len=>K (dN (.int .i64 len))|_=>none
 |.GN x=>iJ (iZ s x) λc=>match c with|.nil true=>K (dN (.int .i64 0))|.sl _ l .full=>K (dN (.int .i64 l.length))|_=>none
 |.EU x=>match iZ s x with|some (.c (.str b))=>K (dN (.int .i64 b.length))|_=>none
 |.CH n=>K (dN (.int .i64 n))|.Xw x=>match iZ s x with|some (.c (.str b))=>K (dN (.sl (.int .u8) (bU b) .d))|_=>none
 |.Xv x=>iJ (iZ s x) λc=>match c with|.str _=>none|c=>n8 s.mem c (some (.int .u8)) λn=>bZ (jq n.t (.int .u8) n.l) λl=>K (.bW {val:=.c (.str (l.map λn=>UInt8.ofNat n.toNat)),cV:=[],cD:=[],rd:=rM c})
 |.mkSet=>K (.bW {val:=.c (.mp (s.mem.length-1) dst aO),cV:=[(s.mem.length-1,dst,some (.set aO []))],cD:=[],rd:=[]})|.GO m k=>match iZ s m,iZ s k with|some (.c (.mp lv sl ah)),some (.c (.str b))=>bZ (Mt s.mem lv sl ah) λl=>K (.bW {val:=.c (.bool (hasB l b)),cV:=[],cD:=[],rd:=[cq lv sl]})|_,_=>none
 |.GP m k=>match iZ s m,iZ s k with|some (.c (.mp lv sl ah)),some (.c (.str b))=>bZ (Mt s.mem lv sl ah) λl=>K (.bW {val:=.iY [],cV:=[(lv,sl,some (.set ah (q9 l b)))],cD:=[],rd:=[cq lv sl]})|_,_=>none
 |.EV x y=>match iZ s x,iZ s y with
  |some (.c (.int k a)),some (.c (.int k' b))=>match decEq k k' with|.isTrue _=>K (dN (.int k (min a b)))|.isFalse _=>none
  |_,_=>none
 |.EW x y=>match iZ s x,iZ s y with
  |some (.c (.int k a)),some (.c (.int k' b))=>match decEq k k' with|.isTrue _=>K (dN (.int k (max a b)))|.isFalse _=>none
  |_,_=>none
 |.append sz bytes x y=>iJ (iZ s x) λa=>iJ (iZ s y) λb=>N5 s (!Nat.beq row 0) (tU row (s.mem.length-1) dst).1 (tU row (s.mem.length-1) dst).2 aO sz bytes a b (E.Mw ctx dst) K|.clone sz bytes x=>iJ (iZ s x) λb=>match b with|.str _=>none|b=>N5 s (!Nat.beq row 0) (s.mem.length-1) dst aO sz bytes (.nil true) b (E.Mw ctx dst) K
 |.copy sz x y=>iJ (iZ s x) λa=>iJ (iZ s y) λb=>match a with
  |.ref lv sl ah t=>bZ (rowOf s.mem lv sl ah) λr=>n8 s.mem b (some t) λn=>match Nat.beq t.size sz,jq r.t t r.l,jq n.t t n.l with|true,some l,some news=>K (.bW {val:=.c (.int .i64 ((min news.length l.length:Nat):Int)),cV:=[(lv,sl,some (.row ah t (HF news l)))],cD:=[],rd:=cq lv sl::rM b})|_,_,_=>none
  |.jx lv sl ah t off len=>bZ (rowOf s.mem lv sl ah) λr=>n8 s.mem b (some t) λn=>match Nat.beq t.size sz,jq r.t t r.l,jq n.t t n.l with|true,some l,some news=>aF (decide (off+len<=l.length)) (K (.bW {val:=.c (.int .i64 ((min news.length len:Nat):Int)),cV:=[(lv,sl,some (.row ah t (l.take off++(news.take (min news.length len)++l.drop (off+(news.take (min news.length len)).length)))))],cD:=[],rd:=cq lv sl::rM b}))|_,_,_=>none
  |.fe lv sl ah off n sz'=>match ji s.mem lv sl with
   |some (.box v cs)=>n8 s.mem b none λnw=>match Nat.beq v ah&&Nat.beq sz' sz&&Nat.ble (off+n*sz) cs.length&&Nat.beq nw.t.size sz with|true=>K (.bW {val:=.c (.int .i64 ((min nw.l.length n:Nat):Int)),cV:=[(lv,sl,some (.box ah (bJ.splice cs off ((nw.l.take (min nw.l.length n)).flatMap (iI nw.t)))))],cD:=[],rd:=cq lv sl::rM b})|false=>none
   |_=>none
  |_=>none
 |.nY sz bytes z x n=>iJ (iZ s x) λa=>Fz (iZ s n) λk=>bZ (E.Mw ctx dst) λt=>bZ ((rL z).bind (yw t)) λz'=>match Nat.beq t.size sz&&Nat.beq z.length sz with|true=>aF (room k bytes) (N5 s (!Nat.beq row 0) (s.mem.length-1) dst aO sz bytes a (.sl t (List.replicate k z') .d) (some t) K)|false=>none
 |.makeSlice sz bytes z l c=>Fz (iZ s l) λl=>Fz (iZ s c) λc=>bZ (E.Mw ctx dst) λt=>bZ ((rL z).bind (yw t)) λz'=>match Nat.beq t.size sz&&Nat.beq z.length sz with|true=>aF (decide (l<=c)&&room c bytes) (K (.bW {val:=.c (.ref (s.mem.length-1) dst aO t),cV:=[(s.mem.length-1,dst,some (.row aO t (List.replicate l z')))],cD:=[],rd:=[]}))|false=>none
 |.sliceB n sz x=>iJ (iZ s x) λc=>match c with
  |.ptr lv sl ah i off=>match Nat.beq i 0with|true=>K (dN (.fe lv sl ah off n sz))|false=>none
  |_=>none
 |.makeFunc f cap=>bZ ((Fy s cap).bind AQ) λcs=>K (ke (.gp f cs))|.clear sz z x=>iJ (iZ s x) λa=>match a with
  |.ref lv sl ah t=>bZ (rowOf s.mem lv sl ah) λr=>bZ ((rL z).bind (yw t)) λz'=>match Nat.beq t.size sz&&Nat.beq z.length sz,jq r.t t r.l with|true,some l=>K (.bW {val:=.iY [],cV:=[(lv,sl,some (.row ah t (List.replicate l.length z')))],cD:=[],rd:=[cq lv sl]})|_,_=>none
  |.jx lv sl ah t off len=>bZ (rowOf s.mem lv sl ah) λr=>bZ ((rL z).bind (yw t)) λz'=>match Nat.beq t.size sz&&Nat.beq z.length sz,jq r.t t r.l with|true,some l=>aF (decide (off+len<=l.length)) (K (.bW {val:=.iY [],cV:=[(lv,sl,some (.row ah t (l.take off++List.replicate len z'++l.drop (off+len))))],cD:=[],rd:=[cq lv sl]}))|_,_=>none
  |_=>none
 |.compact x=>iJ (iZ s x) λa=>match a with
  |.nil true=>K (dN (.nil true))|.ref lv sl ah t=>bZ (rowOf s.mem lv sl ah) λr=>match Nat.beq t.size 1,jq r.t (.int .i64) r.l with|true,some l=>aF (decide (l.length<4611686018427387904)) (K (.bW {val:=.c (.ref lv sl aO (.int .i64)),cV:=[(lv,sl,some (.row aO (.int .i64) (jo l)))],cD:=[],rd:=[cq lv sl]}))|_,_=>none
  |_=>none
 |.sort x=>iJ (iZ s x) λa=>match a with
  |.nil true=>K (.bW {val:=.iY [],cV:=[],cD:=[],rd:=[]})|.ref lv sl ah t=>bZ (rowOf s.mem lv sl ah) λr=>match Nat.beq t.size 1,jq r.t (.int .i64) r.l with|true,some l=>aF (decide (l.length<4611686018427387904)) (K (.bW {val:=.iY [],cV:=[(lv,sl,some (.row ah (.int .i64) (jm l)))],cD:=[],rd:=[cq lv sl]}))|_,_=>none
  |_=>none
 |.grow sz x n=>iJ (iZ s x) λa=>Fz (iZ s n) λ_=>match a,E.Mw ctx dst with
  |.nil true,some t=>match Nat.beq t.size sz with|true=>K (.bW {val:=.c (.sl t [] (.app aO)),cV:=[],cD:=[(aO,true)],rd:=[]})|false=>none
  |_,_=>none
 |.call f args=>match Nat.beq row 7,Nat.beq row 8,Nat.beq row 9,Nat.beq row 10with|false,false,false,false=>bZ (Fy s args) λaL=>HI E wk ctx s row dst aO f aL K|false,false,true,_=>bZ (Fy s args) λaL=>XM E s f aL K|false,false,false,true=>bZ (Fy s args) λaL=>XN E s f aL K|_,_,_,_=>none
 |.uT f args=>bZ (Fy s args) λaL=>match E.sh f with|true=>HI E wk ctx s row dst aO f aL K|false=>Q1 E s f aL K
 |.zZ x args=>match iZ s x with|some (.gp f cap)=>bZ (Fy s args) λaL=>HI E wk ctx s row dst aO f (aL++cap.map .c) K|_=>none
 |_=>none
def step2(E:ak)(wk:Wk)(ctx:Nat)(s:S2)(aO:Nat)(o:bz)(K:S2->gF->Option α):Option α:=match o.gd with|none=>cQ E wk ctx s o.row (o.dst.getD 0) aO o.op (K s)|some (g,b)=>match s.slots.get? g with|some (.c (.bool t))=>cond t (let s':={s with slots:=s.slots.set g (some (.c (.bool true)))};match b with|true=>cQ E wk ctx s' o.row (o.dst.getD 0) aO o.op (K s')|false=>K s' (ke (.iY []))) (let s':={s with slots:=s.slots.set g (some (.c (.bool false)))};match b with|true=>K s' (ke (.iY []))|false=>cQ E wk ctx s' o.row (o.dst.getD 0) aO o.op (K s'))|some (.iY _)=>K s (ke (.iY []))|_=>none
def zJ(E:ak)(wk:Wk)(ctx:Nat):Nat->List bz->S2->(S2->Option α)->Option α|_,[],s,K=>K s|nx,o::r,s,K=>step2 E wk ctx s nx o λs e=>match e with|.bW e=>zJ E wk ctx (nx+1) r (s.app o.dst (.bW e)) K|.all v s'=>zJ E wk ctx s'.nv r {s'.app o.dst (.all v s')with nv:=s'.nv+r.length} K
def keq(a b:Nat×Nat×Nat):Bool:=Nat.beq a.1 b.1&&Nat.beq a.2.1 b.2.1&&Nat.beq a.2.2 b.2.2
def w9(a b:List (Nat×Nat×Nat)):Bool:=a.any λk=>b.any (keq k)
def pE:gF->Bool|.bW e=>!(e.rd.isEmpty&&e.cV.isEmpty&&e.cD.isEmpty)|.all ..=>true
def xb:gF->gF->Bool|.bW a,.bW b=>w9 a.rd b.wr||w9 a.wr b.rd||w9 a.wr b.wr|a,b=>pE a&&pE b
def FD(nh:Nat)(e:gF):List (Nat×gF)->Bool|[]=>true|(i,x)::r=>(nh.testBit i||!xb x e)&&FD nh e r
def yB(l:List (Nat×gF)):List (Nat×gF):=l.map λx=>(x.1,match pE x.2with|true=>.all (.iY []) default|false=>x.2)
def zK(E:ak)(wk:Wk)(ctx:Nat):Nat->Nat->List bz->List (Nat×gF)->S2->(S2->Option α)->Option α|_,_,[],_,s,K=>K s|i,nx,o::r,past,s,K=>step2 E wk ctx s nx o λs e=>match FD o.nh e past with
 |true=>match e with|.bW e=>zK E wk ctx (i+1) (nx+1) r ((i,.bW e)::past) (s.app o.dst (.bW e)) K|.all v s'=>zK E wk ctx (i+1) s'.nv r ((i,.all (.iY []) default)::yB past) {s'.app o.dst (.all v s')with nv:=s'.nv+r.length} K
 |false=>none
def uo:AC->Nat|.seq a b=>uo a+uo b|.cond _ a b=>uo a+uo b+1|.block _ c=>uo c+1|.loop c=>uo c+1|.region ..=>1|_=>0
end
def VI{α:Type}(E:ak)(wk:Wk)(ctx:Nat)(ops:List bz)(draw:Bool)(s:S2)(K:S2->Option α):Option α:=match draw with|false=>zJ E wk ctx s.nv ops {s with nv:=s.nv+ops.length} K|true=>zK E wk ctx 0 s.nv ops [] {s with nv:=s.nv+ops.length} K
def Q2(sh:Nat->Bool):cj->Bool|.GM _|.pick ..|.nilCheck _|.bin ..|.U4 ..|.U5 ..|.un ..|.conv ..|.field ..|.fieldAddr ..|.indexAddr ..|.jY ..|.pY ..|.pZ ..|.load ..|.slice ..|.p4 ..|.extract ..|.len _|.EU _|.CH _|.EV ..|.EW ..=>true|.uT f _=>!sh f|_=>false
def DO(sh:Nat->Bool)(o:bz):Bool:=Nat.beq o.row 0&&Q2 sh o.op
def rO(sh:Nat->Bool):AC->Bool|.skip=>true|.region ops _=>ops.all (DO sh)|.seq a b=>rO sh a&&rO sh b|.cond _ a b=>rO sh a&&rO sh b|_=>false
def pF:AC->List Nat|.region ops _=>ops.flatMap λo=>o.dst.toList|.seq a b=>pF a++pF b|.cond _ a b=>pF a++pF b|_=>[]
def HJ:List Nat->Tr V2->Tr V2|[],t=>t|n::r,t=>HJ r (t.set n none)
def FE(t:Ty)(c:Cell):Option t.den:=match t,c with
 |.int k,.int k' a=>match decEq k k' with|.isTrue _=>some a|.isFalse _=>none
 |.bool,.bool b=>some b|.str,.str s=>some s|_,_=>none
def Kq:(t:Ty)->t.den->Option Cell|.int k,a=>some (.int k a)|.bool,b=>some (.bool b)|.str,s=>some (.str s)|_,_=>none
def HK(t:Ty)(n:Nat)(ax:AX)(s:S2):Option t.den:=match ax with
 |.normal=>match s.slots.get? n with|some (.c c)=>FE t c|_=>none
 |_=>none
def uq(s:S2)(c:bT)(b:Bool):S2:=match c with|.t n=>{s with slots:=s.slots.set n (some (.c (.bool b)))}|.c _=>s
def adP(i:Nat):Nat:=match Nat.blt i 100000with|true=>i+100000|false=>i
def adQ(o:Option (List fG))(i:Nat):Nat:=match o with|some _=>i|none=>i+200000
def walk(E:ak):Nat->Wk|0=>λ_ _ _ _ _ _=>none|n+1=>λα ctx i c s K=>match c with
 |.skip=>K .normal s|.region ops draw=>match E.Ko ctx i with
  |some m=>match ops.all (DO E.sh)with|true=>Option.bind (VI E (walk E n) ctx ops draw s (HK m.2 m.1 .normal)) λy=>bZ (Kq m.2 y) λy=>K .normal {s with slots:=(HJ (pF (.region ops draw)) s.slots).set m.1 (some (.c y))}|false=>none
  |none=>match E.HH ctx i with|none=>VI E (walk E n) ctx ops draw s λs'=>K .normal s'|some os=>Option.bind (VI E (walk E n) ctx ops draw s (mL os .normal)) λy=>pz os y K
 |.seq a b=>walk E n α ctx i a s λax s'=>match ax with|.normal=>walk E n α ctx (i+uo a) b s' K|ax=>K ax s'
 |.cond c a b=>match E.Ko ctx i with
  |some m=>match rO E.sh a&&rO E.sh b with|true=>Option.bind (vC (iZ s c) λt=>cond t (walk E n m.2.den ctx (i+1) a (uq s c true) (HK m.2 m.1)) (walk E n m.2.den ctx (i+1+uo a) b (uq s c false) (HK m.2 m.1))) λy=>bZ (Kq m.2 y) λy=>K .normal {s with slots:=(HJ (pF a++pF b) s.slots).set m.1 (some (.c y))}|false=>none
  |none=>match E.HH ctx i with|none=>vC (iZ s c) λt=>cond t (walk E n α ctx (i+1) a (uq s c true) K) (walk E n α ctx (i+1+uo a) b (uq s c false) K)|some os=>Option.bind (vC (iZ s c) λt=>cond t (walk E n (oa os).den ctx (i+1) a (uq s c true) (mL os)) (walk E n (oa os).den ctx (i+1+uo a) b (uq s c false) (mL os))) λy=>pz os y K
 |.block id c=>match E.HH ctx i with
  |none=>walk E n α ctx (i+1) c s λax s'=>match ax with
   |.exit id'=>match Nat.beq id' id with|true=>K .normal s'|false=>K (.exit id') s'
   |ax=>K ax s'
  |some os=>Option.bind (walk E n (oa os).den ctx (i+1) c s λax s'=>match ax with
   |.exit id'=>match Nat.beq id' id with|true=>mL os .normal s'|false=>mL os (.exit id') s'
   |ax=>mL os ax s') λy=>pz os y K
 |.loop c=>match E.unr ctx i with
  |true=>walk E n α ctx (i+1) c s λax s'=>match ax with|.normal=>walk E n α ctx (adP i) (.loop c) s' K|ax=>K ax s'
  |false=>bZ (E.loops ctx (adQ ((E.loops ctx i c).bind λL=>L.T.get s) i) c) λL=>bZ (L.T.get s) λds=>bZ (pack L.T.tys ds) λx=>Option.bind (L.F x) λy=>pz L.outs y K
 |.exit id=>K (.exit id) s|.ret=>K .ret s
def AZ(E:ak)(N ctx i:Nat)(body:AC)(T:bq)(outs:bp)(rec:(qQ T.tys).den->Option (oa outs).den)(x:(qQ T.tys).den):Option (oa outs).den:=bZ (T.st (unpack T.tys x)) λs=>walk E N (oa outs).den ctx (i+1) body s λax s'=>match ax with|.normal=>bZ (T.get s') λds=>bZ (pack T.tys ds) λy=>rec y|ax=>mL outs ax s'
def Mx{α β:Type}(step:(α->Option β)->α->Option β):Nat->α->Option β|0,_=>none|n+1,x=>step (Mx step n) x
def XO(E:ak)(N:Nat)(f:Nat)(args:List tP)(ta:List Ty)(res:List (Bool×List gG))(tr:List Ty)(rk:Nat)(x:(qQ ta).den):Option (qQ tr).den:=bZ (E.fns f) λfn=>match di args (unpack ta x)with
 |some (vs,[])=>match Nat.beq vs.length fn.np with
  |true=>walk E N _ 0 0 fn.body {slots:=jT 0 vs .lf,outer:=[],mem:=[.lf],aI:=.lf,nv:=0} λax s=>match ax with|.exit _=>none|_=>DK s fn.res λvs=>match Z9 s.mem rk vs&&!Nat.beq rk 65535with|true=>bZ (kW s.mem res vs) λds=>pack tr ds|false=>none
  |false=>none
 |_=>none
end Go.Sym
