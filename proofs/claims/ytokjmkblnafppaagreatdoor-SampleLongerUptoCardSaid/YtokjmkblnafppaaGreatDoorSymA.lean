/- A machine over typed data that the kernel runs with unknown data: what a cut of Go code computes becomes a Lean function. Definitions. -/
import Derived.Test.YtokjmkblnafppaaGreatDoorEngB
set_option linter.unusedVariables false
set_option linter.unusedSimpArgs false
namespace Go.Sym
open Go Go.bI
inductive n7 where
 |mk (kind:Int) (int:Int) (text:List UInt8) (list:List n7) (cut:Bool)
 deriving Inhabited
def n7.kind:n7→Int
 |.mk k _ _ _ _=>k
def n7.int:n7→Int
 |.mk _ i _ _ _=>i
def n7.text:n7→List UInt8
 |.mk _ _ s _ _=>s
def n7.list:n7→List n7
 |.mk _ _ _ l _=>l
def n7.cut:n7→Bool
 |.mk _ _ _ _ c=>c
inductive Ty where
 |val
 |int (k:IntKind)
 |bool
 |str
 |sl (t:Ty)
 |unit
 |prod (a b:Ty)
 |sum (a b:Ty)
 deriving DecidableEq,Inhabited
@[reducible] def Ty.den:Ty→Type
 |.val=>n7
 |.int _=>Int
 |.bool=>Bool
 |.str=>List UInt8
 |.sl t=>List t.den
 |.unit=>Unit
 |.prod a b=>a.den×b.den
 |.sum a b=>a.den⊕b.den
structure ff where
 t:Ty
 v:t.den
def sN (a b:Ty) (x:a.den):Option b.den:=
 match decEq a b with
 |.isTrue h=>some (h ▸ x)
 |.isFalse _=>none
def iO (a b:Ty) (x:List a.den):Option (List b.den):=
 match decEq a b with
 |.isTrue h=>some (h ▸ x)
 |.isFalse _=>none
def Ty.size:Ty→Nat
 |.val=>5
 |.int _|.bool|.str|.sl _=>1
 |.unit=>0
 |.prod a b=>a.size+b.size
 |.sum _ _=>0
inductive Ow where
 |d
 |full
 |app (v:Nat)
 |aJ
 deriving Inhabited
inductive Cell where
 |int (k:IntKind) (a:Int)
 |bool (b:Bool)
 |er (b:Bool)
 |str (s:List UInt8)
 |raw (v:Value)
 |nil (full:Bool)
 |sl (t:Ty) (l:List t.den) (o:Ow)
 |ref (lv sl af:Nat) (t:Ty)
 |jg (lv sl af:Nat) (t:Ty) (off len:Nat)
 |ptr (lv sl af i off:Nat)
 |fo (t:Ty) (x:t.den) (off:Nat)
 |eH (lv sl af off n sz:Nat)
 |mp (lv sl af:Nat)
 deriving Inhabited
inductive V2 where
 |c (x:Cell)
 |agg (cs:List Cell)
 |fV (f:Nat) (cap:List Cell)
 |gZ (vs:List (Bool×List Cell))
 deriving Inhabited
inductive E2 where
 |row (af:Nat) (t:Ty) (l:List t.den)
 |box (af:Nat) (cs:List Cell)
 |set (af:Nat) (l:List (List UInt8))
 deriving Inhabited
structure S2 where
 slots:Tr V2
 outer:List (Tr V2)
 mem:List (Tr E2)
 aE:Tr Unit
 nv:Nat
 deriving Inhabited
mutual
def Im:n7→List D
 |.mk k i s l c=>[.sc (.int .u8 k),.sc (.int .i64 i),.sc (.string ⟨s.toArray⟩),.sl (Cp l),.sc (.bool c)]
def Cp:List n7→List (List D)
 |[]=>[]
 |v :: r=>Im v :: Cp r
end
def ef:(t:Ty)→t.den→List D
 |.val,v=>Im v
 |.int k,a=>[.sc (.int k a)]
 |.bool,b=>[.sc (.bool b)]
 |.str,s=>[.sc (.string ⟨s.toArray⟩)]
 |.sl t,l=>[.sl (List.map (ef t) l)]
 |.unit,_=>[]
 |.prod a b,x=>ef a x.1++ef b x.2
 |.sum _ _,_=>[]
def ij:(t:Ty)→t.den→List Cell
 |.val,v=>[.int .u8 v.kind,.int .i64 v.int,.str v.text,.sl .val v.list .d,.bool v.cut]
 |.int k,a=>[.int k a]
 |.bool,b=>[.bool b]
 |.str,s=>[.str s]
 |.sl t,l=>[.sl t l .d]
 |.unit,_=>[]
 |.prod a b,x=>ij a x.1++ij b x.2
 |.sum _ _,_=>[]
def FB (k:IntKind):List Cell→Option (Int×List Cell)
 |.int k' a :: r=>match decEq k k' with
  |.isTrue _=>some (a,r)
  |.isFalse _=>none
 |_=>none
def DJ:List Cell→Option (Bool×List Cell)
 |.bool b :: r=>some (b,r)
 |_=>none
def J3:List Cell→Option (List UInt8×List Cell)
 |.str s :: r=>some (s,r)
 |_=>none
def Rw (t:Ty):List Cell→Option (List t.den×List Cell)
 |.nil _ :: r=>some ([],r)
 |.sl t' l _ :: r=>match iO t' t l with
  |some l=>some (l,r)
  |none=>none
 |_=>none
def Ue (cs : List Cell) : Option (n7 × List Cell) :=
 match FB .u8 cs with
 | some (k, r) => match FB .i64 r with
  | some (i, r) => match J3 r with
   | some (s, r) => match Rw .val r with
    |some (l,r)=>match DJ r with
     |some (c,r)=>some (.mk k i s l c,r)
     |none=>none
    |none=>none
   |none=>none
  |none=>none
 |none=>none
def xd:(t:Ty)→List Cell→Option (t.den×List Cell)
 |.val,cs=>Ue cs
 |.int k,cs=>FB k cs
 |.bool,cs=>DJ cs
 |.str,cs=>J3 cs
 |.sl t,cs=>Rw t cs
 |.unit,r=>some ((),r)
 | .prod a b, r => match xd a r with
  |some (x,r')=>match xd b r' with
   |some (y,r'')=>some ((x,y),r'')
   |none=>none
  |none=>none
 |.sum _ _,_=>none
def xe (t:Ty) (cs:List Cell):Option t.den:=
 match xd t cs with
 |some (x,[])=>some x
 |_=>none
def Vk:Value→Cell
 |.int k a=>.int k a
 |.bool b=>.bool b
 |.string b=>.str b.data.toList
 |v=>.raw v
def Rx:AV→Option Cell
 |.d (.sc v)=>some (Vk v)
 |.own [] .full=>some (.nil true)
 |_=>none
def xg:List AV→Option (List Cell)
 |[]=>some []
 |x :: r=>match Rx x,xg r with
  |some y,some ys=>some (y :: ys)
  |_,_=>none
def Vl:AV→Option V2
 |.agg cs=>(xg cs).map .agg
 |.gZ []=>some (.gZ [])
 |.fV f []=>some (.fV f [])
 |x=>(Rx x).map .c
def Ry:D→Option Cell
 |.sc v=>some (Vk v)
 |.sl []=>some (.nil false)
 |_=>none
def nF:List D→Option (List Cell)
 |[]=>some []
 |x :: r=>match Ry x,nF r with
  |some y,some ys=>some (y :: ys)
  |_,_=>none
def iY (m:List (Tr E2)) (lv sl:Nat):Option E2:=(m[lv]?).bind fun t=>t.get? sl
def BC (m:List (Tr E2)) (lv sl:Nat) (e:Option E2):List (Tr E2):=m.modify lv fun t=>t.set sl e
def eN (m:List (Tr E2)):List (Nat×Nat×Option E2)→List (Tr E2)
 |[]=>m
 |(lv,sl,e) :: r=>eN (BC m lv sl e) r
structure SL where
 t:Ty
 l:List t.den
def rowOf (m:List (Tr E2)) (lv sl af:Nat):Option SL:=
 match iY m lv sl with
 |some (.row v t l)=>match Nat.beq v af with
  |true=>some ⟨t,l⟩
  |false=>none
 |_=>none
def J4 (m:List (Tr E2)) (lv sl af:Nat):Option (List (List UInt8)):=
 match iY m lv sl with
 |some (.set v l)=>match Nat.beq v af with
  |true=>some l
  |false=>none
 |_=>none
def Io (m:List (Tr E2)):Cell→Option (Cell×List (Nat×Nat))
 |.int k a=>some (.int k a,[])
 |.bool b=>some (.bool b,[])
 |.str s=>some (.str s,[])
 |.raw v=>some (.raw v,[])
 |.nil _=>some (.nil false,[])
 |.sl _ _ .aJ=>none
 |.sl t l _=>some (.sl t l .d,[])
 |.ref lv sl af _=>match rowOf m lv sl af with
  |some r=>some (.sl r.t r.l .d,[(lv,sl)])
  |none=>none
 |.jg lv sl af _ off len=>match rowOf m lv sl af with
  |some r=>some (.sl r.t ((r.l.drop off).take len) .d,[(lv,sl)])
  |none=>none
 |_=>none
def j5 (m:List (Tr E2)):List Cell→Option (List Cell×List (Nat×Nat))
 |[]=>some ([],[])
 |x :: r=>match Io m x,j5 m r with
  |some (y,k),some (ys,ks)=>some (y :: ys,k++ks)
  |_,_=>none
structure DK where
 val:V2
 cK:List (Nat×Nat×Option E2)
 cx:List (Nat×Bool)
 rd:List (Nat×Nat×Nat)
 deriving Inhabited
inductive gi where
 |bS (e:DK)
 |all (val:V2) (s:S2)
 deriving Inhabited
def DK.wr (e:DK):List (Nat×Nat×Nat):=e.cK.map (fun u=>cg u.1 u.2.1)++e.cx.map fun u=>jF u.1
def jP (v:V2):gi:=.bS { val:=v,cK:=[],cx:=[],rd:=[] }
def dz (c:Cell):gi:=jP (.c c)
def qm:Cell→List (Nat×Nat×Nat)
 |.ref lv sl _ _=>[cg lv sl]
 |.jg lv sl _ _ _ _=>[cg lv sl]
 |.ptr lv sl _ _ _=>[cg lv sl]
 |.eH lv sl _ _ _ _=>[cg lv sl]
 |.mp lv sl _=>[cg lv sl]
 |_=>[]
def DL:V2→List (Nat×Nat×Nat)
 |.c x=>qm x
 |.agg cs=>cs.flatMap qm
 |_=>[]
def jQ (ks:List (Nat×Nat)):List (Nat×Nat×Option E2):=ks.map fun k=>(k.1,k.2,none)
def Rz (s:Tr V2) (dst:Option Nat) (v:V2):Tr V2:=
 match dst with
 |some n=>s.set n (some v)
 |none=>s
def S2.app (s:S2) (dst:Option Nat):gi→S2
 |.bS e=>{ slots:=Rz s.slots dst e.val,outer:=s.outer,mem:=eN s.mem e.cK,aE:=dL s.aE e.cx,nv:=s.nv }
 |.all v s'=>{ s' with slots:=Rz s'.slots dst v }
def Cell.still:Cell→Bool
 |.ref .. | .jg .. | .ptr .. | .eH .. | .mp ..=>false
 |.sl _ _ (.app _)=>false
 |_=>true
def V2.still:V2→Bool
 |.c x=>x.still
 |.agg cs=>cs.all Cell.still
 |.fV _ cs=>cs.all Cell.still
 |.gZ vs=>vs.all fun v=>v.2.all Cell.still
def loose:Tr V2→Tr V2
 |.lf=>.lf
 | .nd v l r => .nd (match v with
  |none=>none
  |some x=>match x.still with
   |true=>none
   |false=>some x) (loose l) (loose r)
def merge:Tr V2→Tr V2→Tr V2
 |.lf,_=>.lf
 | .nd v l r, b => .nd (match v with
  |none=>none
  |some x=>match x.still with
   |true=>some x
   |false=>b.top) (merge l b.left) (merge r b.right)
def iF (s:S2):bR→Option V2
 |.t n=>s.slots.get? n
 |.c v=>Vl v
def DM (s:S2):List bR→Option (List V2)
 |[]=>some []
 |x :: r=>match iF s x,DM s r with
  |some y,some ys=>some (y :: ys)
  |_,_=>none
def V2.cells?:V2→Option (List Cell)
 |.c x=>some [x]
 |.agg cs=>some cs
 |_=>none
def jz (agg:Bool) (cs:List Cell):Option V2:=
 match agg with
 |true=>some (.agg cs)
 |false=>match cs with
  |[x]=>some (.c x)
  |_=>none
section
variable {α : Type}
def aZ (b:Bool) (k:Option α):Option α:=cond b k none
def idx {β : Type} (l:List β) (i:Int):Option β:=cond (decide (0≤i)) (l[i.toNat]?) none
def Lz:Nat→Nat→(Nat→Option α)→Option α
 |0,_,_=>none
 |n+1,k,F=>cond (Nat.beq k n) (F n) (Lz n k F)
def jq (i:Int) (n:Nat):Bool:=decide (0≤i)&&decide (i.toNat<n)
def room (n b:Nat):Bool:=decide (n≤eU)&&decide (n*b≤j0)
def FC {β : Type} (news l:List β):List β:=news.take (min news.length l.length)++l.drop (news.take (min news.length l.length)).length
def cu (s:List UInt8):List Int:=s.map fun c=>(c.toNat:Int)
def ir (v:Option V2) (k:Cell→Option α):Option α:=
 match v with
 |some (.c x)=>k x
 |_=>none
def LA (v:Option V2) (k:Int→Option α):Option α:=
 match v with
 |some (.c (.int _ n))=>k n
 |_=>none
def FD (v:Option V2) (k:Nat→Option α):Option α:=LA v fun n=>aZ (decide (0≤n)) (k n.toNat)
def uw (v:Option V2) (k:Bool→Option α):Option α:=
 match v with
 |some (.c (.bool b))=>k b
 |_=>none
def bW {β : Type} (o:Option β) (k : β→Option α):Option α:=
 match o with
 |some x=>k x
 |none=>none
def aiw:Value→Option Cell
 |.int k a=>some (.int k a)
 |.bool b=>some (.bool b)
 |_=>none
def Vm (op:BinOp) (k:IntKind) (a:Int) (k':IntKind) (b:Int) (K:Cell→Option α):Option α:=
 match op with
 |.shl=>aZ (!decide (b<0)) (K (.int k (k.wrap (a*2 ^ min b.toNat k.bits))))
 |.shr=>aZ (!decide (b<0)) (K (.int k (a.fdiv (2 ^ min b.toNat k.bits))))
 | op => match decEq k k' with
  |.isFalse _=>none
  |.isTrue _=>match op with
   |.add=>K (.int k (k.wrap (a+b)))
   |.sub=>K (.int k (k.wrap (a-b)))
   |.mul=>K (.int k (k.wrap (a*b)))
   |.quo=>aZ (!decide (b=0)) (K (.int k (k.wrap (a.tdiv b))))
   |.rem=>aZ (!decide (b=0)) (K (.int k (a.tmod b)))
   |.and=>K (.int k (k.wrap (BitVec.ofInt k.bits a &&& BitVec.ofInt k.bits b).toNat))
   |.or=>K (.int k (k.wrap (BitVec.ofInt k.bits a ||| BitVec.ofInt k.bits b).toNat))
   |.xor=>K (.int k (k.wrap (BitVec.ofInt k.bits a ^^^ BitVec.ofInt k.bits b).toNat))
   |.andNot=>K (.int k (k.wrap (BitVec.ofInt k.bits a &&& ~~~(BitVec.ofInt k.bits b)).toNat))
   |.eql=>K (.bool (a==b))
   |.neq=>K (.bool (a != b))
   |.lss=>K (.bool (decide (a<b)))
   |.leq=>K (.bool (decide (a≤b)))
   |.gtr=>K (.bool (decide (a>b)))
   |.geq=>K (.bool (decide (a≥b)))
   |_=>none
def Vn (op:BinOp) (x y:List UInt8) (K:Cell→Option α):Option α:=
 match op with
 |.add=>aZ (!decide (((x.length+y.length:Nat):Int)>IntKind.i64.max)) (K (.str (x++y)))
 |.eql=>K (.bool (x==y))
 |.neq=>K (.bool !(x==y))
 |.lss=>K (.bool (Op.bytesLess x y))
 |.leq=>K (.bool (Op.bytesLess x y||x==y))
 |.gtr=>K (.bool !(Op.bytesLess x y||x==y))
 |.geq=>K (.bool !(Op.bytesLess x y))
 |_=>none
def Vo (op:BinOp) (x y:Cell) (K:Cell→Option α):Option α:=
 match x,y with
 |.int k a,.int k' b=>Vm op k a k' b K
 |.str a,.str b=>Vn op a b K
 |_,_=>none
def NI (kd:Nat):Cell→Cell→Option Bool
 |.bool a,.bool b=>match kd with
  |0=>some (a==b)
  |_=>none
 | .int k a, .int k' b => match kd with
  |1=>match decEq k k' with
   |.isTrue _=>some (a==b)
   |.isFalse _=>none
  |_=>none
 |.str a,.str b=>match kd with
  |0=>none
  |1=>none
  |_=>some (a==b)
 |_,_=>none
def DN (xs ys:List Cell):List (Nat×Nat)→Option Bool
 |[]=>some true
 |o :: r=>match xs[o.1]?,ys[o.1]?,DN xs ys r with
  |some x,some y,some b'=>(NI o.2 x y).map fun b=>b&&b'
  |_,_,_=>none
def unK (op:UnOp) (x:Cell) (K:Cell→Option α):Option α:=
 match x with
 |.bool b=>match op with
  |.not=>K (.bool !b)
  |_=>none
 |.int k n=>match op with
  |.neg=>K (.int k (k.wrap (0-n)))
  |.xor=>K (.int k (k.wrap (BitVec.ofInt k.bits (if k.signed then -1 else k.max) ^^^ BitVec.ofInt k.bits n).toNat))
  |_=>none
 |_=>none
def nG (m:List (Tr E2)) (x:Cell) (e:Option Ty) (K:SL→Option α):Option α:=
 match x with
 |.sl t l _=>K ⟨t,l⟩
 |.nil _=>bW e fun t=>K ⟨t,[]⟩
 |.ref lv sl af _=>bW (rowOf m lv sl af) K
 |.jg lv sl af _ off len=>bW (rowOf m lv sl af) fun r=>aZ (decide (off+len≤r.l.length)) (K ⟨r.t,(r.l.drop off).take len⟩)
 |.str s=>K ⟨.int .u8,cu s⟩
 |_=>none
def zS (s:S2):List Cell→List (Nat×Nat×bR)→Option (List Cell)
 |cs,[]=>some cs
 | cs, (off, sz, x) :: r => match (iF s x).bind V2.cells? with
  |some new=>match Nat.beq new.length sz&&Nat.ble (off+sz) cs.length with
   |true=>zS s (bI.splice cs off new) r
   |false=>none
  |none=>none
def xh (s : S2) (sz : Nat) : List (List Cell) → List (Nat × bR) → Option (List (List Cell) × List (Nat × Nat))
 |els,[]=>some (els,[])
 | els, (i, x) :: r => match ((iF s x).bind V2.cells?).bind (j5 s.mem) with
  | some (e, ks) => match Nat.beq e.length sz && Nat.blt i els.length with
   |true=>match xh s sz (els.set i e) r with
    |some (els',ks')=>some (els',ks++ks')
    |none=>none
   |false=>none
  |none=>none
def vz (t:Ty):List (List Cell)→Option (List t.den)
 |[]=>some []
 |e :: r=>match xe t e,vz t r with
  |some x,some xs=>some (x :: xs)
  |_,_=>none
def qn:List V2→Option (List Cell)
 |[]=>some []
 |.c x :: r=>(qn r).map (x :: ·)
 |_=>none
def J5 (m:List (Tr E2)) (sz:Nat) (p:Cell) (K:List Cell→Option α):Option α:=
 match p with
 | .ptr lv sl af i off => match iY m lv sl with
  |some (.box v cs)=>match Nat.beq v af&&Nat.beq i 0&&Nat.ble (off+sz) cs.length with
   |true=>K ((cs.drop off).take sz)
   |false=>none
  |some (.row v t l)=>match Nat.beq v af&&Nat.ble (off+sz) t.size with
   |true=>Option.bind l[i]? fun x=>K (((ij t x).drop off).take sz)
   |false=>none
  |some (.set _ _)=>none
  |none=>none
 |.fo t x off=>match Nat.ble (off+sz) t.size with
  |true=>K (((ij t x).drop off).take sz)
  |false=>none
 |_=>none
def zT (ks:List (Nat×Nat)) (lv sl:Nat):Bool:=ks.any fun k=>Nat.beq k.1 lv&&Nat.beq k.2 sl
def Ip (m : List (Tr E2)) (sz : Nat) (p : Cell) (new : List Cell) (K : gi → Option α) : Option α :=
 match p,Nat.beq new.length sz with
 | .ptr lv sl af i off, true => match iY m lv sl with
  |some (.box v cs)=>match Nat.beq v af&&Nat.beq i 0&&Nat.ble (off+sz) cs.length with
   |true=>K (.bS { val:=.gZ [],cK:=[(lv,sl,some (.box v (bI.splice cs off new)))],cx:=[],rd:=[cg lv sl] })
   |false=>none
  | some (.row v t l) => match Nat.beq v af && Nat.ble (off + sz) t.size, j5 m new with
   | true, some (new, ks) => match zT ks lv sl with
    |true=>none
    |false=>Option.bind l[i]? fun x=>bW (xe t (bI.splice (ij t x) off new)) fun y=>
     K (.bS { val:=.gZ [],cK:=jQ ks++[(lv,sl,some (.row v t (l.set i y)))],cx:=[],rd:=cg lv sl :: gS ks })
   |_,_=>none
  |some (.set _ _)=>none
  |none=>none
 |_,_=>none
def LB (s:S2) (row:Bool) (lv sl aR sz bytes:Nat) (x y:Cell) (e:Option Ty) (K:gi→Option α):Option α:=
 match x with
 | .nil true => nG s.mem y e fun n => match Nat.beq n.t.size sz with
  |true=>aZ (room n.l.length bytes) (match row with
   |false=>K (.bS { val:=.c (.sl n.t n.l (.app aR)),cK:=[],cx:=[(aR,true)],rd:=qm y })
   |true=>K (.bS { val:=.c (.ref lv sl aR n.t),cK:=[(lv,sl,some (.row aR n.t n.l))],cx:=[],rd:=qm y }))
  |false=>none
 | .sl t l .full => nG s.mem y (some t) fun n => match Nat.beq t.size sz, iO n.t t n.l with
  |true,some news=>aZ (room (l.length+news.length) bytes) (match row with
   |false=>K (.bS { val:=.c (.sl t (l++news) (.app aR)),cK:=[],cx:=[(aR,true)],rd:=qm y })
   |true=>aZ (l.isEmpty || !news.isEmpty) (K (.bS { val:=.c (.ref lv sl aR t),cK:=[(lv,sl,some (.row aR t (l++news)))],cx:=[],rd:=qm y })))
  |_,_=>none
 | .sl t l (.app v) => nG s.mem y (some t) fun n => match Nat.beq t.size sz, iO n.t t n.l, row, s.aE.get? v with
  |true,some news,false,some ()=>aZ (room (l.length+news.length) bytes)
   (K (.bS { val:=.c (.sl t (l++news) (.app aR)),cK:=[],cx:=[(v,false),(aR,true)],rd:=jF v :: qm y }))
  |_,_,_,_=>none
 | .ref cl cX af t => bW (rowOf s.mem cl cX af) fun r => nG s.mem y (some t) fun n => match Nat.beq t.size sz, iO r.t t r.l, iO n.t t n.l with
  |true,some l,some news=>aZ (room (l.length+news.length) bytes)
   (K (.bS { val:=.c (.ref cl cX aR t),cK:=[(cl,cX,some (.row aR t (l++news)))],cx:=[],rd:=cg cl cX :: qm y }))
  |_,_,_=>none
 | .jg cl cX af t off len => bW (rowOf s.mem cl cX af) fun r => nG s.mem y (some t) fun n => match Nat.beq t.size sz, iO r.t t r.l, iO n.t t n.l with
  |true,some l,some news=>aZ (decide (off+len≤l.length)&&room (len+news.length) bytes)
   (K (.bS { val:=.c (.ref cl cX aR t),cK:=[(cl,cX,some (.row aR t ((l.drop off).take len++news)))],cx:=[],rd:=cg cl cX :: qm y }))
  |_,_,_=>none
 |_=>none
def sO (x:Option bR) (s:S2) (K:Option Nat→Option α):Option α:=
 match x with
 |none=>K none
 |some o=>FD (iF s o) fun n=>K (some n)
def nH {β : Type} (l:List β) (lo hi:Option Nat):List β:=
 match lo,hi with
 |none,none=>l
 |some a,none=>l.drop a
 |none,some b=>l.take b
 |some a,some b=>(l.drop a).take (b-a)
def mg (n:Nat) (lo hi:Option Nat):Bool:=
 match lo,hi with
 |none,none=>true
 |some a,none=>decide (a≤n)
 |none,some b=>decide (b≤n)
 |some a,some b=>decide (a≤b)&&decide (b≤n)
def xT (lo:Option Nat):Nat:=lo.getD 0
def Cell.isRow:Cell→Bool
 |.ref ..=>true
 |.jg ..=>true
 |_=>false
def V2.isRow:V2→Bool
 |.c x=>x.isRow
 |_=>false
def Vp (m:List (Tr E2)) (sz aR:Nat) (x:Cell) (lo hi:Option Nat) (K:gi→Option α):Option α:=
 match x with
 |.ref lv sl af t=>bW (rowOf m lv sl af) fun r=>match Nat.beq t.size sz,iO r.t t r.l with
  |true,some l=>aZ (mg l.length lo hi) (K (.bS { val:=.c (.ref lv sl aR t),cK:=[(lv,sl,some (.row aR t (nH l lo hi)))],cx:=[],rd:=[cg lv sl] }))
  |_,_=>none
 |_=>none
def Iq (m : List (Tr E2)) (sz : Nat) (x : Cell) (lo hi mx : Option Nat) (K : Cell → Option α) : Option α :=
 match x with
 | .sl t l o => match Nat.beq t.size sz with
  | true => match mx with
   | none => aZ (mg l.length lo hi) (match o with
    |.aJ=>K (.sl t (nH l lo hi) .aJ)
    |.full=>match hi with
     |none=>K (.sl t (nH l lo hi) .full)
     |some _=>K (.sl t (nH l lo hi) .d)
    |_=>K (.sl t (nH l lo hi) .d))
   |some m=>match o,hi with
    |.aJ,_=>none
    |_,none=>none
    |_,some h=>aZ (mg l.length lo hi&&Nat.beq h m) (K (.sl t (nH l lo hi) .full))
  |false=>none
 |.nil f=>match mx with
  |none=>aZ (mg 0 lo hi) (K (.nil f))
  |some _=>none
 |.ref lv sl af t=>match Nat.beq t.size sz,mx with
  |true,none=>bW (rowOf m lv sl af) fun r=>aZ (mg r.l.length lo hi) (K (.jg lv sl af t (xT lo) (hi.getD r.l.length-xT lo)))
  |_,_=>none
 |.jg lv sl af t off len=>match Nat.beq t.size sz,mx with
  |true,none=>aZ (mg len lo hi) (K (.jg lv sl af t (off+xT lo) (hi.getD len-xT lo)))
  |_,_=>none
 |_=>none
end
inductive cG where
 |int (k:IntKind)
 |bool
 |er
 |str
 |sl (t:Ty) (o:Ow)
 |nil (full:Bool)
 |ref (lv sl af:Nat) (t:Ty)
 |ptr (lv sl af i off:Nat)
 |fo (t:Ty) (off:Nat)
 |mp (lv sl af:Nat)
 deriving Inhabited
inductive ux where
 |c (x:cG)
 |agg (l:List cG)
 |fV (f:Nat) (l:List cG)
 deriving Inhabited
inductive NJ where
 |row (af:Nat) (t:Ty)
 |box (af:Nat) (l:List cG)
 |set (af:Nat)
 deriving Inhabited
@[reducible] def tv:List Ty→Ty
 |[]=>.unit
 |[a]=>a
 |a :: b :: r=>.prod a (tv (b :: r))
def unpack:(ts:List Ty)→(tv ts).den→List ff
 |[],_=>[]
 |[a],x=>[⟨a,x⟩]
 |a :: b :: r,x=>⟨a,x.1⟩ :: unpack (b :: r) x.2
def pack:(ts:List Ty)→List ff→Option (tv ts).den
 |[],[]=>some ()
 |[a],[d]=>sN d.t a d.v
 |a :: b :: r,d :: ds=>match sN d.t a d.v,pack (b :: r) ds with
  |some x,some y=>some (x,y)
  |_,_=>none
 |_,_=>none
def cG.fill:cG→List ff→Option (Cell×List ff)
 |.int _,⟨.int k,a⟩ :: r=>some (.int k a,r)
 |.bool,⟨.bool,b⟩ :: r=>some (.bool b,r)
 |.er,⟨.bool,b⟩ :: r=>some (.er b,r)
 |.str,⟨.str,s⟩ :: r=>some (.str s,r)
 |.sl _ o,⟨.sl t,l⟩ :: r=>some (.sl t l o,r)
 |.nil f,r=>some (.nil f,r)
 |.ref lv sq af t,r=>some (.ref lv sq af t,r)
 |.ptr lv sq af i off,r=>some (.ptr lv sq af i off,r)
 |.fo _ off,⟨t,x⟩ :: r=>some (.fo t x off,r)
 |.mp lv sq af,r=>some (.mp lv sq af,r)
 |_,_=>none
def cH:List cG→List ff→Option (List Cell×List ff)
 |[],r=>some ([],r)
 | c :: cs, r => match c.fill r with
  |some (x,r')=>match cH cs r' with
   |some (xs,r'')=>some (x :: xs,r'')
   |none=>none
  |none=>none
def ux.fill:ux→List ff→Option (V2×List ff)
 |.c x,r=>match x.fill r with
  |some (y,r')=>some (.c y,r')
  |none=>none
 |.agg l,r=>match cH l r with
  |some (y,r')=>some (.agg y,r')
  |none=>none
 |.fV f l,r=>match cH l r with
  |some (y,r')=>some (.fV f y,r')
  |none=>none
def NJ.fill:NJ→List ff→Option (E2×List ff)
 |.row af _,⟨.sl t,l⟩ :: r=>some (.row af t l,r)
 |.box af l,r=>match cH l r with
  |some (y,r')=>some (.box af y,r')
  |none=>none
 |.set af,⟨.sl .str,l⟩ :: r=>some (.set af l,r)
 |_,_=>none
abbrev Ren:=List (Nat×Option Nat)
def cG.get:cG→Cell→Option (List ff×Ren)
 |.int k,.int k' a=>match decEq k k' with
  |.isTrue _=>some ([⟨.int k',a⟩],[])
  |.isFalse _=>none
 |.bool,.bool b=>some ([⟨.bool,b⟩],[])
 |.er,.er b=>some ([⟨.bool,b⟩],[])
 |.str,.str s=>some ([⟨.str,s⟩],[])
 |.sl t o,.nil f=>match o,f with
  |.d,_=>some ([⟨.sl t,[]⟩],[])
  |.aJ,_=>some ([⟨.sl t,[]⟩],[])
  |.full,true=>some ([⟨.sl t,[]⟩],[])
  |.app v,true=>some ([⟨.sl t,[]⟩],[(v,none)])
  |_,_=>none
 |.sl _ o,.sl t' l o'=>match o,o' with
  |.aJ,_=>some ([⟨.sl t',l⟩],[])
  |.d,.aJ=>none
  |.d,_=>some ([⟨.sl t',l⟩],[])
  |.full,.full=>some ([⟨.sl t',l⟩],[])
  |.app v,.full=>some ([⟨.sl t',l⟩],[(v,none)])
  |.app v,.app v'=>some ([⟨.sl t',l⟩],[(v,some v')])
  |_,_=>none
 |.nil true,.nil true=>some ([],[])
 |.nil false,.nil _=>some ([],[])
 |.ref lv sq af t,.ref cl ZX eZ t'=>match Nat.beq lv cl&&Nat.beq sq ZX,decEq t t' with
  |true,.isTrue _=>some ([],[(af,some eZ)])
  |_,_=>none
 |.ptr lv sq af i off,.ptr cl ZX eZ i' off'=>match Nat.beq lv cl&&Nat.beq sq ZX&&Nat.beq i i'&&Nat.beq off off' with
  |true=>some ([],[(af,some eZ)])
  |false=>none
 |.fo _ off,.fo t' x off'=>match Nat.beq off off' with
  |true=>some ([⟨t',x⟩],[])
  |false=>none
 |.mp lv sq af,.mp cl ZX eZ=>match Nat.beq lv cl&&Nat.beq sq ZX with
  |true=>some ([],[(af,some eZ)])
  |false=>none
 |_,_=>none
def uy:List cG→List Cell→Option (List ff×Ren)
 |[],[]=>some ([],[])
 |c :: cs,x :: xs=>match c.get x,uy cs xs with
  |some (d,r),some (ds,rs)=>some (d++ds,r++rs)
  |_,_=>none
 |_,_=>none
def ux.get:ux→V2→Option (List ff×Ren)
 |.c x,.c y=>x.get y
 |.agg l,.agg cs=>uy l cs
 |.fV f l,.fV f' cs=>match Nat.beq f f' with
  |true=>uy l cs
  |false=>none
 |_,_=>none
def NJ.get:NJ→E2→Option (List ff×Ren)
 |.row af _,.row eZ t' l=>some ([⟨.sl t',l⟩],[(af,some eZ)])
 |.box af l,.box eZ cs=>match uy l cs with
  |some (d,r)=>some (d,(af,some eZ) :: r)
  |none=>none
 |.set af,.set eZ l=>some ([⟨.sl .str,l⟩],[(af,some eZ)])
 |_,_=>none
structure cw where
 slots:List (Nat×ux)
 outer:List (List (Nat×ux))
 mem:List (Nat×Nat×NJ)
 lvs:Nat
 aE:List Nat
 nv:Nat
 tys:List Ty
 deriving Inhabited
def nI:List (Nat×ux)→List ff→Tr V2→Option (Tr V2×List ff)
 |[],r,t=>some (t,r)
 |(k,v) :: l,r,t=>match v.fill r with
  |some (x,r')=>nI l r' (t.set k (some x))
  |none=>none
def ry:List (List (Nat×ux))→List ff→Option (List (Tr V2)×List ff)
 |[],r=>some ([],r)
 | x :: l, r => match nI x r .lf with
  |some (t,r')=>match ry l r' with
   |some (ts,r'')=>some (t :: ts,r'')
   |none=>none
  |none=>none
def ym:List (Nat×Nat×NJ)→List ff→List (Tr E2)→Option (List (Tr E2)×List ff)
 |[],r,m=>some (m,r)
 |(lv,sl,e) :: l,r,m=>match e.fill r with
  |some (x,r')=>ym l r' (BC m lv sl (some x))
  |none=>none
def DO:List Nat→Tr Unit→Tr Unit
 |[],t=>t
 |v :: r,t=>DO r (t.set v (some ()))
def cw.st (T:cw) (ds:List ff):Option S2:=
 match nI T.slots ds .lf with
 | some (sl, r) => match ry T.outer r with
  |some (os,r)=>match ym T.mem r (List.replicate T.lvs .lf) with
   |some (m,[])=>some { slots:=sl,outer:=os,mem:=m,aE:=DO T.aE .lf,nv:=T.nv }
   |_=>none
  |none=>none
 |none=>none
def nJ (s:Tr V2):List (Nat×ux)→Option (List ff×Ren)
 |[]=>some ([],[])
 |(k,v) :: l=>match (s.get? k).bind v.get,nJ s l with
  |some (d,r),some (ds,rs)=>some (d++ds,r++rs)
  |_,_=>none
def mh:List (Tr V2)→List (List (Nat×ux))→Option (List ff×Ren)
 |[],[]=>some ([],[])
 |t :: ts,x :: xs=>match nJ t x,mh ts xs with
  |some (d,r),some (ds,rs)=>some (d++ds,r++rs)
  |_,_=>none
 |_,_=>none
def zU (m:List (Tr E2)):List (Nat×Nat×NJ)→Option (List ff×Ren)
 |[]=>some ([],[])
 |(lv,sl,e) :: l=>match (iY m lv sl).bind e.get,zU m l with
  |some (d,r),some (ds,rs)=>some (d++ds,r++rs)
  |_,_=>none
def uz:Ren→Nat→Option Nat
 |[],_=>none
 |(a,w) :: r,v=>match Nat.beq a v with
  |true=>w
  |false=>uz r v
def ZY:Option Nat→Option Nat→Bool
 |none,none=>true
 |some a,some b=>Nat.beq a b
 |_,_=>false
def NK (nv YS:Nat) (σ : Ren):Bool:=
 σ.all fun p=>Nat.blt p.1 nv&&ZY (uz σ p.1) p.2 &&
  (match p.2 with
   |none=>true
   |some w=>Nat.blt w YS && σ.all fun q=>Nat.beq q.1 p.1 || !ZY q.2 p.2)
def DP (nv:Nat) (σ : Ren) (t:Tr Unit):List Nat→Bool
 |[]=>true
 |v :: r=>Nat.blt v nv&&(match uz σ v with
  |none=>true
  |some w=>(t.get? w).isSome)&&DP nv σ t r
def cw.get (T:cw) (s:S2):Option (List ff):=
 match nJ s.slots T.slots,mh s.outer T.outer,zU s.mem T.mem with
 |some (d,r),some (ds',rs'),some (ds,rs)=>
  match Nat.beq T.lvs s.mem.length&&NK T.nv s.nv (r++(rs'++rs))&&DP T.nv (r++(rs'++rs)) s.aE T.aE with
  |true=>some (d++(ds'++ds))
  |false=>none
 |_,_,_=>none
inductive dJ where
 |c (x:cG)
 |agg (l:List cG)
 |fV (f:Nat)
 |box (l:List cG)
 deriving Inhabited
structure Callee where
 args:List dJ
 ta:List Ty
 res:List (Bool×List cG)
 tr:List Ty
 rk:Nat
 F:(tv ta).den→Option (tv tr).den
abbrev ck:=List (AX×cw)
@[reducible] def nK:ck→Ty
 |[]=>.unit
 |[x]=>tv x.2.tys
 |x :: y :: r=>.sum (tv x.2.tys) (nK (y :: r))
structure FE where
 T:cw
 outs:ck
 F:(tv T.tys).den→Option (nK outs).den
structure aA where
 fns:Nat→Option cV
 J6:Nat→Option Callee
 loops:Nat→Nat→AC→Option FE
 aX:Nat→Nat→Option ck
 aY:Nat→Nat→Option ck
 aO:Nat→Nat→Option (Nat×Ty)
 cq:Nat→Nat→Bool
 bT:Nat→Nat→Option Ty
def aA.sh (E:aA) (g:Nat):Bool:=((E.fns g).map (·.sh)).getD false
def cG.arg (m:List (Tr E2)) (agg:Bool):cG→Cell→Option (List ff×List (Nat×Nat)×List Bool)
 |.int k,.int k' a=>match decEq k k' with
  |.isTrue _=>some ([⟨.int k',a⟩],[],[])
  |.isFalse _=>none
 |.bool,.bool b=>some ([⟨.bool,b⟩],[],[])
 |.str,.str s=>some ([⟨.str,s⟩],[],[])
 |.sl t o,.nil _=>match o with
  |.d=>some ([⟨.sl t,[]⟩],[],[])
  |.aJ=>some ([⟨.sl t,[]⟩],[],[])
  |_=>none
 |.sl _ o,.sl t' l o'=>match o,o' with
  |.aJ,_=>some ([⟨.sl t',l⟩],[],[])
  |.d,.aJ=>none
  |.d,_=>some ([⟨.sl t',l⟩],[],[])
  |_,_=>none
 |.sl _ o,.ref lv sq af _=>match rowOf m lv sq af,o,agg with
  |some r,.aJ,false=>some ([⟨.sl r.t,r.l⟩],[],[])
  |some r,.aJ,true=>some ([⟨.sl r.t,r.l⟩],[(lv,sq)],[])
  |some r,.d,true=>some ([⟨.sl r.t,r.l⟩],[(lv,sq)],[])
  |_,_,_=>none
 |.sl _ o,.jg lv sq af _ off len=>match rowOf m lv sq af,o,agg with
  |some r,.aJ,false=>some ([⟨.sl r.t,(r.l.drop off).take len⟩],[],[decide (off+len≤r.l.length)])
  |_,_,_=>none
 |_,_=>none
def xj (m:List (Tr E2)):List cG→List Cell→Option (List ff×List (Nat×Nat)×List Bool)
 |[],[]=>some ([],[],[])
 |c :: cs,x :: xs=>match c.arg m true x,xj m cs xs with
  |some (d,k,b),some (ds,ks,bs)=>some (d++ds,k++ks,b++bs)
  |_,_=>none
 |_,_=>none
def dJ.arg (m:List (Tr E2)):dJ→V2→Option (List ff×List (Nat×Nat)×List Bool)
 |.c x,.c y=>x.arg m false y
 |.agg l,.agg cs=>xj m l cs
 |.fV f,.fV f' []=>match Nat.beq f f' with
  |true=>some ([],[],[])
  |false=>none
 |_,_=>none
def zV (m:List (Tr E2)):List dJ→List V2→Option (List ff×List (Nat×Nat)×List Bool)
 |[],[]=>some ([],[],[])
 |p :: ps,x :: xs=>match p.arg m x,zV m ps xs with
  |some (d,k,b),some (ds,ks,bs)=>some (d++ds,k++ks,b++bs)
  |_,_=>none
 |_,_=>none
def zW {α : Type} (l:List Bool) (k:Option α):Option α:=
 match l with
 |[]=>k
 |b :: r=>aZ b (zW r k)
def Vq (m:List (Tr E2)):Cell→Option Cell
 |.int k a=>some (.int k a)
 |.bool b=>some (.bool b)
 |.str s=>some (.str s)
 |.raw v=>some (.raw v)
 |.nil _=>some (.nil false)
 |.sl t l _=>some (.sl t l .d)
 |.ref lv sl af _=>match rowOf m lv sl af with
  |some r=>some (.sl r.t r.l .d)
  |none=>none
 |.jg lv sl af _ off len=>match rowOf m lv sl af with
  |some r=>some (.sl r.t ((r.l.drop off).take len) .d)
  |none=>none
 |_=>none
def NL (m:List (Tr E2)):List Cell→Option (List Cell)
 |[]=>some []
 |x :: r=>match Vq m x,NL m r with
  |some y,some ys=>some (y :: ys)
  |_,_=>none
def cG.jI (m : List (Tr E2)) (agg : Bool) : cG → Cell → Option (List ff × List Bool)
 |.int k,.int k' a=>match decEq k k' with
  |.isTrue _=>some ([⟨.int k',a⟩],[])
  |.isFalse _=>none
 |.bool,.bool b=>some ([⟨.bool,b⟩],[])
 |.str,.str s=>some ([⟨.str,s⟩],[])
 |.sl t o,.nil _=>match o with
  |.d=>some ([⟨.sl t,[]⟩],[])
  |.aJ=>some ([⟨.sl t,[]⟩],[])
  |_=>none
 |.sl _ o,.sl t' l _=>match o with
  |.d=>some ([⟨.sl t',l⟩],[])
  |.aJ=>some ([⟨.sl t',l⟩],[])
  |_=>none
 |.sl _ o,.ref lv sq af _=>match rowOf m lv sq af,o with
  |some r,.d=>some ([⟨.sl r.t,r.l⟩],[])
  |some r,.aJ=>some ([⟨.sl r.t,r.l⟩],[])
  |_,_=>none
 |.sl _ o,.jg lv sq af _ off len=>match rowOf m lv sq af,o with
  |some r,.d=>some ([⟨.sl r.t,(r.l.drop off).take len⟩],[decide (off+len≤r.l.length)])
  |some r,.aJ=>some ([⟨.sl r.t,(r.l.drop off).take len⟩],[decide (off+len≤r.l.length)])
  |_,_=>none
 | .sl t o, .eH lv sq af off n sz => match agg, iY m lv sq with
  | false, some (.box v cs) => match Nat.beq v af && Nat.ble (off + n * sz) cs.length, (NL m ((cs.drop off).take (n * sz))).bind fun ds => vz t (bI.chunk sz n ds) with
   |true,some l=>match o with
    |.d=>some ([⟨.sl t,l⟩],[])
    |.aJ=>some ([⟨.sl t,l⟩],[])
    |_=>none
   |_,_=>none
  |_,_=>none
 |_,_=>none
def sP (m:List (Tr E2)):List cG→List Cell→Option (List ff×List Bool)
 |[],[]=>some ([],[])
 |c :: cs,x :: xs=>match c.jI m true x,sP m cs xs with
  |some (d,b),some (ds,bs)=>some (d++ds,b++bs)
  |_,_=>none
 |_,_=>none
def dJ.jI (m:List (Tr E2)):dJ→V2→Option (List ff×List Bool)
 |.c x,.c y=>x.jI m false y
 |.agg l,.agg cs=>sP m l cs
 |.fV f,.fV f' []=>match Nat.beq f f' with
  |true=>some ([],[])
  |false=>none
 |_,_=>none
def sQ (m:List (Tr E2)):List dJ→List V2→Option (List ff×List Bool)
 |[],[]=>some ([],[])
 |p :: ps,x :: xs=>match p.jI m x,sQ m ps xs with
  |some (d,b),some (ds,bs)=>some (d++ds,b++bs)
  |_,_=>none
 |_,_=>none
def xk (m:List (Tr E2)):V2→List (Nat×Nat×Nat)
 |.c (.eH lv sl _ _ _ _)=>cg lv sl :: (match iY m lv sl with
  |some (.box _ cs)=>cs.flatMap qm
  |_=>[])
 |v=>DL v
def cG.flat:cG→Bool
 |.int _|.bool|.str=>true
 |_=>false
def yo (res:List (Bool×List cG)):Bool:=res.all fun r=>r.2.all cG.flat
def DQ:List dJ→Option (List cG×List dJ)
 |.box l :: r=>some (l,r)
 |_=>none
def ZZ:Cell→Option Cell
 |.int k a=>some (.int k a)
 |.bool b=>some (.bool b)
 |.str s=>some (.str s)
 |.nil _=>some (.nil false)
 |.sl _ _ .aJ=>none
 |.sl t l _=>some (.sl t l .d)
 |_=>none
def dm:List dJ→List ff→Option (List V2×List ff)
 |[],r=>some ([],r)
 | p :: ps, r => match (match p with
   |.c x=>ux.fill (.c x) r
   |.agg l=>ux.fill (.agg l) r
   |.fV f=>some (.fV f [],r)
   |.box _=>none) with
  |some (x,r')=>match dm ps r' with
   |some (xs,r'')=>some (x :: xs,r'')
   |none=>none
  |none=>none
def fY:List (Bool×List cG)→List ff→Option (List (Bool×List Cell)×List ff)
 |[],r=>some ([],r)
 | (a, l) :: ps, r => match cH l r with
  |some (x,r')=>match fY ps r' with
   |some (xs,r'')=>some ((a,x) :: xs,r'')
   |none=>none
  |none=>none
def gX:List (Bool×List Cell)→Option V2
 |[(a,cs)]=>jz a cs
 |vs=>some (.gZ vs)
def gN:Nat→List V2→Tr V2→Tr V2
 |_,[],t=>t
 |i,x :: r,t=>gN (i+1) r (t.set i (some x))
def jR:cG→Cell→Option (List ff)
 |.int k,.int k' a=>match decEq k k' with
  |.isTrue _=>some [⟨.int k',a⟩]
  |.isFalse _=>none
 |.bool,.bool b=>some [⟨.bool,b⟩]
 |.str,.str s=>some [⟨.str,s⟩]
 |.sl t .d,.nil _=>some [⟨.sl t,[]⟩]
 |.sl _ .d,.sl t' l _=>some [⟨.sl t',l⟩]
 |_,_=>none
def dX:List cG→List Cell→Option (List ff)
 |[],[]=>some []
 |c :: cs,x :: xs=>match jR c x,dX cs xs with
  |some d,some ds=>some (d++ds)
  |_,_=>none
 |_,_=>none
def FF:List cG→List Cell→Option (List ff)
 |[],[]=>some []
 |c :: cs,x :: xs=>match (ZZ x).bind (jR c),FF cs xs with
  |some d,some ds=>some (d++ds)
  |_,_=>none
 |_,_=>none
def LC:List dJ→List V2→Option (List ff)
 |[],[]=>some []
 |.c c :: ps,.c x :: xs=>match (ZZ x).bind (jR c),LC ps xs with
  |some d,some ds=>some (d++ds)
  |_,_=>none
 |.agg l :: ps,.agg cs :: xs=>match FF l cs,LC ps xs with
  |some d,some ds=>some (d++ds)
  |_,_=>none
 |_,_=>none
def QG (top:Nat):Cell→Bool
 |.ref lv _ _ _=>Nat.ble top lv
 |.jg lv _ _ _ _ _=>Nat.ble top lv
 |_=>true
def hiR (top:Nat) (vs:List (Bool×List Cell)):Bool:=vs.all fun v=>v.2.all (QG top)
def Ir (m:List (Tr E2)) (rk k:Nat):Cell→Bool
 |.ref lv sl af t=>Nat.beq k rk&&(match rowOf m lv sl af with
  |some r=>Nat.beq r.t.size t.size
  |none=>false)
 |.nil true=>true
 |.jg ..=>false
 |_=>!Nat.beq k rk
def RA (m:List (Tr E2)) (rk:Nat):Nat→List Cell→Bool
 |_,[]=>true
 |k,c :: r=>Ir m rk k c&&RA m rk (k+1) r
def Cq (m:List (Tr E2)) (rk:Nat):Nat→List (Bool×List Cell)→Bool
 |_,[]=>true
 |k,(_,cs) :: r=>RA m rk k cs&&Cq m rk (k+64) r
def Vr (m:List (Tr E2)) (rk:Nat) (vs:List (Bool×List Cell)):Bool:=
 match Nat.beq rk 0 with
 |true=>true
 |false=>Cq m rk 1 vs
def Cr (rk lv sl af k:Nat) (c:Cell):Option (Cell×List SL):=
 match Nat.beq k rk with
 |true=>match c with
  |.sl t l _=>some (.ref lv sl af t,[⟨t,l⟩])
  |_=>none
 |false=>some (c,[])
def oH (rk lv sl af:Nat):Nat→List Cell→Option (List Cell×List SL)
 |_,[]=>some ([],[])
 |k,c :: r=>match Cr rk lv sl af k c,oH rk lv sl af (k+1) r with
  |some (x,u),some (xs,us)=>some (x :: xs,u++us)
  |_,_=>none
def zX (rk lv sl af:Nat):Nat→List (Bool×List Cell)→Option (List (Bool×List Cell)×List SL)
 |_,[]=>some ([],[])
 |k,(a,cs) :: r=>match oH rk lv sl af k cs,zX rk lv sl af (k+64) r with
  |some (xs,us),some (ys,vs)=>some ((a,xs) :: ys,us++vs)
  |_,_=>none
section
variable {α : Type}
def Vs (s:S2) (r:yT) (K:Bool→List Cell→Option α):Option α:=
 match r with
 |.t n=>match s.slots.get? n with
  |some (.c x)=>K false [x]
  |some (.agg cs)=>K true cs
  |_=>none
 |.cell n sz agg=>ir (s.slots.get? n) fun p=>J5 s.mem sz p fun cs=>match agg,cs with
  |true,cs=>K true cs
  |false,[x]=>K false [x]
  |_,_=>none
def uA (s:S2):List yT→(List (Bool×List Cell)→Option α)→Option α
 |[],K=>K []
 |r :: rs,K=>Vs s r fun a cs=>uA s rs fun l=>K ((a,cs) :: l)
end
def gR (m:List (Tr E2)):List (Bool×List cG)→List (Bool×List Cell)→Option (List ff)
 |[],[]=>some []
 |(a,l) :: ps,(b,cs) :: vs=>match a==b,j5 m cs,gR m ps vs with
  |true,some (cs,_),some ds=>(dX l cs).map (· ++ ds)
  |_,_,_=>none
 |_,_=>none
def NM (m:List (Tr E2)) (top:Nat):Cell→Option Cell
 |.int k a=>some (.int k a)
 |.bool b=>some (.bool b)
 |.str s=>some (.str s)
 |.raw v=>some (.raw v)
 |.nil _=>some (.nil false)
 |.sl _ _ .aJ=>none
 |.sl t l _=>some (.sl t l .d)
 | .ref lv sl af t => match Nat.ble top lv with
  |false=>some (.ref lv sl af t)
  |true=>match rowOf m lv sl af with
   |some r=>some (.sl r.t r.l .d)
   |none=>none
 | .jg lv sl af t off len => match Nat.ble top lv with
  |false=>some (.jg lv sl af t off len)
  |true=>match rowOf m lv sl af with
   |some r=>some (.sl r.t ((r.l.drop off).take len) .d)
   |none=>none
 |_=>none
def zY (m:List (Tr E2)) (top:Nat):List Cell→Option (List Cell)
 |[]=>some []
 |x :: r=>match NM m top x,zY m top r with
  |some y,some ys=>some (y :: ys)
  |_,_=>none
def rW (m:List (Tr E2)) (top:Nat):List (Bool×List Cell)→Option (List (Bool×List Cell))
 |[]=>some []
 |(a,x) :: r=>match zY m top x,rW m top r with
  |some y,some ys=>some ((a,y) :: ys)
  |_,_=>none
def NN (top:Nat):Cell→Bool
 |.ref lv _ _ _=>Nat.ble top lv
 |.jg lv _ _ _ _ _=>Nat.ble top lv
 |_=>false
def Vt (m:List (Tr E2)) (top:Nat) (c:Cell):Option Cell:=
 match c with
 |.nil b=>match Nat.beq top 0 with
  |true=>some (.nil false)
  |false=>some (.nil b)
 |.sl t l (.app v)=>match Nat.beq top 0 with
  |true=>some (.sl t l .d)
  |false=>some (.sl t l (.app v))
 |.sl t l .full=>match Nat.beq top 0 with
  |true=>some (.sl t l .d)
  |false=>some (.sl t l .full)
 |c=>NM m top c
def NO (m : List (Tr E2)) (top rk lv sl af : Nat) (e : Option Ty) (k : Nat) (c : Cell) : Option (Cell × List SL) :=
 match Nat.beq k rk with
 | true => match c with
  |.nil true=>e.map fun t=>(.ref lv sl af t,[⟨t,[]⟩])
  | .ref cl cX eZ t => match Nat.ble top cl, rowOf m cl cX eZ with
   |true,some r=>match Nat.beq r.t.size t.size with
    |true=>some (.ref lv sl af r.t,[⟨r.t,r.l⟩])
    |false=>none
   |_,_=>none
  | .jg cl cX eZ t off len => match Nat.ble top cl, rowOf m cl cX eZ with
   |true,some r=>match Nat.beq r.t.size t.size with
    |true=>some (.ref lv sl af r.t,[⟨r.t,(r.l.drop off).take len⟩])
    |false=>none
   |_,_=>none
  |_=>none
 |false=>match NN top c with
  |true=>none
  |false=>(Vt m top c).map fun y=>(y,[])
def zZ (m:List (Tr E2)) (top rk lv sl af:Nat) (e:Option Ty):Nat→List Cell→Option (List Cell×List SL)
 |_,[]=>some ([],[])
 |k,x :: r=>match NO m top rk lv sl af e k x,zZ m top rk lv sl af e (k+1) r with
  |some (y,u),some (ys,us)=>some (y :: ys,u++us)
  |_,_=>none
def uB (m:List (Tr E2)) (top rk lv sl af:Nat) (e:Option Ty):Nat→List (Bool×List Cell)→Option (List (Bool×List Cell)×List SL)
 |_,[]=>some ([],[])
 |k,(a,x) :: r=>match zZ m top rk lv sl af e k x,uB m top rk lv sl af e (k+64) r with
  |some (y,u),some (ys,us)=>some ((a,y) :: ys,u++us)
  |_,_=>none
section
variable {α : Type}
def RB:AX→AX→Bool
 |.normal,.normal=>true
 |.exit a,.exit b=>Nat.beq a b
 |.ret,.ret=>true
 |_,_=>false
def nL:(os:ck)→(nK os).den→(AX→S2→Option α)→Option α
 |[],_,_=>none
 |[x],y,K=>bW (x.2.st (unpack x.2.tys y)) fun s=>K x.1 s
 |x :: z :: r,y,K=>match y with
  |.inl a=>bW (x.2.st (unpack x.2.tys a)) fun s=>K x.1 s
  |.inr b=>nL (z :: r) b K
def lD:(os:ck)→AX→S2→Option (nK os).den
 |[],_,_=>none
 |[x],ax,s=>match RB x.1 ax with
  |true=>bW (x.2.get s) fun ds=>pack x.2.tys ds
  |false=>none
 |x :: z :: r,ax,s=>match RB x.1 ax with
  |true=>bW ((x.2.get s).bind (pack x.2.tys)) fun y=>some (.inl y)
  |false=>bW (lD (z :: r) ax s) fun y=>some (.inr y)
end
abbrev Wk:=∀ (α : Type),Nat→Nat→AC→S2→(AX→S2→Option α)→Option α
def Uf (ctx d:Nat):Nat:=(ctx+1)*1000000+d*1000
section
variable {α : Type}
def V2.Ug:V2→Bool
 |.gZ _=>false
 |_=>true
def Vu (s : S2) (c : Callee) (l : List cG) (ps : List dJ) (args : List V2) (K : gi → Option α) : Option α :=
 match args with
 | .c (.ptr lv sl af i off) :: rest => match Nat.beq i 0 && Nat.beq off 0, iY s.mem lv sl with
  | true, some (.box v cs) => match Nat.beq v af with
   | true => bW (FF l cs) fun ds => bW (LC ps rest) fun es => bW (pack c.ta (ds ++ es)) fun x =>
    Option.bind (c.F x) fun y=>match fY c.res (unpack c.tr y) with
     |some ((true,new) :: vs,[])=>bW (gX vs) fun w=>K (.bS { val:=w,cK:=[(lv,sl,some (.box af new))],cx:=[],rd:=cg lv sl :: rest.flatMap DL })
     |_=>none
   |false=>none
  |_,_=>none
 |_=>none
def yp (s : S2) (K : List Cell → Option α) : Option α :=
 match s.outer with
 | [o] => match o.get? 0 with
  | some (.c (.ptr lv sl af _ _)) => match iY s.mem lv sl with
   |some (.box v cs)=>match Nat.beq v af with
    |true=>K cs
    |false=>none
   |_=>none
  |_=>none
 |_=>none
def J7 (E : aA) (s : S2) (row d nx f : Nat) (args : List V2) (K : gi → Option α) : Option α :=
 bW (E.J6 f) fun c => match DQ c.args with
  |some (l,ps)=>match Nat.beq row 0 with
   |true=>Vu s c l ps args K
   |false=>none
  |none=>bW (zV s.mem c.args args) fun (ds,ks,bs)=>bW (pack c.ta ds) fun x=>
  zW bs <| Option.bind (c.F x) fun y=>match fY c.res (unpack c.tr y) with
   | some (vs, []) => match Nat.beq row 0 with
    |true=>match Nat.beq c.rk 65535 with
     |true=>none
     |false=>bW (gX vs) fun v=>K (.bS { val:=v,cK:=jQ ks,cx:=[],rd:=args.flatMap DL })
    | false => match Nat.beq (row % 65536) c.rk && !Nat.beq c.rk 0 && !Nat.beq (row / 65536) 0, zX c.rk (s.mem.length - 1) d nx 1 vs with
     |true,some (vs,[])=>bW (gX vs) fun v=>K (.bS { val:=v,cK:=jQ ks,cx:=[],rd:=args.flatMap DL })
     |true,some (vs,[u])=>match Nat.beq (row / 65536) u.t.size with
      |true=>bW (gX vs) fun v=>K (.bS { val:=v,cK:=jQ ks++[(s.mem.length-1,d,some (.row nx u.t u.l))],cx:=[],rd:=args.flatMap DL })
      |false=>none
     |_,_=>none
   |_=>none
def dJ.Z1 (m:List (Tr E2)):dJ→V2→Option (List ff×List (Nat×Nat)×List Bool)
 |.c x,.c y=>x.arg m true y
 |.agg l,.agg cs=>xj m l cs
 |_,_=>none
def z1 (m:List (Tr E2)):List dJ→List V2→Option (List ff×List (Nat×Nat)×List Bool)
 |[],[]=>some ([],[],[])
 |p :: ps,x :: xs=>match p.Z1 m x,z1 m ps xs with
  |some (d,k,b),some (ds,ks,bs)=>some (d++ds,k++ks,b++bs)
  |_,_=>none
 |_,_=>none
def NP (E : aA) (s : S2) (f : Nat) (args : List V2) (K : gi → Option α) : Option α :=
 bW (E.J6 f) fun c=>match (DQ c.args).isNone && !Nat.beq c.rk 65535 with
  | true => bW (z1 s.mem c.args args) fun (ds, ks, bs) => bW (pack c.ta ds) fun x =>
   zW bs <| Option.bind (c.F x) fun y=>match fY c.res (unpack c.tr y) with
    |some (vs,[])=>bW (gX vs) fun v=>K (.bS { val:=v,cK:=jQ ks,cx:=[],rd:=args.flatMap DL })
    |_=>none
  |false=>none
def FG (E : aA) (wk : Wk) (ctx : Nat) (s : S2) (row d nx f : Nat) (args : List V2) (K : gi → Option α) : Option α :=
 match E.fns f with
 | some fn => match fn.sh with
  |false=>J7 E s row d nx f args K
  | true => match Nat.beq args.length fn.np && args.all V2.Ug with
   |false=>none
   | true =>
    let st:S2:={ slots:=gN 0 args .lf,outer:=loose s.slots :: s.outer,mem:=s.mem++[.lf],aE:=s.aE,nv:=nx }
    let back : S2 → Option α := fun s' => match s'.outer with
     | o :: os => uA s' fn.res fun vs => match Nat.beq row 0 with
      |true=>bW (rW s'.mem s.mem.length vs) fun vs=>bW (gX vs) fun v=>
       K (.all v { slots:=merge s.slots o,outer:=os,mem:=s'.mem.take s.mem.length,aE:=s'.aE,nv:=s'.nv })
      | false => match !Nat.beq (row % 65536) 0 && !Nat.beq (row / 65536) 0, uB s'.mem s.mem.length (row % 65536) (s.mem.length - 1) d s'.nv (E.bT ctx d) 1 vs with
       | true, some (vs, [u]) => match Nat.beq (row / 65536) u.t.size with
        |true=>bW (gX vs) fun v=>
         K (.all v { slots:=merge s.slots o,outer:=os,mem:=eN (s'.mem.take s.mem.length) [(s.mem.length-1,d,some (.row s'.nv u.t u.l))],aE:=s'.aE,nv:=s'.nv+1 })
        |false=>none
       |true,some (vs,[])=>bW (gX vs) fun v=>
        K (.all v { slots:=merge s.slots o,outer:=os,mem:=s'.mem.take s.mem.length,aE:=s'.aE,nv:=s'.nv+1 })
       |_,_=>none
     |[]=>none
    match E.aY ctx d with
    |none=>wk α (Uf ctx d) 0 fn.body st fun ax s'=>match ax with
     |.exit _=>none
     |_=>back s'
    |some os=>Option.bind (wk (nK os).den (Uf ctx d) 0 fn.body st fun ax s'=>match ax with
     |.exit _=>none
     |_=>lD os .ret s') fun y=>nL os y fun _ s'=>back s'
 |none=>J7 E s row d nx f args K
def Is (E : aA) (s : S2) (f : Nat) (args : List V2) (K : gi → Option α) : Option α :=
 bW (E.J6 f) fun c=>match yo c.res&&(DQ c.args).isNone && !Nat.beq c.rk 65535 with
  | true => bW (sQ s.mem c.args args) fun (ds, bs) => bW (pack c.ta ds) fun x =>
   zW bs <| Option.bind (c.F x) fun y=>match fY c.res (unpack c.tr y) with
    |some (vs,[])=>bW (gX vs) fun v=>K (.bS { val:=v,cK:=[],cx:=[],rd:=args.flatMap (xk s.mem) })
    |_=>none
  |false=>none
def bP (E : aA) (wk : Wk) (ctx : Nat) (s : S2) (row dst aR : Nat) (op : bM) (K : gi → Option α) : Option α :=
 match op with
 | .ED x => bW (iF s x) fun v => match Nat.beq (row % 65536) 6 && v.isRow with
  | true => match v with
   |.c (.ref lv sl af t)=>bW (rowOf s.mem lv sl af) fun r=>bW (iO r.t t r.l) fun l=>
    K (.bS { val:=.c (.ref (s.mem.length-1) dst aR t),cK:=[(lv,sl,none),(s.mem.length-1,dst,some (.row aR t l))],cx:=[],rd:=[cg lv sl] })
   |_=>none
  |false=>match M4 row with
  |false=>K (jP v)
  | true => match v with
   |.c (.nil true)=>bW (E.bT ctx dst) fun t=>match Nat.beq t.size (row / 65536) with
    |true=>K (.bS { val:=.c (.ref (s.mem.length-1) dst aR t),cK:=[(s.mem.length-1,dst,some (.row aR t []))],cx:=[],rd:=[] })
    |false=>none
   |.c (.nil _)=>none
   |.c (.sl ..)=>none
   |v=>K (jP v)
 |.pick c a b=>uw (iF s c) fun t=>match iF s a,iF s b with
  |some (.c (.bool x)),some (.c (.bool y))=>K (dz (.bool (cond t x y)))
  |some x,some y=>cond t (K (jP x)) (K (jP y))
  |some x,none=>aZ t (K (jP x))
  |none,some y=>aZ (!t) (K (jP y))
  |none,none=>none
 |.alloc z=>bW (xg z) fun cs=>K (.bS { val:=.c (.ptr (s.mem.length-1) dst aR 0 0),cK:=[(s.mem.length-1,dst,some (.box aR cs))],cx:=[],rd:=[] })
 |.box x=>bW ((iF s x).bind V2.cells?) fun cs=>K (.bS { val:=.c (.ptr (s.mem.length-1) dst aR 0 0),cK:=[(s.mem.length-1,dst,some (.box aR cs))],cx:=[],rd:=[] })
 |.build z ps=>bW ((xg z).bind fun cs=>zS s cs ps) fun cs=>K (jP (.agg cs))
 | .buildSlice sz n z ps => match Nat.beq row 2 with
  | true => match Nat.beq n 0 with
   |true=>none
   |false=>bW ((nF z).bind fun zc=>zS s (List.replicate n zc).flatten (ps.map fun p=>(p.1*sz,sz,p.2))) fun cs=>
    K (.bS { val:=.c (.eH (s.mem.length-1) dst aR 0 n sz),cK:=[(s.mem.length-1,dst,some (.box aR cs))],cx:=[],rd:=[] })
  |false=>bW (E.bT ctx dst) fun t=>bW (nF z) fun zc=>bW (xh s sz (List.replicate n zc) ps) fun (els,ks)=>match Nat.beq t.size sz,vz t els with
  | true, some l => match Nat.beq row 0 with
   |true=>K (.bS { val:=.c (.sl t l .full),cK:=jQ ks,cx:=[],rd:=gS ks })
   |false=>match zT ks (s.mem.length-1) dst with
    |true=>none
    |false=>K (.bS { val:=.c (.ref (s.mem.length-1) dst aR t),cK:=jQ ks++[(s.mem.length-1,dst,some (.row aR t l))],cx:=[],rd:=gS ks })
  |_,_=>none
 |.load sz agg x=>ir (iF s x) fun p=>J5 s.mem sz p fun cs=>bW (jz agg cs) fun v=>K (.bS { val:=v,cK:=[],cx:=[],rd:=qm p })
 |.store sz x v=>ir (iF s x) fun p=>bW ((iF s v).bind V2.cells?) fun new=>Ip s.mem sz p new K
 |.nilCheck x=>bW (iF s x) fun v=>match v with
  |.c (.ptr lv sl af i off)=>K (dz (.ptr lv sl af i off))
  |.c (.fo t e off)=>K (dz (.fo t e off))
  |.fV f cs=>K (jP (.fV f cs))
  |_=>none
 |.bin op x y=>ir (iF s x) fun a=>ir (iF s y) fun b=>Vo op a b fun c=>K (dz c)
 |.QT neg x y=>uw (iF s x) fun a=>uw (iF s y) fun b=>K (dz (.bool (match neg with
  |true=>!(a==b)
  |false=>a==b)))
 | .wo neg x => match iF s x with
  |some (.c (.er b))=>match neg with
   |true=>K (dz (.bool b))
   |false=>K (dz (.bool (!b)))
  |_=>none
 | .pP lo n sz x => match iF s x with
  |some (.c (.ptr lv sl af i off))=>match Nat.beq i 0&&Nat.blt lo n with
   |true=>K (dz (.eH lv sl af (off+lo*sz) (n-lo) sz))
   |false=>none
  |_=>none
 | .QU neg sz cells x y => match iF s x, iF s y with
  | some (.agg xs), some (.agg ys) => match Nat.beq xs.length sz && Nat.beq ys.length sz, DN xs ys cells with
   |true,some b=>K (dz (.bool (match neg with
    |true=>!b
    |false=>b)))
   |_,_=>none
  |_,_=>none
 |.un op x=>ir (iF s x) fun a=>unK op a fun c=>K (dz c)
 |.conv k x=>LA (iF s x) fun n=>K (dz (.int k (k.wrap n)))
 | .field off sz agg x => match iF s x with
  |some (.agg cs)=>match Nat.ble (off+sz) cs.length,jz agg ((cs.drop off).take sz) with
   |true,some v=>K (jP v)
   |_,_=>none
  |_=>none
 |.fieldAddr off x=>match iF s x with
  |some (.c (.ptr lv sl af i o))=>K (dz (.ptr lv sl af i (o+off)))
  |some (.c (.fo t e o))=>K (dz (.fo t e (o+off)))
  |_=>none
 | .indexAddr sz x i => LA (iF s i) fun n => match iF s x with
  |some (.c (.sl t l _))=>match Nat.beq t.size sz with
   |true=>Option.bind (idx l n) fun e=>K (dz (.fo t e 0))
   |false=>none
  |some (.c (.ref lv sl af t))=>match Nat.beq t.size sz with
   |true=>bW (rowOf s.mem lv sl af) fun r=>aZ (jq n r.l.length) (K (dz (.ptr lv sl af n.toNat 0)))
   |false=>none
  |some (.c (.jg lv sl af t off len))=>match Nat.beq t.size sz with
   |true=>aZ (jq n len) (K (dz (.ptr lv sl af (off+n.toNat) 0)))
   |false=>none
  |_=>none
 |.jE n sz x i=>FD (iF s i) fun k=>match iF s x with
  |some (.c (.ptr lv sl af j o))=>Lz n k fun k=>K (dz (.ptr lv sl af j (o+k*sz)))
  |some (.c (.fo t e o))=>Lz n k fun k=>K (dz (.fo t e (o+k*sz)))
  |_=>none
 | .n8 n sz agg x i => FD (iF s i) fun k => match iF s x with
  |some (.agg cs)=>Lz n k fun k=>match Nat.ble (k*sz+sz) cs.length,jz agg ((cs.drop (k*sz)).take sz) with
   |true,some v=>K (jP v)
   |_,_=>none
  |_=>none
 |.n9 x i=>LA (iF s i) fun n=>match iF s x with
  |some (.c (.str b))=>Option.bind (idx b n) fun c=>K (dz (.int .u8 c.toNat))
  |_=>none
 |.slice sz x lo hi mx=>ir (iF s x) fun c=>sO lo s fun l=>sO hi s fun h=>sO mx s fun k=>match Nat.beq row 3&&(mx.isNone&&c.isRow) with
  |true=>Vp s.mem sz aR c l h K
  |false=>Iq s.mem sz c l h k fun v=>K (dz v)
 |.oa x lo hi=>match iF s x with
  |some (.c (.str b))=>sO lo s fun lo=>sO hi s fun hi=>aZ (mg b.length lo hi) (K (dz (.str (nH b lo hi))))
  |_=>none
 | .extract x i => match iF s x with
  |some (.gZ vs)=>match vs[i]? with
   |some (a,cs)=>bW (jz a cs) fun v=>K (jP v)
   |none=>none
  |_=>none
 |.len x=>ir (iF s x) fun c=>match c with
  |.sl _ l _=>K (dz (.int .i64 l.length))
  |.nil _=>K (dz (.int .i64 0))
  |.ref lv sl af _=>bW (rowOf s.mem lv sl af) fun r=>K (dz (.int .i64 r.l.length))
  |.jg _ _ _ _ _ len=>K (dz (.int .i64 len))
  |_=>none
 |.EE x=>ir (iF s x) fun c=>match c with
  |.nil true=>K (dz (.int .i64 0))
  |.sl _ l .full=>K (dz (.int .i64 l.length))
  |_=>none
 |.C9 x=>match iF s x with
  |some (.c (.str b))=>K (dz (.int .i64 b.length))
  |_=>none
 |.Bv n=>K (dz (.int .i64 n))
 |.TZ x=>match iF s x with
  |some (.c (.str b))=>K (dz (.sl (.int .u8) (cu b) .d))
  |_=>none
 |.TY x=>ir (iF s x) fun c=>match c with
  |.str _=>none
  |c=>nG s.mem c (some (.int .u8)) fun n=>bW (iO n.t (.int .u8) n.l) fun l=>K (.bS { val:=.c (.str (l.map fun n=>UInt8.ofNat n.toNat)),cK:=[],cx:=[],rd:=qm c })
 |.mkSet=>K (.bS { val:=.c (.mp (s.mem.length-1) dst aR),cK:=[(s.mem.length-1,dst,some (.set aR []))],cx:=[],rd:=[] })
 |.EF m k=>match iF s m,iF s k with
  |some (.c (.mp lv sl af)),some (.c (.str b))=>bW (J4 s.mem lv sl af) fun l=>K (.bS { val:=.c (.bool (hasB l b)),cK:=[],cx:=[],rd:=[cg lv sl] })
  |_,_=>none
 |.EG m k=>match iF s m,iF s k with
  |some (.c (.mp lv sl af)),some (.c (.str b))=>bW (J4 s.mem lv sl af) fun l=>K (.bS { val:=.gZ [],cK:=[(lv,sl,some (.set af (pQ l b)))],cx:=[],rd:=[cg lv sl] })
  |_,_=>none
 | .Da x y => match iF s x, iF s y with
  |some (.c (.int k a)),some (.c (.int k' b))=>match decEq k k' with
   |.isTrue _=>K (dz (.int k (min a b)))
   |.isFalse _=>none
  |_,_=>none
 | .Db x y => match iF s x, iF s y with
  |some (.c (.int k a)),some (.c (.int k' b))=>match decEq k k' with
   |.isTrue _=>K (dz (.int k (max a b)))
   |.isFalse _=>none
  |_,_=>none
 |.append sz bytes x y=>ir (iF s x) fun a=>ir (iF s y) fun b=>LB s (!Nat.beq row 0) (su row (s.mem.length-1) dst).1 (su row (s.mem.length-1) dst).2 aR sz bytes a b (E.bT ctx dst) K
 |.clone sz bytes x=>ir (iF s x) fun b=>match b with
  |.str _=>none
  |b=>LB s (!Nat.beq row 0) (s.mem.length-1) dst aR sz bytes (.nil true) b (E.bT ctx dst) K
 | .copy sz x y => ir (iF s x) fun a => ir (iF s y) fun b => match a with
  |.ref lv sl af t=>bW (rowOf s.mem lv sl af) fun r=>nG s.mem b (some t) fun n=>match Nat.beq t.size sz,iO r.t t r.l,iO n.t t n.l with
   |true,some l,some news=>K (.bS { val:=.c (.int .i64 ((min news.length l.length:Nat):Int)),cK:=[(lv,sl,some (.row af t (FC news l)))],cx:=[],rd:=cg lv sl :: qm b })
   |_,_,_=>none
  |.jg lv sl af t off len=>bW (rowOf s.mem lv sl af) fun r=>nG s.mem b (some t) fun n=>match Nat.beq t.size sz,iO r.t t r.l,iO n.t t n.l with
   |true,some l,some news=>aZ (decide (off+len≤l.length)) (K (.bS { val:=.c (.int .i64 ((min news.length len:Nat):Int)),cK:=[(lv,sl,some (.row af t (l.take off++(news.take (min news.length len)++l.drop (off+(news.take (min news.length len)).length)))))],cx:=[],rd:=cg lv sl :: qm b }))
   |_,_,_=>none
  | .eH lv sl af off n sz' => match iY s.mem lv sl with
   |some (.box v cs)=>nG s.mem b none fun nw=>match Nat.beq v af&&Nat.beq sz' sz&&Nat.ble (off+n*sz) cs.length&&Nat.beq nw.t.size sz with
    |true=>K (.bS { val:=.c (.int .i64 ((min nw.l.length n:Nat):Int)),cK:=[(lv,sl,some (.box af (bI.splice cs off ((nw.l.take (min nw.l.length n)).flatMap (ij nw.t)))))],cx:=[],rd:=cg lv sl :: qm b })
    |false=>none
   |_=>none
  |_=>none
 |.mK sz bytes z x n=>ir (iF s x) fun a=>FD (iF s n) fun k=>bW (E.bT ctx dst) fun t=>bW ((nF z).bind (xe t)) fun z'=>match Nat.beq t.size sz&&Nat.beq z.length sz with
  |true=>aZ (room k bytes) (LB s (!Nat.beq row 0) (s.mem.length-1) dst aR sz bytes a (.sl t (List.replicate k z') .d) (some t) K)
  |false=>none
 |.makeSlice sz bytes z l c=>FD (iF s l) fun l=>FD (iF s c) fun c=>bW (E.bT ctx dst) fun t=>bW ((nF z).bind (xe t)) fun z'=>match Nat.beq t.size sz&&Nat.beq z.length sz with
  |true=>aZ (decide (l≤c)&&room c bytes) (K (.bS { val:=.c (.ref (s.mem.length-1) dst aR t),cK:=[(s.mem.length-1,dst,some (.row aR t (List.replicate l z')))],cx:=[],rd:=[] }))
  |false=>none
 | .sliceB n sz x => ir (iF s x) fun c => match c with
  |.ptr lv sl af i off=>match Nat.beq i 0 with
   |true=>K (dz (.eH lv sl af off n sz))
   |false=>none
  |_=>none
 |.makeFunc f cap=>bW ((DM s cap).bind qn) fun cs=>K (jP (.fV f cs))
 | .clear sz z x => ir (iF s x) fun a => match a with
  |.ref lv sl af t=>bW (rowOf s.mem lv sl af) fun r=>bW ((nF z).bind (xe t)) fun z'=>match Nat.beq t.size sz&&Nat.beq z.length sz,iO r.t t r.l with
   |true,some l=>K (.bS { val:=.gZ [],cK:=[(lv,sl,some (.row af t (List.replicate l.length z')))],cx:=[],rd:=[cg lv sl] })
   |_,_=>none
  |.jg lv sl af t off len=>bW (rowOf s.mem lv sl af) fun r=>bW ((nF z).bind (xe t)) fun z'=>match Nat.beq t.size sz&&Nat.beq z.length sz,iO r.t t r.l with
   |true,some l=>aZ (decide (off+len≤l.length)) (K (.bS { val:=.gZ [],cK:=[(lv,sl,some (.row af t (l.take off++List.replicate len z'++l.drop (off+len))))],cx:=[],rd:=[cg lv sl] }))
   |_,_=>none
  |_=>none
 | .compact x => ir (iF s x) fun a => match a with
  |.nil true=>K (dz (.nil true))
  |.ref lv sl af t=>bW (rowOf s.mem lv sl af) fun r=>match Nat.beq t.size 1,iO r.t (.int .i64) r.l with
   |true,some l=>aZ (decide (l.length<4611686018427387904)) (K (.bS { val:=.c (.ref lv sl aR (.int .i64)),cK:=[(lv,sl,some (.row aR (.int .i64) (gT l)))],cx:=[],rd:=[cg lv sl] }))
   |_,_=>none
  |_=>none
 | .sort x => ir (iF s x) fun a => match a with
  |.nil true=>K (.bS { val:=.gZ [],cK:=[],cx:=[],rd:=[] })
  |.ref lv sl af t=>bW (rowOf s.mem lv sl af) fun r=>match Nat.beq t.size 1,iO r.t (.int .i64) r.l with
   |true,some l=>aZ (decide (l.length<4611686018427387904)) (K (.bS { val:=.gZ [],cK:=[(lv,sl,some (.row af (.int .i64) (jc l)))],cx:=[],rd:=[cg lv sl] }))
   |_,_=>none
  |_=>none
 | .grow sz x n => ir (iF s x) fun a => FD (iF s n) fun _ => match a, E.bT ctx dst with
  |.nil true,some t=>match Nat.beq t.size sz with
   |true=>K (.bS { val:=.c (.sl t [] (.app aR)),cK:=[],cx:=[(aR,true)],rd:=[] })
   |false=>none
  |_,_=>none
 |.call f args=>match Nat.beq row 7,Nat.beq row 8,Nat.beq row 9,Nat.beq row 10 with
  |false,false,false,false=>bW (DM s args) fun aK=>FG E wk ctx s row dst aR f aK K
  |false,false,true,_=>bW (DM s args) fun aK=>NP E s f aK K
  |_,_,_,_=>none
 |.tB f args=>bW (DM s args) fun aK=>match E.sh f with
  |true=>FG E wk ctx s row dst aR f aK K
  |false=>Is E s f aK K
 |.yS x args=>match iF s x with
  |some (.fV f cap)=>bW (DM s args) fun aK=>FG E wk ctx s row dst aR f (aK++cap.map .c) K
  |_=>none
 |_=>none
def step2 (E : aA) (wk : Wk) (ctx : Nat) (s : S2) (aR : Nat) (o : bA) (K : S2 → gi → Option α) : Option α :=
 match o.gd with
 |none=>bP E wk ctx s o.row (o.dst.getD 0) aR o.op (K s)
 |some (g,b)=>match s.slots.get? g with
  | some (.c (.bool t)) => cond t
    (let s' := { s with slots := s.slots.set g (some (.c (.bool true))) }
     match b with
     |true=>bP E wk ctx s' o.row (o.dst.getD 0) aR o.op (K s')
     |false=>K s' (jP (.gZ [])))
    (let s' := { s with slots := s.slots.set g (some (.c (.bool false))) }
     match b with
     |true=>K s' (jP (.gZ []))
     |false=>bP E wk ctx s' o.row (o.dst.getD 0) aR o.op (K s'))
  |some (.gZ _)=>K s (jP (.gZ []))
  |_=>none
def uC (E:aA) (wk:Wk) (ctx:Nat):Nat→List bA→S2→(S2→Option α)→Option α
 |_,[],s,K=>K s
 |nx,o :: r,s,K=>step2 E wk ctx s nx o fun s e=>match e with
  |.bS e=>uC E wk ctx (nx+1) r (s.app o.dst (.bS e)) K
  |.all v s'=>uC E wk ctx s'.nv r { s'.app o.dst (.all v s') with nv:=s'.nv+r.length } K
def keq (a b:Nat×Nat×Nat):Bool:=Nat.beq a.1 b.1&&Nat.beq a.2.1 b.2.1&&Nat.beq a.2.2 b.2.2
def vA (a b:List (Nat×Nat×Nat)):Bool:=a.any fun k=>b.any (keq k)
def nM:gi→Bool
 |.bS e=>!(e.rd.isEmpty&&e.cK.isEmpty&&e.cx.isEmpty)
 |.all ..=>true
def vB:gi→gi→Bool
 |.bS a,.bS b=>vA a.rd b.wr||vA a.wr b.rd||vA a.wr b.wr
 |a,b=>nM a&&nM b
def DS (lY:Nat) (e:gi):List (Nat×gi)→Bool
 |[]=>true
 |(i,x) :: r=>(lY.testBit i || !vB x e)&&DS lY e r
def xl (l:List (Nat×gi)):List (Nat×gi):=l.map fun x=>(x.1,match nM x.2 with
 |true=>.all (.gZ []) default
 |false=>x.2)
def uD (E:aA) (wk:Wk) (ctx:Nat):Nat→Nat→List bA→List (Nat×gi)→S2→(S2→Option α)→Option α
 |_,_,[],_,s,K=>K s
 | i, nx, o :: r, past, s, K => step2 E wk ctx s nx o fun s e => match DS o.lY e past with
  |true=>match e with
   |.bS e=>uD E wk ctx (i+1) (nx+1) r ((i,.bS e) :: past) (s.app o.dst (.bS e)) K
   |.all v s'=>uD E wk ctx (i+1) s'.nv r ((i,.all (.gZ []) default) :: xl past) { s'.app o.dst (.all v s') with nv:=s'.nv+r.length } K
  |false=>none
def sR:AC→Nat
 |.seq a b=>sR a+sR b
 |.cond _ a b=>sR a+sR b+1
 |.block _ c=>sR c+1
 |.loop c=>sR c+1
 |.region ..=>1
 |_=>0
end
def RD {α : Type} (E:aA) (wk:Wk) (ctx:Nat) (ops:List bA) (draw:Bool) (s:S2) (K:S2→Option α):Option α:=
 match draw with
 |false=>uC E wk ctx s.nv ops { s with nv:=s.nv+ops.length } K
 |true=>uD E wk ctx 0 s.nv ops [] { s with nv:=s.nv+ops.length } K
def NQ (sh:Nat→Bool):bM→Bool
 |.ED _|.pick .. | .nilCheck _|.bin .. | .QT .. | .QU .. | .un .. | .conv .. | .field .. | .fieldAddr .. | .indexAddr .. | .jE .. | .n8 .. | .n9 .. | .load .. | .slice .. | .oa .. | .extract .. | .len _|.C9 _|.Bv _|.Da .. | .Db ..=>true
 |.tB f _=>!sh f
 |_=>false
def Cs (sh:Nat→Bool) (o:bA):Bool:=Nat.beq o.row 0&&NQ sh o.op
def pF (sh:Nat→Bool):AC→Bool
 |.skip=>true
 |.region ops _=>ops.all (Cs sh)
 |.seq a b=>pF sh a&&pF sh b
 |.cond _ a b=>pF sh a&&pF sh b
 |_=>false
def nN:AC→List Nat
 |.region ops _=>ops.flatMap fun o=>o.dst.toList
 |.seq a b=>nN a++nN b
 |.cond _ a b=>nN a++nN b
 |_=>[]
def FH:List Nat→Tr V2→Tr V2
 |[],t=>t
 |n :: r,t=>FH r (t.set n none)
def DT (t:Ty) (c:Cell):Option t.den:=
 match t,c with
 |.int k,.int k' a=>match decEq k k' with
  |.isTrue _=>some a
  |.isFalse _=>none
 |.bool,.bool b=>some b
 |.str,.str s=>some s
 |_,_=>none
def vC:(t:Ty)→t.den→Option Cell
 |.int k,a=>some (.int k a)
 |.bool,b=>some (.bool b)
 |.str,s=>some (.str s)
 |_,_=>none
def FI (t:Ty) (n:Nat) (ax:AX) (s:S2):Option t.den:=
 match ax with
 |.normal=>match s.slots.get? n with
  |some (.c c)=>DT t c
  |_=>none
 |_=>none
def sS (s:S2) (c:bR) (b:Bool):S2:=
 match c with
 |.t n=>{ s with slots:=s.slots.set n (some (.c (.bool b))) }
 |.c _=>s
def Z2 (i:Nat):Nat:=match Nat.blt i 100000 with
 |true=>i+100000
 |false=>i
def Z3 (o:Option (List ff)) (i:Nat):Nat:=match o with
 |some _=>i
 |none=>i+200000
def walk (E : aA) : Nat → Wk
 |0=>fun _ _ _ _ _ _=>none
 | n + 1 => fun α ctx i c s K =>
  match c with
  |.skip=>K .normal s
  | .region ops draw =>
   match E.aO ctx i with
   |some m=>match ops.all (Cs E.sh) with
    |true=>Option.bind (RD E (walk E n) ctx ops draw s (FI m.2 m.1 .normal)) fun y=>bW (vC m.2 y) fun y=>K .normal { s with slots:=(FH (nN (.region ops draw)) s.slots).set m.1 (some (.c y)) }
    |false=>none
   |none=>
   match E.aX ctx i with
   |none=>RD E (walk E n) ctx ops draw s fun s'=>K .normal s'
   |some os=>Option.bind (RD E (walk E n) ctx ops draw s (lD os .normal)) fun y=>nL os y K
  |.seq a b=>walk E n α ctx i a s fun ax s'=>match ax with
   |.normal=>walk E n α ctx (i+sR a) b s' K
   |ax=>K ax s'
  | .cond c a b =>
   match E.aO ctx i with
   | some m => match pF E.sh a && pF E.sh b with
    |true=>Option.bind (uw (iF s c) fun t=>cond t (walk E n m.2.den ctx (i+1) a (sS s c true) (FI m.2 m.1)) (walk E n m.2.den ctx (i+1+sR a) b (sS s c false) (FI m.2 m.1)))
     fun y=>bW (vC m.2 y) fun y=>K .normal { s with slots:=(FH (nN a++nN b) s.slots).set m.1 (some (.c y)) }
    |false=>none
   |none=>
   match E.aX ctx i with
   |none=>uw (iF s c) fun t=>cond t (walk E n α ctx (i+1) a (sS s c true) K) (walk E n α ctx (i+1+sR a) b (sS s c false) K)
   | some os => Option.bind (uw (iF s c) fun t => cond t (walk E n (nK os).den ctx (i + 1) a (sS s c true) (lD os)) (walk E n (nK os).den ctx (i + 1 + sR a) b (sS s c false) (lD os)))
     fun y=>nL os y K
  | .block id c =>
   match E.aX ctx i with
   | none => walk E n α ctx (i + 1) c s fun ax s' => match ax with
    |.exit id'=>match Nat.beq id' id with
     |true=>K .normal s'
     |false=>K (.exit id') s'
    |ax=>K ax s'
   | some os => Option.bind (walk E n (nK os).den ctx (i + 1) c s fun ax s' => match ax with
    |.exit id'=>match Nat.beq id' id with
     |true=>lD os .normal s'
     |false=>lD os (.exit id') s'
    |ax=>lD os ax s') fun y=>nL os y K
  | .loop c => match E.cq ctx i with
   |true=>walk E n α ctx (i+1) c s fun ax s'=>match ax with
    |.normal=>walk E n α ctx (Z2 i) (.loop c) s' K
    |ax=>K ax s'
   |false=>bW (E.loops ctx (Z3 ((E.loops ctx i c).bind fun L=>L.T.get s) i) c) fun L=>bW (L.T.get s) fun ds=>bW (pack L.T.tys ds) fun x=>
   Option.bind (L.F x) fun y=>nL L.outs y K
  |.exit id=>K (.exit id) s
  |.ret=>K .ret s
def aL (E:aA) (N ctx i:Nat) (body:AC) (T:cw) (outs:ck) (rec:(tv T.tys).den→Option (nK outs).den) (x:(tv T.tys).den):Option (nK outs).den:=
 bW (T.st (unpack T.tys x)) fun s=>walk E N (nK outs).den ctx (i+1) body s fun ax s'=>match ax with
  |.normal=>bW (T.get s') fun ds=>bW (pack T.tys ds) fun y=>rec y
  |ax=>lD outs ax s'
def bJ {α β : Type} (step:(α→Option β)→α→Option β):Nat→α→Option β
 |0,_=>none
 |n+1,x=>step (bJ step n) x
def bC (E : aA) (N : Nat) (f : Nat) (args : List dJ) (ta : List Ty) (res : List (Bool × List cG)) (tr : List Ty) (rk : Nat) (x : (tv ta).den) : Option (tv tr).den :=
 bW (E.fns f) fun fn=>match DQ args with
 | some (l, ps) => match cH l (unpack ta x) with
  | some (cs, r) => match dm ps r with
   | some (vs, []) => match Nat.beq (vs.length + 1) fn.np with
    | true => walk E N _ 0 0 fn.body { slots := gN 0 (.c (.ptr 0 0 0 0 0) :: vs) .lf, outer := [Tr.set .lf 0 (some (.c (.ptr 0 0 0 0 0)))], mem := eN [.lf, .lf] [(0, 0, some (.box 0 cs))], aE := .lf, nv := 1 } fun ax s => match ax with
     |.exit _=>none
     |_=>yp s fun cs'=>uA s fn.res fun vs=>match hiR 1 ((true,cs') :: vs) with
      |true=>bW (gR s.mem res ((true,cs') :: vs)) fun ds=>pack tr ds
      |false=>none
    |false=>none
   |_=>none
  |none=>none
 |none=>match dm args (unpack ta x) with
 | some (vs, []) => match Nat.beq vs.length fn.np with
  | true => walk E N _ 0 0 fn.body { slots := gN 0 vs .lf, outer := [], mem := [.lf], aE := .lf, nv := 0 } fun ax s => match ax with
   |.exit _=>none
   |_=>uA s fn.res fun vs=>match Vr s.mem rk vs && !Nat.beq rk 65535 with
    |true=>bW (gR s.mem res vs) fun ds=>pack tr ds
    |false=>none
  |false=>none
 |_=>none
end Go.Sym
