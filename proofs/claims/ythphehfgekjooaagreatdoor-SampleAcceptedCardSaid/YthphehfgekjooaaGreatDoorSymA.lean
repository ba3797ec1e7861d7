/- A machine over typed data that the kernel runs with unknown data: what a cut of Go code computes becomes a Lean function. Definitions. -/
import Derived.Test.YthphehfgekjooaaGreatDoorEngB
set_option linter.unusedVariables false
set_option linter.unusedSimpArgs false
namespace Go.Sym
open Go Go.bq
inductive oW where
 |mk (kind:Int) (int:Int) (text:List UInt8) (list:List oW) (cut:Bool)
 deriving Inhabited
def oW.kind:oW→Int
 |.mk k _ _ _ _=>k
def oW.int:oW→Int
 |.mk _ i _ _ _=>i
def oW.text:oW→List UInt8
 |.mk _ _ s _ _=>s
def oW.list:oW→List oW
 |.mk _ _ _ l _=>l
def oW.cut:oW→Bool
 |.mk _ _ _ _ c=>c
inductive Ty where
 |val
 |int (k:IntKind)
 |bool
 |str
 |sl (t:Ty)
 |unit
 |prod (a b:Ty)
 |sum (a b:Ty)
 deriving DecidableEq,Inhabited
@[reducible] def Ty.den:Ty→Type
 |.val=>oW
 |.int _=>Int
 |.bool=>Bool
 |.str=>List UInt8
 |.sl t=>List t.den
 |.unit=>Unit
 |.prod a b=>a.den×b.den
 |.sum a b=>a.den⊕b.den
structure eS where
 t:Ty
 v:t.den
def tI (a b:Ty) (x:a.den):Option b.den:=
 match decEq a b with
 |.isTrue h=>some (h ▸ x)
 |.isFalse _=>none
def iI (a b:Ty) (x:List a.den):Option (List b.den):=
 match decEq a b with
 |.isTrue h=>some (h ▸ x)
 |.isFalse _=>none
def Ty.size:Ty→Nat
 |.val=>5
 |.int _|.bool|.str|.sl _=>1
 |.unit=>0
 |.prod a b=>a.size+b.size
 |.sum _ _=>0
inductive Ow where
 |d
 |full
 |app (v:Nat)
 |bB
 deriving Inhabited
inductive Cell where
 |int (k:IntKind) (a:Int)
 |bool (b:Bool)
 |er (b:Bool)
 |str (s:List UInt8)
 |raw (v:Value)
 |nil (full:Bool)
 |sl (t:Ty) (l:List t.den) (o:Ow)
 |ref (lv sl aa:Nat) (t:Ty)
 |iT (lv sl aa:Nat) (t:Ty) (off len:Nat)
 |ptr (lv sl aa i off:Nat)
 |eW (t:Ty) (x:t.den) (off:Nat)
 |eA (lv sl aa off n sz:Nat)
 |mp (lv sl aa:Nat)
 deriving Inhabited
inductive V2 where
 |c (x:Cell)
 |agg (cs:List Cell)
 |fB (f:Nat) (cap:List Cell)
 |gN (vs:List (Bool×List Cell))
 deriving Inhabited
inductive E2 where
 |row (aa:Nat) (t:Ty) (l:List t.den)
 |box (aa:Nat) (cs:List Cell)
 |set (aa:Nat) (l:List (List UInt8))
 deriving Inhabited
structure S2 where
 slots:Tr V2
 outer:List (Tr V2)
 mem:List (Tr E2)
 aB:Tr Unit
 nv:Nat
 deriving Inhabited
mutual
def Kb:oW→List D
 |.mk k i s l c=>[.sc (.int .u8 k),.sc (.int .i64 i),.sc (.string ⟨s.toArray⟩),.sl (Db l),.sc (.bool c)]
def Db:List oW→List (List D)
 |[]=>[]
 |v :: r=>Kb v :: Db r
end
def dX:(t:Ty)→t.den→List D
 |.val,v=>Kb v
 |.int k,a=>[.sc (.int k a)]
 |.bool,b=>[.sc (.bool b)]
 |.str,s=>[.sc (.string ⟨s.toArray⟩)]
 |.sl t,l=>[.sl (List.map (dX t) l)]
 |.unit,_=>[]
 |.prod a b,x=>dX a x.1++dX b x.2
 |.sum _ _,_=>[]
def gS:(t:Ty)→t.den→List Cell
 |.val,v=>[.int .u8 v.kind,.int .i64 v.int,.str v.text,.sl .val v.list .d,.bool v.cut]
 |.int k,a=>[.int k a]
 |.bool,b=>[.bool b]
 |.str,s=>[.str s]
 |.sl t,l=>[.sl t l .d]
 |.unit,_=>[]
 |.prod a b,x=>gS a x.1++gS b x.2
 |.sum _ _,_=>[]
def Hl (k:IntKind):List Cell→Option (Int×List Cell)
 |.int k' a :: r=>match decEq k k' with
  |.isTrue _=>some (a,r)
  |.isFalse _=>none
 |_=>none
def ES:List Cell→Option (Bool×List Cell)
 |.bool b :: r=>some (b,r)
 |_=>none
def Mj:List Cell→Option (List UInt8×List Cell)
 |.str s :: r=>some (s,r)
 |_=>none
def Us (t:Ty):List Cell→Option (List t.den×List Cell)
 |.nil _ :: r=>some ([],r)
 |.sl t' l _ :: r=>match iI t' t l with
  |some l=>some (l,r)
  |none=>none
 |_=>none
def Xe (cs : List Cell) : Option (oW × List Cell) :=
 match Hl .u8 cs with
 | some (k, r) => match Hl .i64 r with
  | some (i, r) => match Mj r with
   | some (s, r) => match Us .val r with
    |some (l,r)=>match ES r with
     |some (c,r)=>some (.mk k i s l c,r)
     |none=>none
    |none=>none
   |none=>none
  |none=>none
 |none=>none
def xJ:(t:Ty)→List Cell→Option (t.den×List Cell)
 |.val,cs=>Xe cs
 |.int k,cs=>Hl k cs
 |.bool,cs=>ES cs
 |.str,cs=>Mj cs
 |.sl t,cs=>Us t cs
 |.unit,r=>some ((),r)
 | .prod a b, r => match xJ a r with
  |some (x,r')=>match xJ b r' with
   |some (y,r'')=>some ((x,y),r'')
   |none=>none
  |none=>none
 |.sum _ _,_=>none
def xK (t:Ty) (cs:List Cell):Option t.den:=
 match xJ t cs with
 |some (x,[])=>some x
 |_=>none
def Zr:Value→Cell
 |.int k a=>.int k a
 |.bool b=>.bool b
 |.string b=>.str b.data.toList
 |v=>.raw v
def Ut:AV→Option Cell
 |.d (.sc v)=>some (Zr v)
 |.own [] .full=>some (.nil true)
 |_=>none
def Ak:List AV→Option (List Cell)
 |[]=>some []
 |x :: r=>match Ut x,Ak r with
  |some y,some ys=>some (y :: ys)
  |_,_=>none
def Zs:AV→Option V2
 |.agg cs=>(Ak cs).map .agg
 |.gN []=>some (.gN [])
 |.fB f []=>some (.fB f [])
 |x=>(Ut x).map .c
def Uu:D→Option Cell
 |.sc v=>some (Zr v)
 |.sl []=>some (.nil false)
 |_=>none
def qZ:List D→Option (List Cell)
 |[]=>some []
 |x :: r=>match Uu x,qZ r with
  |some y,some ys=>some (y :: ys)
  |_,_=>none
def gL (m:List (Tr E2)) (lv sl:Nat):Option E2:=(m[lv]?).bind fun t=>t.get? sl
def Al (m:List (Tr E2)) (lv sl:Nat) (e:Option E2):List (Tr E2):=m.modify lv fun t=>t.set sl e
def eE (m:List (Tr E2)):List (Nat×Nat×Option E2)→List (Tr E2)
 |[]=>m
 |(lv,sl,e) :: r=>eE (Al m lv sl e) r
structure SL where
 t:Ty
 l:List t.den
def rowOf (m:List (Tr E2)) (lv sl aa:Nat):Option SL:=
 match gL m lv sl with
 |some (.row v t l)=>match Nat.beq v aa with
  |true=>some ⟨t,l⟩
  |false=>none
 |_=>none
def Mk (m:List (Tr E2)) (lv sl aa:Nat):Option (List (List UInt8)):=
 match gL m lv sl with
 |some (.set v l)=>match Nat.beq v aa with
  |true=>some l
  |false=>none
 |_=>none
def Kc (m:List (Tr E2)):Cell→Option (Cell×List (Nat×Nat))
 |.int k a=>some (.int k a,[])
 |.bool b=>some (.bool b,[])
 |.str s=>some (.str s,[])
 |.raw v=>some (.raw v,[])
 |.nil _=>some (.nil false,[])
 |.sl _ _ .bB=>none
 |.sl t l _=>some (.sl t l .d,[])
 |.ref lv sl aa _=>match rowOf m lv sl aa with
  |some r=>some (.sl r.t r.l .d,[(lv,sl)])
  |none=>none
 |.iT lv sl aa _ off len=>match rowOf m lv sl aa with
  |some r=>some (.sl r.t ((r.l.drop off).take len) .d,[(lv,sl)])
  |none=>none
 |_=>none
def lz (m:List (Tr E2)):List Cell→Option (List Cell×List (Nat×Nat))
 |[]=>some ([],[])
 |x :: r=>match Kc m x,lz m r with
  |some (y,k),some (ys,ks)=>some (y :: ys,k++ks)
  |_,_=>none
structure Ho where
 val:V2
 cv:List (Nat×Nat×Option E2)
 bR:List (Nat×Bool)
 rd:List (Nat×Nat×Nat)
 deriving Inhabited
inductive fP where
 |bC (e:Ho)
 |all (val:V2) (s:S2)
 deriving Inhabited
def Ho.wr (e:Ho):List (Nat×Nat×Nat):=e.cv.map (fun u=>bw u.1 u.2.1)++e.bR.map fun u=>jw u.1
def jJ (v:V2):fP:=.bC { val:=v,cv:=[],bR:=[],rd:=[] }
def cZ (c:Cell):fP:=jJ (.c c)
def ri:Cell→List (Nat×Nat×Nat)
 |.ref lv sl _ _=>[bw lv sl]
 |.iT lv sl _ _ _ _=>[bw lv sl]
 |.ptr lv sl _ _ _=>[bw lv sl]
 |.eA lv sl _ _ _ _=>[bw lv sl]
 |.mp lv sl _=>[bw lv sl]
 |_=>[]
def ET:V2→List (Nat×Nat×Nat)
 |.c x=>ri x
 |.agg cs=>cs.flatMap ri
 |_=>[]
def jK (ks:List (Nat×Nat)):List (Nat×Nat×Option E2):=ks.map fun k=>(k.1,k.2,none)
def Uv (s:Tr V2) (dst:Option Nat) (v:V2):Tr V2:=
 match dst with
 |some n=>s.set n (some v)
 |none=>s
def S2.app (s:S2) (dst:Option Nat):fP→S2
 |.bC e=>{ slots:=Uv s.slots dst e.val,outer:=s.outer,mem:=eE s.mem e.cv,aB:=dh s.aB e.bR,nv:=s.nv }
 |.all v s'=>{ s' with slots:=Uv s'.slots dst v }
def Cell.still:Cell→Bool
 |.ref .. | .iT .. | .ptr .. | .eA .. | .mp ..=>false
 |.sl _ _ (.app _)=>false
 |_=>true
def V2.still:V2→Bool
 |.c x=>x.still
 |.agg cs=>cs.all Cell.still
 |.fB _ cs=>cs.all Cell.still
 |.gN vs=>vs.all fun v=>v.2.all Cell.still
def loose:Tr V2→Tr V2
 |.lf=>.lf
 | .nd v l r => .nd (match v with
  |none=>none
  |some x=>match x.still with
   |true=>none
   |false=>some x) (loose l) (loose r)
def merge:Tr V2→Tr V2→Tr V2
 |.lf,_=>.lf
 | .nd v l r, b => .nd (match v with
  |none=>none
  |some x=>match x.still with
   |true=>some x
   |false=>b.top) (merge l b.left) (merge r b.right)
def ir (s:S2):bA→Option V2
 |.t n=>s.slots.get? n
 |.c v=>Zs v
def Hp (s:S2):List bA→Option (List V2)
 |[]=>some []
 |x :: r=>match ir s x,Hp s r with
  |some y,some ys=>some (y :: ys)
  |_,_=>none
def V2.cells?:V2→Option (List Cell)
 |.c x=>some [x]
 |.agg cs=>some cs
 |_=>none
def Am (agg:Bool) (cs:List Cell):Option V2:=
 match agg with
 |true=>some (.agg cs)
 |false=>match cs with
  |[x]=>some (.c x)
  |_=>none
section
variable {α : Type}
def aM (b:Bool) (k:Option α):Option α:=cond b k none
def idx {β : Type} (l:List β) (i:Int):Option β:=cond (decide (0≤i)) (l[i.toNat]?) none
def NL:Nat→Nat→(Nat→Option α)→Option α
 |0,_,_=>none
 |n+1,k,F=>cond (Nat.beq k n) (F n) (NL n k F)
def jf (i:Int) (n:Nat):Bool:=decide (0≤i)&&decide (i.toNat<n)
def room (n b:Nat):Bool:=decide (n≤dU)&&decide (n*b≤jl)
def Hq {β : Type} (news l:List β):List β:=news.take (min news.length l.length)++l.drop (news.take (min news.length l.length)).length
def bx (s:List UInt8):List Int:=s.map fun c=>(c.toNat:Int)
def gT (v:Option V2) (k:Cell→Option α):Option α:=
 match v with
 |some (.c x)=>k x
 |_=>none
def NM (v:Option V2) (k:Int→Option α):Option α:=
 match v with
 |some (.c (.int _ n))=>k n
 |_=>none
def EU (v:Option V2) (k:Nat→Option α):Option α:=NM v fun n=>aM (decide (0≤n)) (k n.toNat)
def uY (v:Option V2) (k:Bool→Option α):Option α:=
 match v with
 |some (.c (.bool b))=>k b
 |_=>none
def bE {β : Type} (o:Option β) (k : β→Option α):Option α:=
 match o with
 |some x=>k x
 |none=>none
def ald:Value→Option Cell
 |.int k a=>some (.int k a)
 |.bool b=>some (.bool b)
 |_=>none
def Zt (op:BinOp) (k:IntKind) (a:Int) (k':IntKind) (b:Int) (K:Cell→Option α):Option α:=
 match op with
 |.shl=>aM (!decide (b<0)) (K (.int k (k.wrap (a*2 ^ min b.toNat k.bits))))
 |.shr=>aM (!decide (b<0)) (K (.int k (a.fdiv (2 ^ min b.toNat k.bits))))
 | op => match decEq k k' with
  |.isFalse _=>none
  |.isTrue _=>match op with
   |.add=>K (.int k (k.wrap (a+b)))
   |.sub=>K (.int k (k.wrap (a-b)))
   |.mul=>K (.int k (k.wrap (a*b)))
   |.quo=>aM (!decide (b=0)) (K (.int k (k.wrap (a.tdiv b))))
   |.rem=>aM (!decide (b=0)) (K (.int k (a.tmod b)))
   |.and=>K (.int k (k.wrap (BitVec.ofInt k.bits a &&& BitVec.ofInt k.bits b).toNat))
   |.or=>K (.int k (k.wrap (BitVec.ofInt k.bits a ||| BitVec.ofInt k.bits b).toNat))
   |.xor=>K (.int k (k.wrap (BitVec.ofInt k.bits a ^^^ BitVec.ofInt k.bits b).toNat))
   |.andNot=>K (.int k (k.wrap (BitVec.ofInt k.bits a &&& ~~~(BitVec.ofInt k.bits b)).toNat))
   |.eql=>K (.bool (a==b))
   |.neq=>K (.bool (a != b))
   |.lss=>K (.bool (decide (a<b)))
   |.leq=>K (.bool (decide (a≤b)))
   |.gtr=>K (.bool (decide (a>b)))
   |.geq=>K (.bool (decide (a≥b)))
   |_=>none
def Zu (op:BinOp) (x y:List UInt8) (K:Cell→Option α):Option α:=
 match op with
 |.add=>aM (!decide (((x.length+y.length:Nat):Int)>IntKind.i64.max)) (K (.str (x++y)))
 |.eql=>K (.bool (x==y))
 |.neq=>K (.bool !(x==y))
 |.lss=>K (.bool (Op.bytesLess x y))
 |.leq=>K (.bool (Op.bytesLess x y||x==y))
 |.gtr=>K (.bool !(Op.bytesLess x y||x==y))
 |.geq=>K (.bool !(Op.bytesLess x y))
 |_=>none
def Zv (op:BinOp) (x y:Cell) (K:Cell→Option α):Option α:=
 match x,y with
 |.int k a,.int k' b=>Zt op k a k' b K
 |.str a,.str b=>Zu op a b K
 |_,_=>none
def Qu (kd:Nat):Cell→Cell→Option Bool
 |.bool a,.bool b=>match kd with
  |0=>some (a==b)
  |_=>none
 | .int k a, .int k' b => match kd with
  |1=>match decEq k k' with
   |.isTrue _=>some (a==b)
   |.isFalse _=>none
  |_=>none
 |.str a,.str b=>match kd with
  |0=>none
  |1=>none
  |_=>some (a==b)
 |_,_=>none
def EV (xs ys:List Cell):List (Nat×Nat)→Option Bool
 |[]=>some true
 |o :: r=>match xs[o.1]?,ys[o.1]?,EV xs ys r with
  |some x,some y,some b'=>(Qu o.2 x y).map fun b=>b&&b'
  |_,_,_=>none
def unK (op:UnOp) (x:Cell) (K:Cell→Option α):Option α:=
 match x with
 |.bool b=>match op with
  |.not=>K (.bool !b)
  |_=>none
 |.int k n=>match op with
  |.neg=>K (.int k (k.wrap (0-n)))
  |.xor=>K (.int k (k.wrap (BitVec.ofInt k.bits (if k.signed then -1 else k.max) ^^^ BitVec.ofInt k.bits n).toNat))
  |_=>none
 |_=>none
def nH (m:List (Tr E2)) (x:Cell) (e:Option Ty) (K:SL→Option α):Option α:=
 match x with
 |.sl t l _=>K ⟨t,l⟩
 |.nil _=>bE e fun t=>K ⟨t,[]⟩
 |.ref lv sl aa _=>bE (rowOf m lv sl aa) K
 |.iT lv sl aa _ off len=>bE (rowOf m lv sl aa) fun r=>aM (decide (off+len≤r.l.length)) (K ⟨r.t,(r.l.drop off).take len⟩)
 |.str s=>K ⟨.int .u8,bx s⟩
 |_=>none
def Dc (s:S2):List Cell→List (Nat×Nat×bA)→Option (List Cell)
 |cs,[]=>some cs
 | cs, (off, sz, x) :: r => match (ir s x).bind V2.cells? with
  |some new=>match Nat.beq new.length sz&&Nat.ble (off+sz) cs.length with
   |true=>Dc s (bq.splice cs off new) r
   |false=>none
  |none=>none
def An (s : S2) (sz : Nat) : List (List Cell) → List (Nat × bA) → Option (List (List Cell) × List (Nat × Nat))
 |els,[]=>some (els,[])
 | els, (i, x) :: r => match ((ir s x).bind V2.cells?).bind (lz s.mem) with
  | some (e, ks) => match Nat.beq e.length sz && Nat.blt i els.length with
   |true=>match An s sz (els.set i e) r with
    |some (els',ks')=>some (els',ks++ks')
    |none=>none
   |false=>none
  |none=>none
def Ao (t:Ty):List (List Cell)→Option (List t.den)
 |[]=>some []
 |e :: r=>match xK t e,Ao t r with
  |some x,some xs=>some (x :: xs)
  |_,_=>none
def Ap:List V2→Option (List Cell)
 |[]=>some []
 |.c x :: r=>(Ap r).map (x :: ·)
 |_=>none
def Ml (m:List (Tr E2)) (sz:Nat) (p:Cell) (K:List Cell→Option α):Option α:=
 match p with
 | .ptr lv sl aa i off => match gL m lv sl with
  |some (.box v cs)=>match Nat.beq v aa&&Nat.beq i 0&&Nat.ble (off+sz) cs.length with
   |true=>K ((cs.drop off).take sz)
   |false=>none
  |some (.row v t l)=>match Nat.beq v aa&&Nat.ble (off+sz) t.size with
   |true=>Option.bind l[i]? fun x=>K (((gS t x).drop off).take sz)
   |false=>none
  |some (.set _ _)=>none
  |none=>none
 |.eW t x off=>match Nat.ble (off+sz) t.size with
  |true=>K (((gS t x).drop off).take sz)
  |false=>none
 |_=>none
def Aq (ks:List (Nat×Nat)) (lv sl:Nat):Bool:=ks.any fun k=>Nat.beq k.1 lv&&Nat.beq k.2 sl
def Kd (m : List (Tr E2)) (sz : Nat) (p : Cell) (new : List Cell) (K : fP → Option α) : Option α :=
 match p,Nat.beq new.length sz with
 | .ptr lv sl aa i off, true => match gL m lv sl with
  |some (.box v cs)=>match Nat.beq v aa&&Nat.beq i 0&&Nat.ble (off+sz) cs.length with
   |true=>K (.bC { val:=.gN [],cv:=[(lv,sl,some (.box v (bq.splice cs off new)))],bR:=[],rd:=[bw lv sl] })
   |false=>none
  | some (.row v t l) => match Nat.beq v aa && Nat.ble (off + sz) t.size, lz m new with
   | true, some (new, ks) => match Aq ks lv sl with
    |true=>none
    |false=>Option.bind l[i]? fun x=>bE (xK t (bq.splice (gS t x) off new)) fun y=>
     K (.bC { val:=.gN [],cv:=jK ks++[(lv,sl,some (.row v t (l.set i y)))],bR:=[],rd:=bw lv sl :: gO ks })
   |_,_=>none
  |some (.set _ _)=>none
  |none=>none
 |_,_=>none
def NN (s:S2) (row:Bool) (lv sl aH sz bytes:Nat) (x y:Cell) (e:Option Ty) (K:fP→Option α):Option α:=
 match x with
 | .nil true => nH s.mem y e fun n => match Nat.beq n.t.size sz with
  |true=>aM (room n.l.length bytes) (match row with
   |false=>K (.bC { val:=.c (.sl n.t n.l (.app aH)),cv:=[],bR:=[(aH,true)],rd:=ri y })
   |true=>K (.bC { val:=.c (.ref lv sl aH n.t),cv:=[(lv,sl,some (.row aH n.t n.l))],bR:=[],rd:=ri y }))
  |false=>none
 | .sl t l .full => nH s.mem y (some t) fun n => match Nat.beq t.size sz, iI n.t t n.l with
  |true,some news=>aM (room (l.length+news.length) bytes) (match row with
   |false=>K (.bC { val:=.c (.sl t (l++news) (.app aH)),cv:=[],bR:=[(aH,true)],rd:=ri y })
   |true=>aM (l.isEmpty || !news.isEmpty) (K (.bC { val:=.c (.ref lv sl aH t),cv:=[(lv,sl,some (.row aH t (l++news)))],bR:=[],rd:=ri y })))
  |_,_=>none
 | .sl t l (.app v) => nH s.mem y (some t) fun n => match Nat.beq t.size sz, iI n.t t n.l, row, s.aB.get? v with
  |true,some news,false,some ()=>aM (room (l.length+news.length) bytes)
   (K (.bC { val:=.c (.sl t (l++news) (.app aH)),cv:=[],bR:=[(v,false),(aH,true)],rd:=jw v :: ri y }))
  |_,_,_,_=>none
 | .ref bV cS aa t => bE (rowOf s.mem bV cS aa) fun r => nH s.mem y (some t) fun n => match Nat.beq t.size sz, iI r.t t r.l, iI n.t t n.l with
  |true,some l,some news=>aM (room (l.length+news.length) bytes)
   (K (.bC { val:=.c (.ref bV cS aH t),cv:=[(bV,cS,some (.row aH t (l++news)))],bR:=[],rd:=bw bV cS :: ri y }))
  |_,_,_=>none
 | .iT bV cS aa t off len => bE (rowOf s.mem bV cS aa) fun r => nH s.mem y (some t) fun n => match Nat.beq t.size sz, iI r.t t r.l, iI n.t t n.l with
  |true,some l,some news=>aM (decide (off+len≤l.length)&&room (len+news.length) bytes)
   (K (.bC { val:=.c (.ref bV cS aH t),cv:=[(bV,cS,some (.row aH t ((l.drop off).take len++news)))],bR:=[],rd:=bw bV cS :: ri y }))
  |_,_,_=>none
 |_=>none
def tJ (x:Option bA) (s:S2) (K:Option Nat→Option α):Option α:=
 match x with
 |none=>K none
 |some o=>EU (ir s o) fun n=>K (some n)
def nI {β : Type} (l:List β) (lo hi:Option Nat):List β:=
 match lo,hi with
 |none,none=>l
 |some a,none=>l.drop a
 |none,some b=>l.take b
 |some a,some b=>(l.drop a).take (b-a)
def lZ (n:Nat) (lo hi:Option Nat):Bool:=
 match lo,hi with
 |none,none=>true
 |some a,none=>decide (a≤n)
 |none,some b=>decide (b≤n)
 |some a,some b=>decide (a≤b)&&decide (b≤n)
def yH (lo:Option Nat):Nat:=lo.getD 0
def Cell.isRow:Cell→Bool
 |.ref ..=>true
 |.iT ..=>true
 |_=>false
def V2.isRow:V2→Bool
 |.c x=>x.isRow
 |_=>false
def Zw (m:List (Tr E2)) (sz aH:Nat) (x:Cell) (lo hi:Option Nat) (K:fP→Option α):Option α:=
 match x with
 |.ref lv sl aa t=>bE (rowOf m lv sl aa) fun r=>match Nat.beq t.size sz,iI r.t t r.l with
  |true,some l=>aM (lZ l.length lo hi) (K (.bC { val:=.c (.ref lv sl aH t),cv:=[(lv,sl,some (.row aH t (nI l lo hi)))],bR:=[],rd:=[bw lv sl] }))
  |_,_=>none
 |_=>none
def Ke (m : List (Tr E2)) (sz : Nat) (x : Cell) (lo hi mx : Option Nat) (K : Cell → Option α) : Option α :=
 match x with
 | .sl t l o => match Nat.beq t.size sz with
  | true => match mx with
   | none => aM (lZ l.length lo hi) (match o with
    |.bB=>K (.sl t (nI l lo hi) .bB)
    |.full=>match hi with
     |none=>K (.sl t (nI l lo hi) .full)
     |some _=>K (.sl t (nI l lo hi) .d)
    |_=>K (.sl t (nI l lo hi) .d))
   |some m=>match o,hi with
    |.bB,_=>none
    |_,none=>none
    |_,some h=>aM (lZ l.length lo hi&&Nat.beq h m) (K (.sl t (nI l lo hi) .full))
  |false=>none
 |.nil f=>match mx with
  |none=>aM (lZ 0 lo hi) (K (.nil f))
  |some _=>none
 |.ref lv sl aa t=>match Nat.beq t.size sz,mx with
  |true,none=>bE (rowOf m lv sl aa) fun r=>aM (lZ r.l.length lo hi) (K (.iT lv sl aa t (yH lo) (hi.getD r.l.length-yH lo)))
  |_,_=>none
 |.iT lv sl aa t off len=>match Nat.beq t.size sz,mx with
  |true,none=>aM (lZ len lo hi) (K (.iT lv sl aa t (off+yH lo) (hi.getD len-yH lo)))
  |_,_=>none
 |_=>none
end
inductive fC where
 |int (k:IntKind)
 |bool
 |er
 |str
 |sl (t:Ty) (o:Ow)
 |nil (full:Bool)
 |ref (lv sl aa:Nat) (t:Ty)
 |ptr (lv sl aa i off:Nat)
 |eW (t:Ty) (off:Nat)
 |mp (lv sl aa:Nat)
 deriving Inhabited
inductive sA where
 |c (x:fC)
 |agg (l:List fC)
 |fB (f:Nat) (l:List fC)
 deriving Inhabited
inductive Mm where
 |row (aa:Nat) (t:Ty)
 |box (aa:Nat) (l:List fC)
 |set (aa:Nat)
 deriving Inhabited
@[reducible] def qn:List Ty→Ty
 |[]=>.unit
 |[a]=>a
 |a :: b :: r=>.prod a (qn (b :: r))
def unpack:(ts:List Ty)→(qn ts).den→List eS
 |[],_=>[]
 |[a],x=>[⟨a,x⟩]
 |a :: b :: r,x=>⟨a,x.1⟩ :: unpack (b :: r) x.2
def pack:(ts:List Ty)→List eS→Option (qn ts).den
 |[],[]=>some ()
 |[a],[d]=>tI d.t a d.v
 |a :: b :: r,d :: ds=>match tI d.t a d.v,pack (b :: r) ds with
  |some x,some y=>some (x,y)
  |_,_=>none
 |_,_=>none
def fC.fill:fC→List eS→Option (Cell×List eS)
 |.int _,⟨.int k,a⟩ :: r=>some (.int k a,r)
 |.bool,⟨.bool,b⟩ :: r=>some (.bool b,r)
 |.er,⟨.bool,b⟩ :: r=>some (.er b,r)
 |.str,⟨.str,s⟩ :: r=>some (.str s,r)
 |.sl _ o,⟨.sl t,l⟩ :: r=>some (.sl t l o,r)
 |.nil f,r=>some (.nil f,r)
 |.ref lv sq aa t,r=>some (.ref lv sq aa t,r)
 |.ptr lv sq aa i off,r=>some (.ptr lv sq aa i off,r)
 |.eW _ off,⟨t,x⟩ :: r=>some (.eW t x off,r)
 |.mp lv sq aa,r=>some (.mp lv sq aa,r)
 |_,_=>none
def cj:List fC→List eS→Option (List Cell×List eS)
 |[],r=>some ([],r)
 | c :: cs, r => match c.fill r with
  |some (x,r')=>match cj cs r' with
   |some (xs,r'')=>some (x :: xs,r'')
   |none=>none
  |none=>none
def sA.fill:sA→List eS→Option (V2×List eS)
 |.c x,r=>match x.fill r with
  |some (y,r')=>some (.c y,r')
  |none=>none
 |.agg l,r=>match cj l r with
  |some (y,r')=>some (.agg y,r')
  |none=>none
 |.fB f l,r=>match cj l r with
  |some (y,r')=>some (.fB f y,r')
  |none=>none
def Mm.fill:Mm→List eS→Option (E2×List eS)
 |.row aa _,⟨.sl t,l⟩ :: r=>some (.row aa t l,r)
 |.box aa l,r=>match cj l r with
  |some (y,r')=>some (.box aa y,r')
  |none=>none
 |.set aa,⟨.sl .str,l⟩ :: r=>some (.set aa l,r)
 |_,_=>none
abbrev Ren:=List (Nat×Option Nat)
def fC.get:fC→Cell→Option (List eS×Ren)
 |.int k,.int k' a=>match decEq k k' with
  |.isTrue _=>some ([⟨.int k',a⟩],[])
  |.isFalse _=>none
 |.bool,.bool b=>some ([⟨.bool,b⟩],[])
 |.er,.er b=>some ([⟨.bool,b⟩],[])
 |.str,.str s=>some ([⟨.str,s⟩],[])
 |.sl t o,.nil f=>match o,f with
  |.d,_=>some ([⟨.sl t,[]⟩],[])
  |.bB,_=>some ([⟨.sl t,[]⟩],[])
  |.full,true=>some ([⟨.sl t,[]⟩],[])
  |.app v,true=>some ([⟨.sl t,[]⟩],[(v,none)])
  |_,_=>none
 |.sl _ o,.sl t' l o'=>match o,o' with
  |.bB,_=>some ([⟨.sl t',l⟩],[])
  |.d,.bB=>none
  |.d,_=>some ([⟨.sl t',l⟩],[])
  |.full,.full=>some ([⟨.sl t',l⟩],[])
  |.app v,.full=>some ([⟨.sl t',l⟩],[(v,none)])
  |.app v,.app v'=>some ([⟨.sl t',l⟩],[(v,some v')])
  |_,_=>none
 |.nil true,.nil true=>some ([],[])
 |.nil false,.nil _=>some ([],[])
 |.ref lv sq aa t,.ref bV sq' fN t'=>match Nat.beq lv bV&&Nat.beq sq sq',decEq t t' with
  |true,.isTrue _=>some ([],[(aa,some fN)])
  |_,_=>none
 |.ptr lv sq aa i off,.ptr bV sq' fN i' off'=>match Nat.beq lv bV&&Nat.beq sq sq'&&Nat.beq i i'&&Nat.beq off off' with
  |true=>some ([],[(aa,some fN)])
  |false=>none
 |.eW _ off,.eW t' x off'=>match Nat.beq off off' with
  |true=>some ([⟨t',x⟩],[])
  |false=>none
 |.mp lv sq aa,.mp bV sq' fN=>match Nat.beq lv bV&&Nat.beq sq sq' with
  |true=>some ([],[(aa,some fN)])
  |false=>none
 |_,_=>none
def xL:List fC→List Cell→Option (List eS×Ren)
 |[],[]=>some ([],[])
 |c :: cs,x :: xs=>match c.get x,xL cs xs with
  |some (d,r),some (ds,rs)=>some (d++ds,r++rs)
  |_,_=>none
 |_,_=>none
def sA.get:sA→V2→Option (List eS×Ren)
 |.c x,.c y=>x.get y
 |.agg l,.agg cs=>xL l cs
 |.fB f l,.fB f' cs=>match Nat.beq f f' with
  |true=>xL l cs
  |false=>none
 |_,_=>none
def Mm.get:Mm→E2→Option (List eS×Ren)
 |.row aa _,.row fN t' l=>some ([⟨.sl t',l⟩],[(aa,some fN)])
 |.box aa l,.box fN cs=>match xL l cs with
  |some (d,r)=>some (d,(aa,some fN) :: r)
  |none=>none
 |.set aa,.set fN l=>some ([⟨.sl .str,l⟩],[(aa,some fN)])
 |_,_=>none
structure bJ where
 slots:List (Nat×sA)
 outer:List (List (Nat×sA))
 mem:List (Nat×Nat×Mm)
 lvs:Nat
 aB:List Nat
 nv:Nat
 tys:List Ty
 deriving Inhabited
def mH:List (Nat×sA)→List eS→Tr V2→Option (Tr V2×List eS)
 |[],r,t=>some (t,r)
 |(k,v) :: l,r,t=>match v.fill r with
  |some (x,r')=>mH l r' (t.set k (some x))
  |none=>none
def sB:List (List (Nat×sA))→List eS→Option (List (Tr V2)×List eS)
 |[],r=>some ([],r)
 | x :: l, r => match mH x r .lf with
  |some (t,r')=>match sB l r' with
   |some (ts,r'')=>some (t :: ts,r'')
   |none=>none
  |none=>none
def uZ:List (Nat×Nat×Mm)→List eS→List (Tr E2)→Option (List (Tr E2)×List eS)
 |[],r,m=>some (m,r)
 |(lv,sl,e) :: l,r,m=>match e.fill r with
  |some (x,r')=>uZ l r' (Al m lv sl (some x))
  |none=>none
def EW:List Nat→Tr Unit→Tr Unit
 |[],t=>t
 |v :: r,t=>EW r (t.set v (some ()))
def bJ.st (T:bJ) (ds:List eS):Option S2:=
 match mH T.slots ds .lf with
 | some (sl, r) => match sB T.outer r with
  |some (os,r)=>match uZ T.mem r (List.replicate T.lvs .lf) with
   |some (m,[])=>some { slots:=sl,outer:=os,mem:=m,aB:=EW T.aB .lf,nv:=T.nv }
   |_=>none
  |none=>none
 |none=>none
def oo (s:Tr V2):List (Nat×sA)→Option (List eS×Ren)
 |[]=>some ([],[])
 |(k,v) :: l=>match (s.get? k).bind v.get,oo s l with
  |some (d,r),some (ds,rs)=>some (d++ds,r++rs)
  |_,_=>none
def oq:List (Tr V2)→List (List (Nat×sA))→Option (List eS×Ren)
 |[],[]=>some ([],[])
 |t :: ts,x :: xs=>match oo t x,oq ts xs with
  |some (d,r),some (ds,rs)=>some (d++ds,r++rs)
  |_,_=>none
 |_,_=>none
def Ar (m:List (Tr E2)):List (Nat×Nat×Mm)→Option (List eS×Ren)
 |[]=>some ([],[])
 |(lv,sl,e) :: l=>match (gL m lv sl).bind e.get,Ar m l with
  |some (d,r),some (ds,rs)=>some (d++ds,r++rs)
  |_,_=>none
def sZ:Ren→Nat→Option Nat
 |[],_=>none
 |(a,w) :: r,v=>match Nat.beq a v with
  |true=>w
  |false=>sZ r v
def oeq:Option Nat→Option Nat→Bool
 |none,none=>true
 |some a,some b=>Nat.beq a b
 |_,_=>false
def Qv (nv snv:Nat) (σ : Ren):Bool:=
 σ.all fun p=>Nat.blt p.1 nv&&oeq (sZ σ p.1) p.2 &&
  (match p.2 with
   |none=>true
   |some w=>Nat.blt w snv && σ.all fun q=>Nat.beq q.1 p.1 || !oeq q.2 p.2)
def EY (nv:Nat) (σ : Ren) (t:Tr Unit):List Nat→Bool
 |[]=>true
 |v :: r=>Nat.blt v nv&&(match sZ σ v with
  |none=>true
  |some w=>(t.get? w).isSome)&&EY nv σ t r
def bJ.get (T:bJ) (s:S2):Option (List eS):=
 match oo s.slots T.slots,oq s.outer T.outer,Ar s.mem T.mem with
 |some (d,r),some (ds',rs'),some (ds,rs)=>
  match Nat.beq T.lvs s.mem.length&&Qv T.nv s.nv (r++(rs'++rs))&&EY T.nv (r++(rs'++rs)) s.aB T.aB with
  |true=>some (d++(ds'++ds))
  |false=>none
 |_,_,_=>none
inductive qy where
 |c (x:fC)
 |agg (l:List fC)
 |fB (f:Nat)
 |box (l:List fC)
 deriving Inhabited
structure Callee where
 args:List qy
 ta:List Ty
 res:List (Bool×List fC)
 tr:List Ty
 rk:Nat
 F:(qn ta).den→Option (qn tr).den
abbrev bG:=List (AX×bJ)
@[reducible] def nJ:bG→Ty
 |[]=>.unit
 |[x]=>qn x.2.tys
 |x :: y :: r=>.sum (qn x.2.tys) (nJ (y :: r))
structure Hr where
 T:bJ
 outs:bG
 F:(qn T.tys).den→Option (nJ outs).den
structure au where
 fns:Nat→Option sQ
 Gm:Nat→Option Callee
 loops:Nat→Nat→AC→Option Hr
 Hs:Nat→Nat→Option bG
 Qw:Nat→Nat→Option bG
 Kf:Nat→Nat→Option (Nat×Ty)
 unr:Nat→Nat→Bool
 Mn:Nat→Nat→Option Ty
def au.sh (E:au) (g:Nat):Bool:=((E.fns g).map (·.sh)).getD false
def fC.arg (m:List (Tr E2)) (agg:Bool):fC→Cell→Option (List eS×List (Nat×Nat)×List Bool)
 |.int k,.int k' a=>match decEq k k' with
  |.isTrue _=>some ([⟨.int k',a⟩],[],[])
  |.isFalse _=>none
 |.bool,.bool b=>some ([⟨.bool,b⟩],[],[])
 |.str,.str s=>some ([⟨.str,s⟩],[],[])
 |.sl t o,.nil _=>match o with
  |.d=>some ([⟨.sl t,[]⟩],[],[])
  |.bB=>some ([⟨.sl t,[]⟩],[],[])
  |_=>none
 |.sl _ o,.sl t' l o'=>match o,o' with
  |.bB,_=>some ([⟨.sl t',l⟩],[],[])
  |.d,.bB=>none
  |.d,_=>some ([⟨.sl t',l⟩],[],[])
  |_,_=>none
 |.sl _ o,.ref lv sq aa _=>match rowOf m lv sq aa,o,agg with
  |some r,.bB,false=>some ([⟨.sl r.t,r.l⟩],[],[])
  |some r,.bB,true=>some ([⟨.sl r.t,r.l⟩],[(lv,sq)],[])
  |some r,.d,true=>some ([⟨.sl r.t,r.l⟩],[(lv,sq)],[])
  |_,_,_=>none
 |.sl _ o,.iT lv sq aa _ off len=>match rowOf m lv sq aa,o,agg with
  |some r,.bB,false=>some ([⟨.sl r.t,(r.l.drop off).take len⟩],[],[decide (off+len≤r.l.length)])
  |_,_,_=>none
 |_,_=>none
def As (m:List (Tr E2)):List fC→List Cell→Option (List eS×List (Nat×Nat)×List Bool)
 |[],[]=>some ([],[],[])
 |c :: cs,x :: xs=>match c.arg m true x,As m cs xs with
  |some (d,k,b),some (ds,ks,bs)=>some (d++ds,k++ks,b++bs)
  |_,_=>none
 |_,_=>none
def qy.arg (m:List (Tr E2)):qy→V2→Option (List eS×List (Nat×Nat)×List Bool)
 |.c x,.c y=>x.arg m false y
 |.agg l,.agg cs=>As m l cs
 |.fB f,.fB f' []=>match Nat.beq f f' with
  |true=>some ([],[],[])
  |false=>none
 |_,_=>none
def Dd (m:List (Tr E2)):List qy→List V2→Option (List eS×List (Nat×Nat)×List Bool)
 |[],[]=>some ([],[],[])
 |p :: ps,x :: xs=>match p.arg m x,Dd m ps xs with
  |some (d,k,b),some (ds,ks,bs)=>some (d++ds,k++ks,b++bs)
  |_,_=>none
 |_,_=>none
def wv {α : Type} (l:List Bool) (k:Option α):Option α:=
 match l with
 |[]=>k
 |b :: r=>aM b (wv r k)
def Zx (m:List (Tr E2)):Cell→Option Cell
 |.int k a=>some (.int k a)
 |.bool b=>some (.bool b)
 |.str s=>some (.str s)
 |.raw v=>some (.raw v)
 |.nil _=>some (.nil false)
 |.sl t l _=>some (.sl t l .d)
 |.ref lv sl aa _=>match rowOf m lv sl aa with
  |some r=>some (.sl r.t r.l .d)
  |none=>none
 |.iT lv sl aa _ off len=>match rowOf m lv sl aa with
  |some r=>some (.sl r.t ((r.l.drop off).take len) .d)
  |none=>none
 |_=>none
def Uw (m:List (Tr E2)):List Cell→Option (List Cell)
 |[]=>some []
 |x :: r=>match Zx m x,Uw m r with
  |some y,some ys=>some (y :: ys)
  |_,_=>none
def fC.j8 (m : List (Tr E2)) (agg : Bool) : fC → Cell → Option (List eS × List Bool)
 |.int k,.int k' a=>match decEq k k' with
  |.isTrue _=>some ([⟨.int k',a⟩],[])
  |.isFalse _=>none
 |.bool,.bool b=>some ([⟨.bool,b⟩],[])
 |.str,.str s=>some ([⟨.str,s⟩],[])
 |.sl t o,.nil _=>match o with
  |.d=>some ([⟨.sl t,[]⟩],[])
  |.bB=>some ([⟨.sl t,[]⟩],[])
  |_=>none
 |.sl _ o,.sl t' l _=>match o with
  |.d=>some ([⟨.sl t',l⟩],[])
  |.bB=>some ([⟨.sl t',l⟩],[])
  |_=>none
 |.sl _ o,.ref lv sq aa _=>match rowOf m lv sq aa,o with
  |some r,.d=>some ([⟨.sl r.t,r.l⟩],[])
  |some r,.bB=>some ([⟨.sl r.t,r.l⟩],[])
  |_,_=>none
 |.sl _ o,.iT lv sq aa _ off len=>match rowOf m lv sq aa,o with
  |some r,.d=>some ([⟨.sl r.t,(r.l.drop off).take len⟩],[decide (off+len≤r.l.length)])
  |some r,.bB=>some ([⟨.sl r.t,(r.l.drop off).take len⟩],[decide (off+len≤r.l.length)])
  |_,_=>none
 | .sl t o, .eA lv sq aa off n sz => match agg, gL m lv sq with
  | false, some (.box v cs) => match Nat.beq v aa && Nat.ble (off + n * sz) cs.length, (Uw m ((cs.drop off).take (n * sz))).bind fun ds => Ao t (bq.chunk sz n ds) with
   |true,some l=>match o with
    |.d=>some ([⟨.sl t,l⟩],[])
    |.bB=>some ([⟨.sl t,l⟩],[])
    |_=>none
   |_,_=>none
  |_,_=>none
 |_,_=>none
def wz (m:List (Tr E2)):List fC→List Cell→Option (List eS×List Bool)
 |[],[]=>some ([],[])
 |c :: cs,x :: xs=>match c.j8 m true x,wz m cs xs with
  |some (d,b),some (ds,bs)=>some (d++ds,b++bs)
  |_,_=>none
 |_,_=>none
def qy.j8 (m:List (Tr E2)):qy→V2→Option (List eS×List Bool)
 |.c x,.c y=>x.j8 m false y
 |.agg l,.agg cs=>wz m l cs
 |.fB f,.fB f' []=>match Nat.beq f f' with
  |true=>some ([],[])
  |false=>none
 |_,_=>none
def wA (m:List (Tr E2)):List qy→List V2→Option (List eS×List Bool)
 |[],[]=>some ([],[])
 |p :: ps,x :: xs=>match p.j8 m x,wA m ps xs with
  |some (d,b),some (ds,bs)=>some (d++ds,b++bs)
  |_,_=>none
 |_,_=>none
def xM (m:List (Tr E2)):V2→List (Nat×Nat×Nat)
 |.c (.eA lv sl _ _ _ _)=>bw lv sl :: (match gL m lv sl with
  |some (.box _ cs)=>cs.flatMap ri
  |_=>[])
 |v=>ET v
def fC.flat:fC→Bool
 |.int _|.bool|.str=>true
 |_=>false
def y7 (res:List (Bool×List fC)):Bool:=res.all fun r=>r.2.all fC.flat
def EZ:List qy→Option (List fC×List qy)
 |.box l :: r=>some (l,r)
 |_=>none
def dtC:Cell→Option Cell
 |.int k a=>some (.int k a)
 |.bool b=>some (.bool b)
 |.str s=>some (.str s)
 |.nil _=>some (.nil false)
 |.sl _ _ .bB=>none
 |.sl t l _=>some (.sl t l .d)
 |_=>none
def cE:List qy→List eS→Option (List V2×List eS)
 |[],r=>some ([],r)
 | p :: ps, r => match (match p with
   |.c x=>sA.fill (.c x) r
   |.agg l=>sA.fill (.agg l) r
   |.fB f=>some (.fB f [],r)
   |.box _=>none) with
  |some (x,r')=>match cE ps r' with
   |some (xs,r'')=>some (x :: xs,r'')
   |none=>none
  |none=>none
def gI:List (Bool×List fC)→List eS→Option (List (Bool×List Cell)×List eS)
 |[],r=>some ([],r)
 | (a, l) :: ps, r => match cj l r with
  |some (x,r')=>match gI ps r' with
   |some (xs,r'')=>some ((a,x) :: xs,r'')
   |none=>none
  |none=>none
def mT:List (Bool×List Cell)→Option V2
 |[(a,cs)]=>Am a cs
 |vs=>some (.gN vs)
def gB:Nat→List V2→Tr V2→Tr V2
 |_,[],t=>t
 |i,x :: r,t=>gB (i+1) r (t.set i (some x))
def mC:fC→Cell→Option (List eS)
 |.int k,.int k' a=>match decEq k k' with
  |.isTrue _=>some [⟨.int k',a⟩]
  |.isFalse _=>none
 |.bool,.bool b=>some [⟨.bool,b⟩]
 |.str,.str s=>some [⟨.str,s⟩]
 |.sl t .d,.nil _=>some [⟨.sl t,[]⟩]
 |.sl _ .d,.sl t' l _=>some [⟨.sl t',l⟩]
 |_,_=>none
def fe:List fC→List Cell→Option (List eS)
 |[],[]=>some []
 |c :: cs,x :: xs=>match mC c x,fe cs xs with
  |some d,some ds=>some (d++ds)
  |_,_=>none
 |_,_=>none
def Ht:List fC→List Cell→Option (List eS)
 |[],[]=>some []
 |c :: cs,x :: xs=>match (dtC x).bind (mC c),Ht cs xs with
  |some d,some ds=>some (d++ds)
  |_,_=>none
 |_,_=>none
def NO:List qy→List V2→Option (List eS)
 |[],[]=>some []
 |.c c :: ps,.c x :: xs=>match (dtC x).bind (mC c),NO ps xs with
  |some d,some ds=>some (d++ds)
  |_,_=>none
 |.agg l :: ps,.agg cs :: xs=>match Ht l cs,NO ps xs with
  |some d,some ds=>some (d++ds)
  |_,_=>none
 |_,_=>none
def TL (top:Nat):Cell→Bool
 |.ref lv _ _ _=>Nat.ble top lv
 |.iT lv _ _ _ _ _=>Nat.ble top lv
 |_=>true
def hiR (top:Nat) (vs:List (Bool×List Cell)):Bool:=vs.all fun v=>v.2.all (TL top)
def Kg (m:List (Tr E2)) (rk k:Nat):Cell→Bool
 |.ref lv sl aa t=>Nat.beq k rk&&(match rowOf m lv sl aa with
  |some r=>Nat.beq r.t.size t.size
  |none=>false)
 |.nil true=>true
 |.iT ..=>false
 |_=>!Nat.beq k rk
def Ux (m:List (Tr E2)) (rk:Nat):Nat→List Cell→Bool
 |_,[]=>true
 |k,c :: r=>Kg m rk k c&&Ux m rk (k+1) r
def De (m:List (Tr E2)) (rk:Nat):Nat→List (Bool×List Cell)→Bool
 |_,[]=>true
 |k,(_,cs) :: r=>Ux m rk k cs&&De m rk (k+64) r
def Zy (m:List (Tr E2)) (rk:Nat) (vs:List (Bool×List Cell)):Bool:=
 match Nat.beq rk 0 with
 |true=>true
 |false=>De m rk 1 vs
def Df (rk lv sl aa k:Nat) (c:Cell):Option (Cell×List SL):=
 match Nat.beq k rk with
 |true=>match c with
  |.sl t l _=>some (.ref lv sl aa t,[⟨t,l⟩])
  |_=>none
 |false=>some (c,[])
def rj (rk lv sl aa:Nat):Nat→List Cell→Option (List Cell×List SL)
 |_,[]=>some ([],[])
 |k,c :: r=>match Df rk lv sl aa k c,rj rk lv sl aa (k+1) r with
  |some (x,u),some (xs,us)=>some (x :: xs,u++us)
  |_,_=>none
def Dg (rk lv sl aa:Nat):Nat→List (Bool×List Cell)→Option (List (Bool×List Cell)×List SL)
 |_,[]=>some ([],[])
 |k,(a,cs) :: r=>match rj rk lv sl aa k cs,Dg rk lv sl aa (k+64) r with
  |some (xs,us),some (ys,vs)=>some ((a,xs) :: ys,us++vs)
  |_,_=>none
section
variable {α : Type}
def Zz (s:S2) (r:zB) (K:Bool→List Cell→Option α):Option α:=
 match r with
 |.t n=>match s.slots.get? n with
  |some (.c x)=>K false [x]
  |some (.agg cs)=>K true cs
  |_=>none
 |.cell n sz agg=>gT (s.slots.get? n) fun p=>Ml s.mem sz p fun cs=>match agg,cs with
  |true,cs=>K true cs
  |false,[x]=>K false [x]
  |_,_=>none
def xN (s:S2):List zB→(List (Bool×List Cell)→Option α)→Option α
 |[],K=>K []
 |r :: rs,K=>Zz s r fun a cs=>xN s rs fun l=>K ((a,cs) :: l)
end
def iL (m:List (Tr E2)):List (Bool×List fC)→List (Bool×List Cell)→Option (List eS)
 |[],[]=>some []
 |(a,l) :: ps,(b,cs) :: vs=>match a==b,lz m cs,iL m ps vs with
  |true,some (cs,_),some ds=>(fe l cs).map (· ++ ds)
  |_,_,_=>none
 |_,_=>none
def Qx (m:List (Tr E2)) (top:Nat):Cell→Option Cell
 |.int k a=>some (.int k a)
 |.bool b=>some (.bool b)
 |.str s=>some (.str s)
 |.raw v=>some (.raw v)
 |.nil _=>some (.nil false)
 |.sl _ _ .bB=>none
 |.sl t l _=>some (.sl t l .d)
 | .ref lv sl aa t => match Nat.ble top lv with
  |false=>some (.ref lv sl aa t)
  |true=>match rowOf m lv sl aa with
   |some r=>some (.sl r.t r.l .d)
   |none=>none
 | .iT lv sl aa t off len => match Nat.ble top lv with
  |false=>some (.iT lv sl aa t off len)
  |true=>match rowOf m lv sl aa with
   |some r=>some (.sl r.t ((r.l.drop off).take len) .d)
   |none=>none
 |_=>none
def Au (m:List (Tr E2)) (top:Nat):List Cell→Option (List Cell)
 |[]=>some []
 |x :: r=>match Qx m top x,Au m top r with
  |some y,some ys=>some (y :: ys)
  |_,_=>none
def xO (m:List (Tr E2)) (top:Nat):List (Bool×List Cell)→Option (List (Bool×List Cell))
 |[]=>some []
 |(a,x) :: r=>match Au m top x,xO m top r with
  |some y,some ys=>some ((a,y) :: ys)
  |_,_=>none
def Xf (top:Nat):Cell→Bool
 |.ref lv _ _ _=>Nat.ble top lv
 |.iT lv _ _ _ _ _=>Nat.ble top lv
 |_=>false
def ZA (m:List (Tr E2)) (top:Nat) (c:Cell):Option Cell:=
 match c with
 |.nil b=>match Nat.beq top 0 with
  |true=>some (.nil false)
  |false=>some (.nil b)
 |.sl t l (.app v)=>match Nat.beq top 0 with
  |true=>some (.sl t l .d)
  |false=>some (.sl t l (.app v))
 |.sl t l .full=>match Nat.beq top 0 with
  |true=>some (.sl t l .d)
  |false=>some (.sl t l .full)
 |c=>Qx m top c
def Qy (m : List (Tr E2)) (top rk lv sl aa : Nat) (e : Option Ty) (k : Nat) (c : Cell) : Option (Cell × List SL) :=
 match Nat.beq k rk with
 | true => match c with
  |.nil true=>e.map fun t=>(.ref lv sl aa t,[⟨t,[]⟩])
  | .ref bV cS fN t => match Nat.ble top bV, rowOf m bV cS fN with
   |true,some r=>match Nat.beq r.t.size t.size with
    |true=>some (.ref lv sl aa r.t,[⟨r.t,r.l⟩])
    |false=>none
   |_,_=>none
  | .iT bV cS fN t off len => match Nat.ble top bV, rowOf m bV cS fN with
   |true,some r=>match Nat.beq r.t.size t.size with
    |true=>some (.ref lv sl aa r.t,[⟨r.t,(r.l.drop off).take len⟩])
    |false=>none
   |_,_=>none
  |_=>none
 |false=>match Xf top c with
  |true=>none
  |false=>(ZA m top c).map fun y=>(y,[])
def Dh (m:List (Tr E2)) (top rk lv sl aa:Nat) (e:Option Ty):Nat→List Cell→Option (List Cell×List SL)
 |_,[]=>some ([],[])
 |k,x :: r=>match Qy m top rk lv sl aa e k x,Dh m top rk lv sl aa e (k+1) r with
  |some (y,u),some (ys,us)=>some (y :: ys,u++us)
  |_,_=>none
def Av (m:List (Tr E2)) (top rk lv sl aa:Nat) (e:Option Ty):Nat→List (Bool×List Cell)→Option (List (Bool×List Cell)×List SL)
 |_,[]=>some ([],[])
 |k,(a,x) :: r=>match Dh m top rk lv sl aa e k x,Av m top rk lv sl aa e (k+64) r with
  |some (y,u),some (ys,us)=>some ((a,y) :: ys,u++us)
  |_,_=>none
section
variable {α : Type}
def Uy:AX→AX→Bool
 |.normal,.normal=>true
 |.exit a,.exit b=>Nat.beq a b
 |.ret,.ret=>true
 |_,_=>false
def ot:(os:bG)→(nJ os).den→(AX→S2→Option α)→Option α
 |[],_,_=>none
 |[x],y,K=>bE (x.2.st (unpack x.2.tys y)) fun s=>K x.1 s
 |x :: z :: r,y,K=>match y with
  |.inl a=>bE (x.2.st (unpack x.2.tys a)) fun s=>K x.1 s
  |.inr b=>ot (z :: r) b K
def l8:(os:bG)→AX→S2→Option (nJ os).den
 |[],_,_=>none
 |[x],ax,s=>match Uy x.1 ax with
  |true=>bE (x.2.get s) fun ds=>pack x.2.tys ds
  |false=>none
 |x :: z :: r,ax,s=>match Uy x.1 ax with
  |true=>bE ((x.2.get s).bind (pack x.2.tys)) fun y=>some (.inl y)
  |false=>bE (l8 (z :: r) ax s) fun y=>some (.inr y)
end
abbrev Wk:=∀ (α : Type),Nat→Nat→AC→S2→(AX→S2→Option α)→Option α
def Xg (ctx d:Nat):Nat:=(ctx+1)*1000000+d*1000
section
variable {α : Type}
def V2.Xh:V2→Bool
 |.gN _=>false
 |_=>true
def ZB (s : S2) (c : Callee) (l : List fC) (ps : List qy) (args : List V2) (K : fP → Option α) : Option α :=
 match args with
 | .c (.ptr lv sl aa i off) :: rest => match Nat.beq i 0 && Nat.beq off 0, gL s.mem lv sl with
  | true, some (.box v cs) => match Nat.beq v aa with
   | true => bE (Ht l cs) fun ds => bE (NO ps rest) fun es => bE (pack c.ta (ds ++ es)) fun x =>
    Option.bind (c.F x) fun y=>match gI c.res (unpack c.tr y) with
     |some ((true,new) :: vs,[])=>bE (mT vs) fun w=>K (.bC { val:=w,cv:=[(lv,sl,some (.box aa new))],bR:=[],rd:=bw lv sl :: rest.flatMap ET })
     |_=>none
   |false=>none
  |_,_=>none
 |_=>none
def y8 (s : S2) (K : List Cell → Option α) : Option α :=
 match s.outer with
 | [o] => match o.get? 0 with
  | some (.c (.ptr lv sl aa _ _)) => match gL s.mem lv sl with
   |some (.box v cs)=>match Nat.beq v aa with
    |true=>K cs
    |false=>none
   |_=>none
  |_=>none
 |_=>none
def Qz (E : au) (s : S2) (row d nx f : Nat) (args : List V2) (K : fP → Option α) : Option α :=
 bE (E.Gm f) fun c => match EZ c.args with
  |some (l,ps)=>match Nat.beq row 0 with
   |true=>ZB s c l ps args K
   |false=>none
  |none=>bE (Dd s.mem c.args args) fun (ds,ks,bs)=>bE (pack c.ta ds) fun x=>
  wv bs <| Option.bind (c.F x) fun y=>match gI c.res (unpack c.tr y) with
   | some (vs, []) => match Nat.beq row 0 with
    |true=>match Nat.beq c.rk 65535 with
     |true=>none
     |false=>bE (mT vs) fun v=>K (.bC { val:=v,cv:=jK ks,bR:=[],rd:=args.flatMap ET })
    | false => match Nat.beq (row % 65536) c.rk && !Nat.beq c.rk 0 && !Nat.beq (row / 65536) 0, Dg c.rk (s.mem.length - 1) d nx 1 vs with
     |true,some (vs,[])=>bE (mT vs) fun v=>K (.bC { val:=v,cv:=jK ks,bR:=[],rd:=args.flatMap ET })
     |true,some (vs,[u])=>match Nat.beq (row / 65536) u.t.size with
      |true=>bE (mT vs) fun v=>K (.bC { val:=v,cv:=jK ks++[(s.mem.length-1,d,some (.row nx u.t u.l))],bR:=[],rd:=args.flatMap ET })
      |false=>none
     |_,_=>none
   |_=>none
def qy.adh (m:List (Tr E2)):qy→V2→Option (List eS×List (Nat×Nat)×List Bool)
 |.c x,.c y=>x.arg m true y
 |.agg l,.agg cs=>As m l cs
 |_,_=>none
def Di (m:List (Tr E2)):List qy→List V2→Option (List eS×List (Nat×Nat)×List Bool)
 |[],[]=>some ([],[],[])
 |p :: ps,x :: xs=>match p.adh m x,Di m ps xs with
  |some (d,k,b),some (ds,ks,bs)=>some (d++ds,k++ks,b++bs)
  |_,_=>none
 |_,_=>none
def Xi (E : au) (s : S2) (f : Nat) (args : List V2) (K : fP → Option α) : Option α :=
 bE (E.Gm f) fun c=>match (EZ c.args).isNone && !Nat.beq c.rk 65535 with
  | true => bE (Di s.mem c.args args) fun (ds, ks, bs) => bE (pack c.ta ds) fun x =>
   wv bs <| Option.bind (c.F x) fun y=>match gI c.res (unpack c.tr y) with
    |some (vs,[])=>bE (mT vs) fun v=>K (.bC { val:=v,cv:=jK ks,bR:=[],rd:=args.flatMap ET })
    |_=>none
  |false=>none
def Hu (E : au) (wk : Wk) (ctx : Nat) (s : S2) (row d nx f : Nat) (args : List V2) (K : fP → Option α) : Option α :=
 match E.fns f with
 | some fn => match fn.sh with
  |false=>Qz E s row d nx f args K
  | true => match Nat.beq args.length fn.np && args.all V2.Xh with
   |false=>none
   | true =>
    let st:S2:={ slots:=gB 0 args .lf,outer:=loose s.slots :: s.outer,mem:=s.mem++[.lf],aB:=s.aB,nv:=nx }
    let back : S2 → Option α := fun s' => match s'.outer with
     | o :: os => xN s' fn.res fun vs => match Nat.beq row 0 with
      |true=>bE (xO s'.mem s.mem.length vs) fun vs=>bE (mT vs) fun v=>
       K (.all v { slots:=merge s.slots o,outer:=os,mem:=s'.mem.take s.mem.length,aB:=s'.aB,nv:=s'.nv })
      | false => match !Nat.beq (row % 65536) 0 && !Nat.beq (row / 65536) 0, Av s'.mem s.mem.length (row % 65536) (s.mem.length - 1) d s'.nv (E.Mn ctx d) 1 vs with
       | true, some (vs, [u]) => match Nat.beq (row / 65536) u.t.size with
        |true=>bE (mT vs) fun v=>
         K (.all v { slots:=merge s.slots o,outer:=os,mem:=eE (s'.mem.take s.mem.length) [(s.mem.length-1,d,some (.row s'.nv u.t u.l))],aB:=s'.aB,nv:=s'.nv+1 })
        |false=>none
       |true,some (vs,[])=>bE (mT vs) fun v=>
        K (.all v { slots:=merge s.slots o,outer:=os,mem:=s'.mem.take s.mem.length,aB:=s'.aB,nv:=s'.nv+1 })
       |_,_=>none
     |[]=>none
    match E.Qw ctx d with
    |none=>wk α (Xg ctx d) 0 fn.body st fun ax s'=>match ax with
     |.exit _=>none
     |_=>back s'
    |some os=>Option.bind (wk (nJ os).den (Xg ctx d) 0 fn.body st fun ax s'=>match ax with
     |.exit _=>none
     |_=>l8 os .ret s') fun y=>ot os y fun _ s'=>back s'
 |none=>Qz E s row d nx f args K
def QA (E : au) (s : S2) (f : Nat) (args : List V2) (K : fP → Option α) : Option α :=
 bE (E.Gm f) fun c=>match y7 c.res&&(EZ c.args).isNone && !Nat.beq c.rk 65535 with
  | true => bE (wA s.mem c.args args) fun (ds, bs) => bE (pack c.ta ds) fun x =>
   wv bs <| Option.bind (c.F x) fun y=>match gI c.res (unpack c.tr y) with
    |some (vs,[])=>bE (mT vs) fun v=>K (.bC { val:=v,cv:=[],bR:=[],rd:=args.flatMap (xM s.mem) })
    |_=>none
  |false=>none
def ck (E : au) (wk : Wk) (ctx : Nat) (s : S2) (row dst aH : Nat) (op : bL) (K : fP → Option α) : Option α :=
 match op with
 | .Gv x => bE (ir s x) fun v => match Nat.beq (row % 65536) 6 && v.isRow with
  | true => match v with
   |.c (.ref lv sl aa t)=>bE (rowOf s.mem lv sl aa) fun r=>bE (iI r.t t r.l) fun l=>
    K (.bC { val:=.c (.ref (s.mem.length-1) dst aH t),cv:=[(lv,sl,none),(s.mem.length-1,dst,some (.row aH t l))],bR:=[],rd:=[bw lv sl] })
   |_=>none
  |false=>match PO row with
  |false=>K (jJ v)
  | true => match v with
   |.c (.nil true)=>bE (E.Mn ctx dst) fun t=>match Nat.beq t.size (row / 65536) with
    |true=>K (.bC { val:=.c (.ref (s.mem.length-1) dst aH t),cv:=[(s.mem.length-1,dst,some (.row aH t []))],bR:=[],rd:=[] })
    |false=>none
   |.c (.nil _)=>none
   |.c (.sl ..)=>none
   |v=>K (jJ v)
 |.pick c a b=>uY (ir s c) fun t=>match ir s a,ir s b with
  |some (.c (.bool x)),some (.c (.bool y))=>K (cZ (.bool (cond t x y)))
  |some x,some y=>cond t (K (jJ x)) (K (jJ y))
  |some x,none=>aM t (K (jJ x))
  |none,some y=>aM (!t) (K (jJ y))
  |none,none=>none
 |.alloc z=>bE (Ak z) fun cs=>K (.bC { val:=.c (.ptr (s.mem.length-1) dst aH 0 0),cv:=[(s.mem.length-1,dst,some (.box aH cs))],bR:=[],rd:=[] })
 |.box x=>bE ((ir s x).bind V2.cells?) fun cs=>K (.bC { val:=.c (.ptr (s.mem.length-1) dst aH 0 0),cv:=[(s.mem.length-1,dst,some (.box aH cs))],bR:=[],rd:=[] })
 |.build z ps=>bE ((Ak z).bind fun cs=>Dc s cs ps) fun cs=>K (jJ (.agg cs))
 | .buildSlice sz n z ps => match Nat.beq row 2 with
  | true => match Nat.beq n 0 with
   |true=>none
   |false=>bE ((qZ z).bind fun zc=>Dc s (List.replicate n zc).flatten (ps.map fun p=>(p.1*sz,sz,p.2))) fun cs=>
    K (.bC { val:=.c (.eA (s.mem.length-1) dst aH 0 n sz),cv:=[(s.mem.length-1,dst,some (.box aH cs))],bR:=[],rd:=[] })
  |false=>bE (E.Mn ctx dst) fun t=>bE (qZ z) fun zc=>bE (An s sz (List.replicate n zc) ps) fun (els,ks)=>match Nat.beq t.size sz,Ao t els with
  | true, some l => match Nat.beq row 0 with
   |true=>K (.bC { val:=.c (.sl t l .full),cv:=jK ks,bR:=[],rd:=gO ks })
   |false=>match Aq ks (s.mem.length-1) dst with
    |true=>none
    |false=>K (.bC { val:=.c (.ref (s.mem.length-1) dst aH t),cv:=jK ks++[(s.mem.length-1,dst,some (.row aH t l))],bR:=[],rd:=gO ks })
  |_,_=>none
 |.load sz agg x=>gT (ir s x) fun p=>Ml s.mem sz p fun cs=>bE (Am agg cs) fun v=>K (.bC { val:=v,cv:=[],bR:=[],rd:=ri p })
 |.store sz x v=>gT (ir s x) fun p=>bE ((ir s v).bind V2.cells?) fun new=>Kd s.mem sz p new K
 |.nilCheck x=>bE (ir s x) fun v=>match v with
  |.c (.ptr lv sl aa i off)=>K (cZ (.ptr lv sl aa i off))
  |.c (.eW t e off)=>K (cZ (.eW t e off))
  |.fB f cs=>K (jJ (.fB f cs))
  |_=>none
 |.bin op x y=>gT (ir s x) fun a=>gT (ir s y) fun b=>Zv op a b fun c=>K (cZ c)
 |.TT neg x y=>uY (ir s x) fun a=>uY (ir s y) fun b=>K (cZ (.bool (match neg with
  |true=>!(a==b)
  |false=>a==b)))
 | .xe neg x => match ir s x with
  |some (.c (.er b))=>match neg with
   |true=>K (cZ (.bool b))
   |false=>K (cZ (.bool (!b)))
  |_=>none
 | .qA lo n sz x => match ir s x with
  |some (.c (.ptr lv sl aa i off))=>match Nat.beq i 0&&Nat.blt lo n with
   |true=>K (cZ (.eA lv sl aa (off+lo*sz) (n-lo) sz))
   |false=>none
  |_=>none
 | .TU neg sz cells x y => match ir s x, ir s y with
  | some (.agg xs), some (.agg ys) => match Nat.beq xs.length sz && Nat.beq ys.length sz, EV xs ys cells with
   |true,some b=>K (cZ (.bool (match neg with
    |true=>!b
    |false=>b)))
   |_,_=>none
  |_,_=>none
 |.un op x=>gT (ir s x) fun a=>unK op a fun c=>K (cZ c)
 |.conv k x=>NM (ir s x) fun n=>K (cZ (.int k (k.wrap n)))
 | .field off sz agg x => match ir s x with
  |some (.agg cs)=>match Nat.ble (off+sz) cs.length,Am agg ((cs.drop off).take sz) with
   |true,some v=>K (jJ v)
   |_,_=>none
  |_=>none
 |.fieldAddr off x=>match ir s x with
  |some (.c (.ptr lv sl aa i o))=>K (cZ (.ptr lv sl aa i (o+off)))
  |some (.c (.eW t e o))=>K (cZ (.eW t e (o+off)))
  |_=>none
 | .indexAddr sz x i => NM (ir s i) fun n => match ir s x with
  |some (.c (.sl t l _))=>match Nat.beq t.size sz with
   |true=>Option.bind (idx l n) fun e=>K (cZ (.eW t e 0))
   |false=>none
  |some (.c (.ref lv sl aa t))=>match Nat.beq t.size sz with
   |true=>bE (rowOf s.mem lv sl aa) fun r=>aM (jf n r.l.length) (K (cZ (.ptr lv sl aa n.toNat 0)))
   |false=>none
  |some (.c (.iT lv sl aa t off len))=>match Nat.beq t.size sz with
   |true=>aM (jf n len) (K (cZ (.ptr lv sl aa (off+n.toNat) 0)))
   |false=>none
  |_=>none
 |.jz n sz x i=>EU (ir s i) fun k=>match ir s x with
  |some (.c (.ptr lv sl aa j o))=>NL n k fun k=>K (cZ (.ptr lv sl aa j (o+k*sz)))
  |some (.c (.eW t e o))=>NL n k fun k=>K (cZ (.eW t e (o+k*sz)))
  |_=>none
 | .oY n sz agg x i => EU (ir s i) fun k => match ir s x with
  |some (.agg cs)=>NL n k fun k=>match Nat.ble (k*sz+sz) cs.length,Am agg ((cs.drop (k*sz)).take sz) with
   |true,some v=>K (jJ v)
   |_,_=>none
  |_=>none
 |.oZ x i=>NM (ir s i) fun n=>match ir s x with
  |some (.c (.str b))=>Option.bind (idx b n) fun c=>K (cZ (.int .u8 c.toNat))
  |_=>none
 |.slice sz x lo hi mx=>gT (ir s x) fun c=>tJ lo s fun l=>tJ hi s fun h=>tJ mx s fun k=>match Nat.beq row 3&&(mx.isNone&&c.isRow) with
  |true=>Zw s.mem sz aH c l h K
  |false=>Ke s.mem sz c l h k fun v=>K (cZ v)
 |.o6 x lo hi=>match ir s x with
  |some (.c (.str b))=>tJ lo s fun lo=>tJ hi s fun hi=>aM (lZ b.length lo hi) (K (cZ (.str (nI b lo hi))))
  |_=>none
 | .extract x i => match ir s x with
  |some (.gN vs)=>match vs[i]? with
   |some (a,cs)=>bE (Am a cs) fun v=>K (jJ v)
   |none=>none
  |_=>none
 |.len x=>gT (ir s x) fun c=>match c with
  |.sl _ l _=>K (cZ (.int .i64 l.length))
  |.nil _=>K (cZ (.int .i64 0))
  |.ref lv sl aa _=>bE (rowOf s.mem lv sl aa) fun r=>K (cZ (.int .i64 r.l.length))
  |.iT _ _ _ _ _ len=>K (cZ (.int .i64 len))
  |_=>none
 |.Gw x=>gT (ir s x) fun c=>match c with
  |.nil true=>K (cZ (.int .i64 0))
  |.sl _ l .full=>K (cZ (.int .i64 l.length))
  |_=>none
 |.Eg x=>match ir s x with
  |some (.c (.str b))=>K (cZ (.int .i64 b.length))
  |_=>none
 |.Cf n=>K (cZ (.int .i64 n))
 |.W2 x=>match ir s x with
  |some (.c (.str b))=>K (cZ (.sl (.int .u8) (bx b) .d))
  |_=>none
 |.W1 x=>gT (ir s x) fun c=>match c with
  |.str _=>none
  |c=>nH s.mem c (some (.int .u8)) fun n=>bE (iI n.t (.int .u8) n.l) fun l=>K (.bC { val:=.c (.str (l.map fun n=>UInt8.ofNat n.toNat)),cv:=[],bR:=[],rd:=ri c })
 |.mkSet=>K (.bC { val:=.c (.mp (s.mem.length-1) dst aH),cv:=[(s.mem.length-1,dst,some (.set aH []))],bR:=[],rd:=[] })
 |.Gx m k=>match ir s m,ir s k with
  |some (.c (.mp lv sl aa)),some (.c (.str b))=>bE (Mk s.mem lv sl aa) fun l=>K (.bC { val:=.c (.bool (hasB l b)),cv:=[],bR:=[],rd:=[bw lv sl] })
  |_,_=>none
 |.Gy m k=>match ir s m,ir s k with
  |some (.c (.mp lv sl aa)),some (.c (.str b))=>bE (Mk s.mem lv sl aa) fun l=>K (.bC { val:=.gN [],cv:=[(lv,sl,some (.set aa (qB l b)))],bR:=[],rd:=[bw lv sl] })
  |_,_=>none
 | .Eh x y => match ir s x, ir s y with
  |some (.c (.int k a)),some (.c (.int k' b))=>match decEq k k' with
   |.isTrue _=>K (cZ (.int k (min a b)))
   |.isFalse _=>none
  |_,_=>none
 | .Ei x y => match ir s x, ir s y with
  |some (.c (.int k a)),some (.c (.int k' b))=>match decEq k k' with
   |.isTrue _=>K (cZ (.int k (max a b)))
   |.isFalse _=>none
  |_,_=>none
 |.append sz bytes x y=>gT (ir s x) fun a=>gT (ir s y) fun b=>NN s (!Nat.beq row 0) (tn row (s.mem.length-1) dst).1 (tn row (s.mem.length-1) dst).2 aH sz bytes a b (E.Mn ctx dst) K
 |.clone sz bytes x=>gT (ir s x) fun b=>match b with
  |.str _=>none
  |b=>NN s (!Nat.beq row 0) (s.mem.length-1) dst aH sz bytes (.nil true) b (E.Mn ctx dst) K
 | .copy sz x y => gT (ir s x) fun a => gT (ir s y) fun b => match a with
  |.ref lv sl aa t=>bE (rowOf s.mem lv sl aa) fun r=>nH s.mem b (some t) fun n=>match Nat.beq t.size sz,iI r.t t r.l,iI n.t t n.l with
   |true,some l,some news=>K (.bC { val:=.c (.int .i64 ((min news.length l.length:Nat):Int)),cv:=[(lv,sl,some (.row aa t (Hq news l)))],bR:=[],rd:=bw lv sl :: ri b })
   |_,_,_=>none
  |.iT lv sl aa t off len=>bE (rowOf s.mem lv sl aa) fun r=>nH s.mem b (some t) fun n=>match Nat.beq t.size sz,iI r.t t r.l,iI n.t t n.l with
   |true,some l,some news=>aM (decide (off+len≤l.length)) (K (.bC { val:=.c (.int .i64 ((min news.length len:Nat):Int)),cv:=[(lv,sl,some (.row aa t (l.take off++(news.take (min news.length len)++l.drop (off+(news.take (min news.length len)).length)))))],bR:=[],rd:=bw lv sl :: ri b }))
   |_,_,_=>none
  | .eA lv sl aa off n sz' => match gL s.mem lv sl with
   |some (.box v cs)=>nH s.mem b none fun nw=>match Nat.beq v aa&&Nat.beq sz' sz&&Nat.ble (off+n*sz) cs.length&&Nat.beq nw.t.size sz with
    |true=>K (.bC { val:=.c (.int .i64 ((min nw.l.length n:Nat):Int)),cv:=[(lv,sl,some (.box aa (bq.splice cs off ((nw.l.take (min nw.l.length n)).flatMap (gS nw.t)))))],bR:=[],rd:=bw lv sl :: ri b })
    |false=>none
   |_=>none
  |_=>none
 |.ny sz bytes z x n=>gT (ir s x) fun a=>EU (ir s n) fun k=>bE (E.Mn ctx dst) fun t=>bE ((qZ z).bind (xK t)) fun z'=>match Nat.beq t.size sz&&Nat.beq z.length sz with
  |true=>aM (room k bytes) (NN s (!Nat.beq row 0) (s.mem.length-1) dst aH sz bytes a (.sl t (List.replicate k z') .d) (some t) K)
  |false=>none
 |.makeSlice sz bytes z l c=>EU (ir s l) fun l=>EU (ir s c) fun c=>bE (E.Mn ctx dst) fun t=>bE ((qZ z).bind (xK t)) fun z'=>match Nat.beq t.size sz&&Nat.beq z.length sz with
  |true=>aM (decide (l≤c)&&room c bytes) (K (.bC { val:=.c (.ref (s.mem.length-1) dst aH t),cv:=[(s.mem.length-1,dst,some (.row aH t (List.replicate l z')))],bR:=[],rd:=[] }))
  |false=>none
 | .sliceB n sz x => gT (ir s x) fun c => match c with
  |.ptr lv sl aa i off=>match Nat.beq i 0 with
   |true=>K (cZ (.eA lv sl aa off n sz))
   |false=>none
  |_=>none
 |.makeFunc f cap=>bE ((Hp s cap).bind Ap) fun cs=>K (jJ (.fB f cs))
 | .clear sz z x => gT (ir s x) fun a => match a with
  |.ref lv sl aa t=>bE (rowOf s.mem lv sl aa) fun r=>bE ((qZ z).bind (xK t)) fun z'=>match Nat.beq t.size sz&&Nat.beq z.length sz,iI r.t t r.l with
   |true,some l=>K (.bC { val:=.gN [],cv:=[(lv,sl,some (.row aa t (List.replicate l.length z')))],bR:=[],rd:=[bw lv sl] })
   |_,_=>none
  |.iT lv sl aa t off len=>bE (rowOf s.mem lv sl aa) fun r=>bE ((qZ z).bind (xK t)) fun z'=>match Nat.beq t.size sz&&Nat.beq z.length sz,iI r.t t r.l with
   |true,some l=>aM (decide (off+len≤l.length)) (K (.bC { val:=.gN [],cv:=[(lv,sl,some (.row aa t (l.take off++List.replicate len z'++l.drop (off+len))))],bR:=[],rd:=[bw lv sl] }))
   |_,_=>none
  |_=>none
 | .compact x => gT (ir s x) fun a => match a with
  |.nil true=>K (cZ (.nil true))
  |.ref lv sl aa t=>bE (rowOf s.mem lv sl aa) fun r=>match Nat.beq t.size 1,iI r.t (.int .i64) r.l with
   |true,some l=>aM (decide (l.length<4611686018427387904)) (K (.bC { val:=.c (.ref lv sl aH (.int .i64)),cv:=[(lv,sl,some (.row aH (.int .i64) (gH l)))],bR:=[],rd:=[bw lv sl] }))
   |_,_=>none
  |_=>none
 | .sort x => gT (ir s x) fun a => match a with
  |.nil true=>K (.bC { val:=.gN [],cv:=[],bR:=[],rd:=[] })
  |.ref lv sl aa t=>bE (rowOf s.mem lv sl aa) fun r=>match Nat.beq t.size 1,iI r.t (.int .i64) r.l with
   |true,some l=>aM (decide (l.length<4611686018427387904)) (K (.bC { val:=.gN [],cv:=[(lv,sl,some (.row aa (.int .i64) (jm l)))],bR:=[],rd:=[bw lv sl] }))
   |_,_=>none
  |_=>none
 | .grow sz x n => gT (ir s x) fun a => EU (ir s n) fun _ => match a, E.Mn ctx dst with
  |.nil true,some t=>match Nat.beq t.size sz with
   |true=>K (.bC { val:=.c (.sl t [] (.app aH)),cv:=[],bR:=[(aH,true)],rd:=[] })
   |false=>none
  |_,_=>none
 |.call f args=>match Nat.beq row 7,Nat.beq row 8,Nat.beq row 9,Nat.beq row 10 with
  |false,false,false,false=>bE (Hp s args) fun aD=>Hu E wk ctx s row dst aH f aD K
  |false,false,true,_=>bE (Hp s args) fun aD=>Xi E s f aD K
  |_,_,_,_=>none
 |.um f args=>bE (Hp s args) fun aD=>match E.sh f with
  |true=>Hu E wk ctx s row dst aH f aD K
  |false=>QA E s f aD K
 |.zA x args=>match ir s x with
  |some (.fB f cap)=>bE (Hp s args) fun aD=>Hu E wk ctx s row dst aH f (aD++cap.map .c) K
  |_=>none
 |_=>none
def step2 (E : au) (wk : Wk) (ctx : Nat) (s : S2) (aH : Nat) (o : aY) (K : S2 → fP → Option α) : Option α :=
 match o.gd with
 |none=>ck E wk ctx s o.row (o.dst.getD 0) aH o.op (K s)
 |some (g,b)=>match s.slots.get? g with
  | some (.c (.bool t)) => cond t
    (let s' := { s with slots := s.slots.set g (some (.c (.bool true))) }
     match b with
     |true=>ck E wk ctx s' o.row (o.dst.getD 0) aH o.op (K s')
     |false=>K s' (jJ (.gN [])))
    (let s' := { s with slots := s.slots.set g (some (.c (.bool false))) }
     match b with
     |true=>K s' (jJ (.gN []))
     |false=>ck E wk ctx s' o.row (o.dst.getD 0) aH o.op (K s'))
  |some (.gN _)=>K s (jJ (.gN []))
  |_=>none
def y9 (E:au) (wk:Wk) (ctx:Nat):Nat→List aY→S2→(S2→Option α)→Option α
 |_,[],s,K=>K s
 |nx,o :: r,s,K=>step2 E wk ctx s nx o fun s e=>match e with
  |.bC e=>y9 E wk ctx (nx+1) r (s.app o.dst (.bC e)) K
  |.all v s'=>y9 E wk ctx s'.nv r { s'.app o.dst (.all v s') with nv:=s'.nv+r.length } K
def keq (a b:Nat×Nat×Nat):Bool:=Nat.beq a.1 b.1&&Nat.beq a.2.1 b.2.1&&Nat.beq a.2.2 b.2.2
def wB (a b:List (Nat×Nat×Nat)):Bool:=a.any fun k=>b.any (keq k)
def ou:fP→Bool
 |.bC e=>!(e.rd.isEmpty&&e.cv.isEmpty&&e.bR.isEmpty)
 |.all ..=>true
def wC:fP→fP→Bool
 |.bC a,.bC b=>wB a.rd b.wr||wB a.wr b.rd||wB a.wr b.wr
 |a,b=>ou a&&ou b
def E0 (mJ:Nat) (e:fP):List (Nat×fP)→Bool
 |[]=>true
 |(i,x) :: r=>(mJ.testBit i || !wC x e)&&E0 mJ e r
def xP (l:List (Nat×fP)):List (Nat×fP):=l.map fun x=>(x.1,match ou x.2 with
 |true=>.all (.gN []) default
 |false=>x.2)
def za (E:au) (wk:Wk) (ctx:Nat):Nat→Nat→List aY→List (Nat×fP)→S2→(S2→Option α)→Option α
 |_,_,[],_,s,K=>K s
 | i, nx, o :: r, past, s, K => step2 E wk ctx s nx o fun s e => match E0 o.mJ e past with
  |true=>match e with
   |.bC e=>za E wk ctx (i+1) (nx+1) r ((i,.bC e) :: past) (s.app o.dst (.bC e)) K
   |.all v s'=>za E wk ctx (i+1) s'.nv r ((i,.all (.gN []) default) :: xP past) { s'.app o.dst (.all v s') with nv:=s'.nv+r.length } K
  |false=>none
def tK:AC→Nat
 |.seq a b=>tK a+tK b
 |.cond _ a b=>tK a+tK b+1
 |.block _ c=>tK c+1
 |.loop c=>tK c+1
 |.region ..=>1
 |_=>0
end
def Uz {α : Type} (E:au) (wk:Wk) (ctx:Nat) (ops:List aY) (draw:Bool) (s:S2) (K:S2→Option α):Option α:=
 match draw with
 |false=>y9 E wk ctx s.nv ops { s with nv:=s.nv+ops.length } K
 |true=>za E wk ctx 0 s.nv ops [] { s with nv:=s.nv+ops.length } K
def QB (sh:Nat→Bool):bL→Bool
 |.Gv _|.pick .. | .nilCheck _|.bin .. | .TT .. | .TU .. | .un .. | .conv .. | .field .. | .fieldAddr .. | .indexAddr .. | .jz .. | .oY .. | .oZ .. | .load .. | .slice .. | .o6 .. | .extract .. | .len _|.Eg _|.Cf _|.Eh .. | .Ei ..=>true
 |.um f _=>!sh f
 |_=>false
def Dj (sh:Nat→Bool) (o:aY):Bool:=Nat.beq o.row 0&&QB sh o.op
def rq (sh:Nat→Bool):AC→Bool
 |.skip=>true
 |.region ops _=>ops.all (Dj sh)
 |.seq a b=>rq sh a&&rq sh b
 |.cond _ a b=>rq sh a&&rq sh b
 |_=>false
def ov:AC→List Nat
 |.region ops _=>ops.flatMap fun o=>o.dst.toList
 |.seq a b=>ov a++ov b
 |.cond _ a b=>ov a++ov b
 |_=>[]
def Hv:List Nat→Tr V2→Tr V2
 |[],t=>t
 |n :: r,t=>Hv r (t.set n none)
def E1 (t:Ty) (c:Cell):Option t.den:=
 match t,c with
 |.int k,.int k' a=>match decEq k k' with
  |.isTrue _=>some a
  |.isFalse _=>none
 |.bool,.bool b=>some b
 |.str,.str s=>some s
 |_,_=>none
def Kh:(t:Ty)→t.den→Option Cell
 |.int k,a=>some (.int k a)
 |.bool,b=>some (.bool b)
 |.str,s=>some (.str s)
 |_,_=>none
def Hw (t:Ty) (n:Nat) (ax:AX) (s:S2):Option t.den:=
 match ax with
 |.normal=>match s.slots.get? n with
  |some (.c c)=>E1 t c
  |_=>none
 |_=>none
def tL (s:S2) (c:bA) (b:Bool):S2:=
 match c with
 |.t n=>{ s with slots:=s.slots.set n (some (.c (.bool b))) }
 |.c _=>s
def adi (i:Nat):Nat:=match Nat.blt i 100000 with
 |true=>i+100000
 |false=>i
def adj (o:Option (List eS)) (i:Nat):Nat:=match o with
 |some _=>i
 |none=>i+200000
def walk (E : au) : Nat → Wk
 |0=>fun _ _ _ _ _ _=>none
 | n + 1 => fun α ctx i c s K =>
  match c with
  |.skip=>K .normal s
  | .region ops draw =>
   match E.Kf ctx i with
   |some m=>match ops.all (Dj E.sh) with
    |true=>Option.bind (Uz E (walk E n) ctx ops draw s (Hw m.2 m.1 .normal)) fun y=>bE (Kh m.2 y) fun y=>K .normal { s with slots:=(Hv (ov (.region ops draw)) s.slots).set m.1 (some (.c y)) }
    |false=>none
   |none=>
   match E.Hs ctx i with
   |none=>Uz E (walk E n) ctx ops draw s fun s'=>K .normal s'
   |some os=>Option.bind (Uz E (walk E n) ctx ops draw s (l8 os .normal)) fun y=>ot os y K
  |.seq a b=>walk E n α ctx i a s fun ax s'=>match ax with
   |.normal=>walk E n α ctx (i+tK a) b s' K
   |ax=>K ax s'
  | .cond c a b =>
   match E.Kf ctx i with
   | some m => match rq E.sh a && rq E.sh b with
    |true=>Option.bind (uY (ir s c) fun t=>cond t (walk E n m.2.den ctx (i+1) a (tL s c true) (Hw m.2 m.1)) (walk E n m.2.den ctx (i+1+tK a) b (tL s c false) (Hw m.2 m.1)))
     fun y=>bE (Kh m.2 y) fun y=>K .normal { s with slots:=(Hv (ov a++ov b) s.slots).set m.1 (some (.c y)) }
    |false=>none
   |none=>
   match E.Hs ctx i with
   |none=>uY (ir s c) fun t=>cond t (walk E n α ctx (i+1) a (tL s c true) K) (walk E n α ctx (i+1+tK a) b (tL s c false) K)
   | some os => Option.bind (uY (ir s c) fun t => cond t (walk E n (nJ os).den ctx (i + 1) a (tL s c true) (l8 os)) (walk E n (nJ os).den ctx (i + 1 + tK a) b (tL s c false) (l8 os)))
     fun y=>ot os y K
  | .block id c =>
   match E.Hs ctx i with
   | none => walk E n α ctx (i + 1) c s fun ax s' => match ax with
    |.exit id'=>match Nat.beq id' id with
     |true=>K .normal s'
     |false=>K (.exit id') s'
    |ax=>K ax s'
   | some os => Option.bind (walk E n (nJ os).den ctx (i + 1) c s fun ax s' => match ax with
    |.exit id'=>match Nat.beq id' id with
     |true=>l8 os .normal s'
     |false=>l8 os (.exit id') s'
    |ax=>l8 os ax s') fun y=>ot os y K
  | .loop c => match E.unr ctx i with
   |true=>walk E n α ctx (i+1) c s fun ax s'=>match ax with
    |.normal=>walk E n α ctx (adi i) (.loop c) s' K
    |ax=>K ax s'
   |false=>bE (E.loops ctx (adj ((E.loops ctx i c).bind fun L=>L.T.get s) i) c) fun L=>bE (L.T.get s) fun ds=>bE (pack L.T.tys ds) fun x=>
   Option.bind (L.F x) fun y=>ot L.outs y K
  |.exit id=>K (.exit id) s
  |.ret=>K .ret s
def Aw (E:au) (N ctx i:Nat) (body:AC) (T:bJ) (outs:bG) (rec:(qn T.tys).den→Option (nJ outs).den) (x:(qn T.tys).den):Option (nJ outs).den:=
 bE (T.st (unpack T.tys x)) fun s=>walk E N (nJ outs).den ctx (i+1) body s fun ax s'=>match ax with
  |.normal=>bE (T.get s') fun ds=>bE (pack T.tys ds) fun y=>rec y
  |ax=>l8 outs ax s'
def Mo {α β : Type} (step:(α→Option β)→α→Option β):Nat→α→Option β
 |0,_=>none
 |n+1,x=>step (Mo step n) x
def QC (E : au) (N : Nat) (f : Nat) (args : List qy) (ta : List Ty) (res : List (Bool × List fC)) (tr : List Ty) (rk : Nat) (x : (qn ta).den) : Option (qn tr).den :=
 bE (E.fns f) fun fn=>match EZ args with
 | some (l, ps) => match cj l (unpack ta x) with
  | some (cs, r) => match cE ps r with
   | some (vs, []) => match Nat.beq (vs.length + 1) fn.np with
    | true => walk E N _ 0 0 fn.body { slots := gB 0 (.c (.ptr 0 0 0 0 0) :: vs) .lf, outer := [Tr.set .lf 0 (some (.c (.ptr 0 0 0 0 0)))], mem := eE [.lf, .lf] [(0, 0, some (.box 0 cs))], aB := .lf, nv := 1 } fun ax s => match ax with
     |.exit _=>none
     |_=>y8 s fun cs'=>xN s fn.res fun vs=>match hiR 1 ((true,cs') :: vs) with
      |true=>bE (iL s.mem res ((true,cs') :: vs)) fun ds=>pack tr ds
      |false=>none
    |false=>none
   |_=>none
  |none=>none
 |none=>match cE args (unpack ta x) with
 | some (vs, []) => match Nat.beq vs.length fn.np with
  | true => walk E N _ 0 0 fn.body { slots := gB 0 vs .lf, outer := [], mem := [.lf], aB := .lf, nv := 0 } fun ax s => match ax with
   |.exit _=>none
   |_=>xN s fn.res fun vs=>match Zy s.mem rk vs && !Nat.beq rk 65535 with
    |true=>bE (iL s.mem res vs) fun ds=>pack tr ds
    |false=>none
  |false=>none
 |_=>none
end Go.Sym
