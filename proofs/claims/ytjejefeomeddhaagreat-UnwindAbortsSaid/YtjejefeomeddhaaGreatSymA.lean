/- A machine over typed data that the kernel runs with unknown data: what a cut of Go code computes becomes a Lean function. Definitions. -/
import Derived.Test.YtjejefeomeddhaaGreatEngD
set_option linter.unusedVariables false
set_option linter.unusedSimpArgs false
namespace Go.Sym
open Go Go.Eng
inductive Val where
 |mk (kind:Int) (int:Int) (text:List UInt8) (list:List Val) (cut:Bool)
 deriving Inhabited
def Val.kind:Val→Int
 |.mk k _ _ _ _=>k
def Val.int:Val→Int
 |.mk _ i _ _ _=>i
def Val.text:Val→List UInt8
 |.mk _ _ s _ _=>s
def Val.list:Val→List Val
 |.mk _ _ _ l _=>l
def Val.cut:Val→Bool
 |.mk _ _ _ _ c=>c
inductive Ty where
 |val
 |int (k:IntKind)
 |bool
 |str
 |sl (t:Ty)
 |unit
 |prod (a b:Ty)
 |sum (a b:Ty)
 deriving DecidableEq,Inhabited
@[reducible] def Ty.den:Ty→Type
 |.val=>Val
 |.int _=>Int
 |.bool=>Bool
 |.str=>List UInt8
 |.sl t=>List t.den
 |.unit=>Unit
 |.prod a b=>a.den×b.den
 |.sum a b=>a.den⊕b.den
structure Dyn where
 t:Ty
 v:t.den
def castTy (a b:Ty) (x:a.den):Option b.den:=
 match decEq a b with
 |.isTrue h=>some (h ▸ x)
 |.isFalse _=>none
def castL (a b:Ty) (x:List a.den):Option (List b.den):=
 match decEq a b with
 |.isTrue h=>some (h ▸ x)
 |.isFalse _=>none
def Ty.size:Ty→Nat
 |.val=>5
 |.int _|.bool|.str|.sl _=>1
 |.unit=>0
 |.prod a b=>a.size+b.size
 |.sum _ _=>0
inductive Ow where
 |d
 |full
 |app (v:Nat)
 |bor
 deriving Inhabited
inductive Cell where
 |int (k:IntKind) (a:Int)
 |bool (b:Bool)
 |er (b:Bool)
 |str (s:List UInt8)
 |raw (v:Value)
 |nil (full:Bool)
 |sl (t:Ty) (l:List t.den) (o:Ow)
 |ref (lv sl ver:Nat) (t:Ty)
 |refp (lv sl ver:Nat) (t:Ty) (off len:Nat)
 |ptr (lv sl ver i off:Nat)
 |dptr (t:Ty) (x:t.den) (off:Nat)
 |bref (lv sl ver off n sz:Nat)
 |mp (lv sl ver:Nat)
 deriving Inhabited
inductive V2 where
 |c (x:Cell)
 |agg (cs:List Cell)
 |clo (f:Nat) (cap:List Cell)
 |tup (vs:List (Bool×List Cell))
 deriving Inhabited
inductive E2 where
 |row (ver:Nat) (t:Ty) (l:List t.den)
 |box (ver:Nat) (cs:List Cell)
 |set (ver:Nat) (l:List (List UInt8))
 deriving Inhabited
structure S2 where
 slots:Tr V2
 outer:List (Tr V2)
 mem:List (Tr E2)
 tips:Tr Unit
 nv:Nat
 deriving Inhabited
mutual
def encV:Val→List D
 |.mk k i s l c=>[.sc (.int .u8 k),.sc (.int .i64 i),.sc (.string ⟨s.toArray⟩),.sl (encVs l),.sc (.bool c)]
def encVs:List Val→List (List D)
 |[]=>[]
 |v :: r=>encV v :: encVs r
end
def encs:(t:Ty)→t.den→List D
 |.val,v=>encV v
 |.int k,a=>[.sc (.int k a)]
 |.bool,b=>[.sc (.bool b)]
 |.str,s=>[.sc (.string ⟨s.toArray⟩)]
 |.sl t,l=>[.sl (List.map (encs t) l)]
 |.unit,_=>[]
 |.prod a b,x=>encs a x.1++encs b x.2
 |.sum _ _,_=>[]
def cellsT:(t:Ty)→t.den→List Cell
 |.val,v=>[.int .u8 v.kind,.int .i64 v.int,.str v.text,.sl .val v.list .d,.bool v.cut]
 |.int k,a=>[.int k a]
 |.bool,b=>[.bool b]
 |.str,s=>[.str s]
 |.sl t,l=>[.sl t l .d]
 |.unit,_=>[]
 |.prod a b,x=>cellsT a x.1++cellsT b x.2
 |.sum _ _,_=>[]
def pkInt (k:IntKind):List Cell→Option (Int×List Cell)
 |.int k' a :: r=>match decEq k k' with
  |.isTrue _=>some (a,r)
  |.isFalse _=>none
 |_=>none
def pkBool:List Cell→Option (Bool×List Cell)
 |.bool b :: r=>some (b,r)
 |_=>none
def pkStr:List Cell→Option (List UInt8×List Cell)
 |.str s :: r=>some (s,r)
 |_=>none
def pkSl (t:Ty):List Cell→Option (List t.den×List Cell)
 |.nil _ :: r=>some ([],r)
 |.sl t' l _ :: r=>match castL t' t l with
  |some l=>some (l,r)
  |none=>none
 |_=>none
def pkVal (cs : List Cell) : Option (Val × List Cell) :=
 match pkInt .u8 cs with
 | some (k, r) => match pkInt .i64 r with
  | some (i, r) => match pkStr r with
   | some (s, r) => match pkSl .val r with
    |some (l,r)=>match pkBool r with
     |some (c,r)=>some (.mk k i s l c,r)
     |none=>none
    |none=>none
   |none=>none
  |none=>none
 |none=>none
def packC:(t:Ty)→List Cell→Option (t.den×List Cell)
 |.val,cs=>pkVal cs
 |.int k,cs=>pkInt k cs
 |.bool,cs=>pkBool cs
 |.str,cs=>pkStr cs
 |.sl t,cs=>pkSl t cs
 |.unit,r=>some ((),r)
 | .prod a b, r => match packC a r with
  |some (x,r')=>match packC b r' with
   |some (y,r'')=>some ((x,y),r'')
   |none=>none
  |none=>none
 |.sum _ _,_=>none
def packE (t:Ty) (cs:List Cell):Option t.den:=
 match packC t cs with
 |some (x,[])=>some x
 |_=>none
def cstV:Value→Cell
 |.int k a=>.int k a
 |.bool b=>.bool b
 |.string b=>.str b.data.toList
 |v=>.raw v
def cstC:AV→Option Cell
 |.d (.sc v)=>some (cstV v)
 |.own [] .full=>some (.nil true)
 |_=>none
def cstCs:List AV→Option (List Cell)
 |[]=>some []
 |x :: r=>match cstC x,cstCs r with
  |some y,some ys=>some (y :: ys)
  |_,_=>none
def cst2:AV→Option V2
 |.agg cs=>(cstCs cs).map .agg
 |.tup []=>some (.tup [])
 |.clo f []=>some (.clo f [])
 |x=>(cstC x).map .c
def cstD:D→Option Cell
 |.sc v=>some (cstV v)
 |.sl []=>some (.nil false)
 |_=>none
def cstDs:List D→Option (List Cell)
 |[]=>some []
 |x :: r=>match cstD x,cstDs r with
  |some y,some ys=>some (y :: ys)
  |_,_=>none
def mget (m:List (Tr E2)) (lv sl:Nat):Option E2:=(m[lv]?).bind fun t=>t.get? sl
def mset (m:List (Tr E2)) (lv sl:Nat) (e:Option E2):List (Tr E2):=m.modify lv fun t=>t.set sl e
def updM (m:List (Tr E2)):List (Nat×Nat×Option E2)→List (Tr E2)
 |[]=>m
 |(lv,sl,e) :: r=>updM (mset m lv sl e) r
structure SL where
 t:Ty
 l:List t.den
def rowOf (m:List (Tr E2)) (lv sl ver:Nat):Option SL:=
 match mget m lv sl with
 |some (.row v t l)=>match Nat.beq v ver with
  |true=>some ⟨t,l⟩
  |false=>none
 |_=>none
def setOf (m:List (Tr E2)) (lv sl ver:Nat):Option (List (List UInt8)):=
 match mget m lv sl with
 |some (.set v l)=>match Nat.beq v ver with
  |true=>some l
  |false=>none
 |_=>none
def frz1 (m:List (Tr E2)):Cell→Option (Cell×List (Nat×Nat))
 |.int k a=>some (.int k a,[])
 |.bool b=>some (.bool b,[])
 |.str s=>some (.str s,[])
 |.raw v=>some (.raw v,[])
 |.nil _=>some (.nil false,[])
 |.sl _ _ .bor=>none
 |.sl t l _=>some (.sl t l .d,[])
 |.ref lv sl ver _=>match rowOf m lv sl ver with
  |some r=>some (.sl r.t r.l .d,[(lv,sl)])
  |none=>none
 |.refp lv sl ver _ off len=>match rowOf m lv sl ver with
  |some r=>some (.sl r.t ((r.l.drop off).take len) .d,[(lv,sl)])
  |none=>none
 |_=>none
def frz (m:List (Tr E2)):List Cell→Option (List Cell×List (Nat×Nat))
 |[]=>some ([],[])
 |x :: r=>match frz1 m x,frz m r with
  |some (y,k),some (ys,ks)=>some (y :: ys,k++ks)
  |_,_=>none
structure Eff2 where
 val:V2
 upd:List (Nat×Nat×Option E2)
 tip:List (Nat×Bool)
 rd:List (Nat×Nat×Nat)
 deriving Inhabited
inductive Res2 where
 |eff (e:Eff2)
 |all (val:V2) (s:S2)
 deriving Inhabited
def Eff2.wr (e:Eff2):List (Nat×Nat×Nat):=e.upd.map (fun u=>keyE u.1 u.2.1)++e.tip.map fun u=>keyT u.1
def pureE (v:V2):Res2:=.eff { val:=v,upd:=[],tip:=[],rd:=[] }
def pureC (c:Cell):Res2:=pureE (.c c)
def keyC:Cell→List (Nat×Nat×Nat)
 |.ref lv sl _ _=>[keyE lv sl]
 |.refp lv sl _ _ _ _=>[keyE lv sl]
 |.ptr lv sl _ _ _=>[keyE lv sl]
 |.bref lv sl _ _ _ _=>[keyE lv sl]
 |.mp lv sl _=>[keyE lv sl]
 |_=>[]
def keyV:V2→List (Nat×Nat×Nat)
 |.c x=>keyC x
 |.agg cs=>cs.flatMap keyC
 |_=>[]
def frees2 (ks:List (Nat×Nat)):List (Nat×Nat×Option E2):=ks.map fun k=>(k.1,k.2,none)
def putV (s:Tr V2) (dst:Option Nat) (v:V2):Tr V2:=
 match dst with
 |some n=>s.set n (some v)
 |none=>s
def S2.app (s:S2) (dst:Option Nat):Res2→S2
 |.eff e=>{ slots:=putV s.slots dst e.val,outer:=s.outer,mem:=updM s.mem e.upd,tips:=applyTip s.tips e.tip,nv:=s.nv }
 |.all v s'=>{ s' with slots:=putV s'.slots dst v }
def Cell.still:Cell→Bool
 |.ref .. | .refp .. | .ptr .. | .bref .. | .mp ..=>false
 |.sl _ _ (.app _)=>false
 |_=>true
def V2.still:V2→Bool
 |.c x=>x.still
 |.agg cs=>cs.all Cell.still
 |.clo _ cs=>cs.all Cell.still
 |.tup vs=>vs.all fun v=>v.2.all Cell.still
def loose:Tr V2→Tr V2
 |.lf=>.lf
 | .nd v l r => .nd (match v with
  |none=>none
  |some x=>match x.still with
   |true=>none
   |false=>some x) (loose l) (loose r)
def merge:Tr V2→Tr V2→Tr V2
 |.lf,_=>.lf
 | .nd v l r, b => .nd (match v with
  |none=>none
  |some x=>match x.still with
   |true=>some x
   |false=>b.top) (merge l b.left) (merge r b.right)
def ev2 (s:S2):Opd→Option V2
 |.t n=>s.slots.get? n
 |.c v=>cst2 v
def evs2 (s:S2):List Opd→Option (List V2)
 |[]=>some []
 |x :: r=>match ev2 s x,evs2 s r with
  |some y,some ys=>some (y :: ys)
  |_,_=>none
def V2.cells?:V2→Option (List Cell)
 |.c x=>some [x]
 |.agg cs=>some cs
 |_=>none
def wrap2 (agg:Bool) (cs:List Cell):Option V2:=
 match agg with
 |true=>some (.agg cs)
 |false=>match cs with
  |[x]=>some (.c x)
  |_=>none
section
variable {α : Type}
def chk (b:Bool) (k:Option α):Option α:=cond b k none
def idx {β : Type} (l:List β) (i:Int):Option β:=cond (decide (0≤i)) (l[i.toNat]?) none
def selK:Nat→Nat→(Nat→Option α)→Option α
 |0,_,_=>none
 |n+1,k,F=>cond (Nat.beq k n) (F n) (selK n k F)
def inR (i:Int) (n:Nat):Bool:=decide (0≤i)&&decide (i.toNat<n)
def room (n b:Nat):Bool:=decide (n≤maxLenA)&&decide (n*b≤roomA)
def copyL {β : Type} (news l:List β):List β:=news.take (min news.length l.length)++l.drop (news.take (min news.length l.length)).length
def bytesL (s:List UInt8):List Int:=s.map fun c=>(c.toNat:Int)
def cellK (v:Option V2) (k:Cell→Option α):Option α:=
 match v with
 |some (.c x)=>k x
 |_=>none
def intK (v:Option V2) (k:Int→Option α):Option α:=
 match v with
 |some (.c (.int _ n))=>k n
 |_=>none
def natK (v:Option V2) (k:Nat→Option α):Option α:=intK v fun n=>chk (decide (0≤n)) (k n.toNat)
def boolK (v:Option V2) (k:Bool→Option α):Option α:=
 match v with
 |some (.c (.bool b))=>k b
 |_=>none
def optK {β : Type} (o:Option β) (k : β→Option α):Option α:=
 match o with
 |some x=>k x
 |none=>none
def valC:Value→Option Cell
 |.int k a=>some (.int k a)
 |.bool b=>some (.bool b)
 |_=>none
def binN (op:BinOp) (k:IntKind) (a:Int) (k':IntKind) (b:Int) (K:Cell→Option α):Option α:=
 match op with
 |.shl=>chk (!decide (b<0)) (K (.int k (k.wrap (a*2 ^ min b.toNat k.bits))))
 |.shr=>chk (!decide (b<0)) (K (.int k (a.fdiv (2 ^ min b.toNat k.bits))))
 | op => match decEq k k' with
  |.isFalse _=>none
  |.isTrue _=>match op with
   |.add=>K (.int k (k.wrap (a+b)))
   |.sub=>K (.int k (k.wrap (a-b)))
   |.mul=>K (.int k (k.wrap (a*b)))
   |.quo=>chk (!decide (b=0)) (K (.int k (k.wrap (a.tdiv b))))
   |.rem=>chk (!decide (b=0)) (K (.int k (a.tmod b)))
   |.and=>K (.int k (k.wrap (BitVec.ofInt k.bits a &&& BitVec.ofInt k.bits b).toNat))
   |.or=>K (.int k (k.wrap (BitVec.ofInt k.bits a ||| BitVec.ofInt k.bits b).toNat))
   |.xor=>K (.int k (k.wrap (BitVec.ofInt k.bits a ^^^ BitVec.ofInt k.bits b).toNat))
   |.andNot=>K (.int k (k.wrap (BitVec.ofInt k.bits a &&& ~~~(BitVec.ofInt k.bits b)).toNat))
   |.eql=>K (.bool (a==b))
   |.neq=>K (.bool (a != b))
   |.lss=>K (.bool (decide (a<b)))
   |.leq=>K (.bool (decide (a≤b)))
   |.gtr=>K (.bool (decide (a>b)))
   |.geq=>K (.bool (decide (a≥b)))
   |_=>none
def binT (op:BinOp) (x y:List UInt8) (K:Cell→Option α):Option α:=
 match op with
 |.add=>chk (!decide (((x.length+y.length:Nat):Int)>IntKind.i64.max)) (K (.str (x++y)))
 |.eql=>K (.bool (x==y))
 |.neq=>K (.bool !(x==y))
 |.lss=>K (.bool (Op.bytesLess x y))
 |.leq=>K (.bool (Op.bytesLess x y||x==y))
 |.gtr=>K (.bool !(Op.bytesLess x y||x==y))
 |.geq=>K (.bool !(Op.bytesLess x y))
 |_=>none
def binK (op:BinOp) (x y:Cell) (K:Cell→Option α):Option α:=
 match x,y with
 |.int k a,.int k' b=>binN op k a k' b K
 |.str a,.str b=>binT op a b K
 |_,_=>none
def scEq2 (kd:Nat):Cell→Cell→Option Bool
 |.bool a,.bool b=>match kd with
  |0=>some (a==b)
  |_=>none
 | .int k a, .int k' b => match kd with
  |1=>match decEq k k' with
   |.isTrue _=>some (a==b)
   |.isFalse _=>none
  |_=>none
 |.str a,.str b=>match kd with
  |0=>none
  |1=>none
  |_=>some (a==b)
 |_,_=>none
def eqAll2 (xs ys:List Cell):List (Nat×Nat)→Option Bool
 |[]=>some true
 |o :: r=>match xs[o.1]?,ys[o.1]?,eqAll2 xs ys r with
  |some x,some y,some b'=>(scEq2 o.2 x y).map fun b=>b&&b'
  |_,_,_=>none
def unK (op:UnOp) (x:Cell) (K:Cell→Option α):Option α:=
 match x with
 |.bool b=>match op with
  |.not=>K (.bool !b)
  |_=>none
 |.int k n=>match op with
  |.neg=>K (.int k (k.wrap (0-n)))
  |.xor=>K (.int k (k.wrap (BitVec.ofInt k.bits (if k.signed then -1 else k.max) ^^^ BitVec.ofInt k.bits n).toNat))
  |_=>none
 |_=>none
def newsK (m:List (Tr E2)) (x:Cell) (e:Option Ty) (K:SL→Option α):Option α:=
 match x with
 |.sl t l _=>K ⟨t,l⟩
 |.nil _=>optK e fun t=>K ⟨t,[]⟩
 |.ref lv sl ver _=>optK (rowOf m lv sl ver) K
 |.refp lv sl ver _ off len=>optK (rowOf m lv sl ver) fun r=>chk (decide (off+len≤r.l.length)) (K ⟨r.t,(r.l.drop off).take len⟩)
 |.str s=>K ⟨.int .u8,bytesL s⟩
 |_=>none
def fill2 (s:S2):List Cell→List (Nat×Nat×Opd)→Option (List Cell)
 |cs,[]=>some cs
 | cs, (off, sz, x) :: r => match (ev2 s x).bind V2.cells? with
  |some new=>match Nat.beq new.length sz&&Nat.ble (off+sz) cs.length with
   |true=>fill2 s (Eng.splice cs off new) r
   |false=>none
  |none=>none
def fillE (s : S2) (sz : Nat) : List (List Cell) → List (Nat × Opd) → Option (List (List Cell) × List (Nat × Nat))
 |els,[]=>some (els,[])
 | els, (i, x) :: r => match ((ev2 s x).bind V2.cells?).bind (frz s.mem) with
  | some (e, ks) => match Nat.beq e.length sz && Nat.blt i els.length with
   |true=>match fillE s sz (els.set i e) r with
    |some (els',ks')=>some (els',ks++ks')
    |none=>none
   |false=>none
  |none=>none
def packEs (t:Ty):List (List Cell)→Option (List t.den)
 |[]=>some []
 |e :: r=>match packE t e,packEs t r with
  |some x,some xs=>some (x :: xs)
  |_,_=>none
def cellList:List V2→Option (List Cell)
 |[]=>some []
 |.c x :: r=>(cellList r).map (x :: ·)
 |_=>none
def loadK (m:List (Tr E2)) (sz:Nat) (p:Cell) (K:List Cell→Option α):Option α:=
 match p with
 | .ptr lv sl ver i off => match mget m lv sl with
  |some (.box v cs)=>match Nat.beq v ver&&Nat.beq i 0&&Nat.ble (off+sz) cs.length with
   |true=>K ((cs.drop off).take sz)
   |false=>none
  |some (.row v t l)=>match Nat.beq v ver&&Nat.ble (off+sz) t.size with
   |true=>Option.bind l[i]? fun x=>K (((cellsT t x).drop off).take sz)
   |false=>none
  |some (.set _ _)=>none
  |none=>none
 |.dptr t x off=>match Nat.ble (off+sz) t.size with
  |true=>K (((cellsT t x).drop off).take sz)
  |false=>none
 |_=>none
def hasKey (ks:List (Nat×Nat)) (lv sl:Nat):Bool:=ks.any fun k=>Nat.beq k.1 lv&&Nat.beq k.2 sl
def storeK (m : List (Tr E2)) (sz : Nat) (p : Cell) (new : List Cell) (K : Res2 → Option α) : Option α :=
 match p,Nat.beq new.length sz with
 | .ptr lv sl ver i off, true => match mget m lv sl with
  |some (.box v cs)=>match Nat.beq v ver&&Nat.beq i 0&&Nat.ble (off+sz) cs.length with
   |true=>K (.eff { val:=.tup [],upd:=[(lv,sl,some (.box v (Eng.splice cs off new)))],tip:=[],rd:=[keyE lv sl] })
   |false=>none
  | some (.row v t l) => match Nat.beq v ver && Nat.ble (off + sz) t.size, frz m new with
   | true, some (new, ks) => match hasKey ks lv sl with
    |true=>none
    |false=>Option.bind l[i]? fun x=>optK (packE t (Eng.splice (cellsT t x) off new)) fun y=>
     K (.eff { val:=.tup [],upd:=frees2 ks++[(lv,sl,some (.row v t (l.set i y)))],tip:=[],rd:=keyE lv sl :: keysE ks })
   |_,_=>none
  |some (.set _ _)=>none
  |none=>none
 |_,_=>none
def appK (s:S2) (row:Bool) (lv sl nvi sz bytes:Nat) (x y:Cell) (e:Option Ty) (K:Res2→Option α):Option α:=
 match x with
 | .nil true => newsK s.mem y e fun n => match Nat.beq n.t.size sz with
  |true=>chk (room n.l.length bytes) (match row with
   |false=>K (.eff { val:=.c (.sl n.t n.l (.app nvi)),upd:=[],tip:=[(nvi,true)],rd:=keyC y })
   |true=>K (.eff { val:=.c (.ref lv sl nvi n.t),upd:=[(lv,sl,some (.row nvi n.t n.l))],tip:=[],rd:=keyC y }))
  |false=>none
 | .sl t l .full => newsK s.mem y (some t) fun n => match Nat.beq t.size sz, castL n.t t n.l with
  |true,some news=>chk (room (l.length+news.length) bytes) (match row with
   |false=>K (.eff { val:=.c (.sl t (l++news) (.app nvi)),upd:=[],tip:=[(nvi,true)],rd:=keyC y })
   |true=>chk (l.isEmpty || !news.isEmpty) (K (.eff { val:=.c (.ref lv sl nvi t),upd:=[(lv,sl,some (.row nvi t (l++news)))],tip:=[],rd:=keyC y })))
  |_,_=>none
 | .sl t l (.app v) => newsK s.mem y (some t) fun n => match Nat.beq t.size sz, castL n.t t n.l, row, s.tips.get? v with
  |true,some news,false,some ()=>chk (room (l.length+news.length) bytes)
   (K (.eff { val:=.c (.sl t (l++news) (.app nvi)),upd:=[],tip:=[(v,false),(nvi,true)],rd:=keyT v :: keyC y }))
  |_,_,_,_=>none
 | .ref lv' sl' ver t => optK (rowOf s.mem lv' sl' ver) fun r => newsK s.mem y (some t) fun n => match Nat.beq t.size sz, castL r.t t r.l, castL n.t t n.l with
  |true,some l,some news=>chk (room (l.length+news.length) bytes)
   (K (.eff { val:=.c (.ref lv' sl' nvi t),upd:=[(lv',sl',some (.row nvi t (l++news)))],tip:=[],rd:=keyE lv' sl' :: keyC y }))
  |_,_,_=>none
 | .refp lv' sl' ver t off len => optK (rowOf s.mem lv' sl' ver) fun r => newsK s.mem y (some t) fun n => match Nat.beq t.size sz, castL r.t t r.l, castL n.t t n.l with
  |true,some l,some news=>chk (decide (off+len≤l.length)&&room (len+news.length) bytes)
   (K (.eff { val:=.c (.ref lv' sl' nvi t),upd:=[(lv',sl',some (.row nvi t ((l.drop off).take len++news)))],tip:=[],rd:=keyE lv' sl' :: keyC y }))
  |_,_,_=>none
 |_=>none
def boundK (x:Option Opd) (s:S2) (K:Option Nat→Option α):Option α:=
 match x with
 |none=>K none
 |some o=>natK (ev2 s o) fun n=>K (some n)
def partL {β : Type} (l:List β) (lo hi:Option Nat):List β:=
 match lo,hi with
 |none,none=>l
 |some a,none=>l.drop a
 |none,some b=>l.take b
 |some a,some b=>(l.drop a).take (b-a)
def partOK (n:Nat) (lo hi:Option Nat):Bool:=
 match lo,hi with
 |none,none=>true
 |some a,none=>decide (a≤n)
 |none,some b=>decide (b≤n)
 |some a,some b=>decide (a≤b)&&decide (b≤n)
def loOf (lo:Option Nat):Nat:=lo.getD 0
def Cell.isRow:Cell→Bool
 |.ref ..=>true
 |.refp ..=>true
 |_=>false
def V2.isRow:V2→Bool
 |.c x=>x.isRow
 |_=>false
def cutK (m:List (Tr E2)) (sz nvi:Nat) (x:Cell) (lo hi:Option Nat) (K:Res2→Option α):Option α:=
 match x with
 |.ref lv sl ver t=>optK (rowOf m lv sl ver) fun r=>match Nat.beq t.size sz,castL r.t t r.l with
  |true,some l=>chk (partOK l.length lo hi) (K (.eff { val:=.c (.ref lv sl nvi t),upd:=[(lv,sl,some (.row nvi t (partL l lo hi)))],tip:=[],rd:=[keyE lv sl] }))
  |_,_=>none
 |_=>none
def sliceK (m : List (Tr E2)) (sz : Nat) (x : Cell) (lo hi mx : Option Nat) (K : Cell → Option α) : Option α :=
 match x with
 | .sl t l o => match Nat.beq t.size sz with
  | true => match mx with
   | none => chk (partOK l.length lo hi) (match o with
    |.bor=>K (.sl t (partL l lo hi) .bor)
    |.full=>match hi with
     |none=>K (.sl t (partL l lo hi) .full)
     |some _=>K (.sl t (partL l lo hi) .d)
    |_=>K (.sl t (partL l lo hi) .d))
   |some m=>match o,hi with
    |.bor,_=>none
    |_,none=>none
    |_,some h=>chk (partOK l.length lo hi&&Nat.beq h m) (K (.sl t (partL l lo hi) .full))
  |false=>none
 |.nil f=>match mx with
  |none=>chk (partOK 0 lo hi) (K (.nil f))
  |some _=>none
 |.ref lv sl ver t=>match Nat.beq t.size sz,mx with
  |true,none=>optK (rowOf m lv sl ver) fun r=>chk (partOK r.l.length lo hi) (K (.refp lv sl ver t (loOf lo) (hi.getD r.l.length-loOf lo)))
  |_,_=>none
 |.refp lv sl ver t off len=>match Nat.beq t.size sz,mx with
  |true,none=>chk (partOK len lo hi) (K (.refp lv sl ver t (off+loOf lo) (hi.getD len-loOf lo)))
  |_,_=>none
 |_=>none
end
inductive CSh where
 |int (k:IntKind)
 |bool
 |er
 |str
 |sl (t:Ty) (o:Ow)
 |nil (full:Bool)
 |ref (lv sl ver:Nat) (t:Ty)
 |ptr (lv sl ver i off:Nat)
 |dptr (t:Ty) (off:Nat)
 |mp (lv sl ver:Nat)
 deriving Inhabited
inductive VSh where
 |c (x:CSh)
 |agg (l:List CSh)
 |clo (f:Nat) (l:List CSh)
 deriving Inhabited
inductive ESh where
 |row (ver:Nat) (t:Ty)
 |box (ver:Nat) (l:List CSh)
 |set (ver:Nat)
 deriving Inhabited
@[reducible] def tyL:List Ty→Ty
 |[]=>.unit
 |[a]=>a
 |a :: b :: r=>.prod a (tyL (b :: r))
def unpack:(ts:List Ty)→(tyL ts).den→List Dyn
 |[],_=>[]
 |[a],x=>[⟨a,x⟩]
 |a :: b :: r,x=>⟨a,x.1⟩ :: unpack (b :: r) x.2
def pack:(ts:List Ty)→List Dyn→Option (tyL ts).den
 |[],[]=>some ()
 |[a],[d]=>castTy d.t a d.v
 |a :: b :: r,d :: ds=>match castTy d.t a d.v,pack (b :: r) ds with
  |some x,some y=>some (x,y)
  |_,_=>none
 |_,_=>none
def CSh.fill:CSh→List Dyn→Option (Cell×List Dyn)
 |.int _,⟨.int k,a⟩ :: r=>some (.int k a,r)
 |.bool,⟨.bool,b⟩ :: r=>some (.bool b,r)
 |.er,⟨.bool,b⟩ :: r=>some (.er b,r)
 |.str,⟨.str,s⟩ :: r=>some (.str s,r)
 |.sl _ o,⟨.sl t,l⟩ :: r=>some (.sl t l o,r)
 |.nil f,r=>some (.nil f,r)
 |.ref lv sq ver t,r=>some (.ref lv sq ver t,r)
 |.ptr lv sq ver i off,r=>some (.ptr lv sq ver i off,r)
 |.dptr _ off,⟨t,x⟩ :: r=>some (.dptr t x off,r)
 |.mp lv sq ver,r=>some (.mp lv sq ver,r)
 |_,_=>none
def fillCs:List CSh→List Dyn→Option (List Cell×List Dyn)
 |[],r=>some ([],r)
 | c :: cs, r => match c.fill r with
  |some (x,r')=>match fillCs cs r' with
   |some (xs,r'')=>some (x :: xs,r'')
   |none=>none
  |none=>none
def VSh.fill:VSh→List Dyn→Option (V2×List Dyn)
 |.c x,r=>match x.fill r with
  |some (y,r')=>some (.c y,r')
  |none=>none
 |.agg l,r=>match fillCs l r with
  |some (y,r')=>some (.agg y,r')
  |none=>none
 |.clo f l,r=>match fillCs l r with
  |some (y,r')=>some (.clo f y,r')
  |none=>none
def ESh.fill:ESh→List Dyn→Option (E2×List Dyn)
 |.row ver _,⟨.sl t,l⟩ :: r=>some (.row ver t l,r)
 |.box ver l,r=>match fillCs l r with
  |some (y,r')=>some (.box ver y,r')
  |none=>none
 |.set ver,⟨.sl .str,l⟩ :: r=>some (.set ver l,r)
 |_,_=>none
abbrev Ren:=List (Nat×Option Nat)
def CSh.get:CSh→Cell→Option (List Dyn×Ren)
 |.int k,.int k' a=>match decEq k k' with
  |.isTrue _=>some ([⟨.int k',a⟩],[])
  |.isFalse _=>none
 |.bool,.bool b=>some ([⟨.bool,b⟩],[])
 |.er,.er b=>some ([⟨.bool,b⟩],[])
 |.str,.str s=>some ([⟨.str,s⟩],[])
 |.sl t o,.nil f=>match o,f with
  |.d,_=>some ([⟨.sl t,[]⟩],[])
  |.bor,_=>some ([⟨.sl t,[]⟩],[])
  |.full,true=>some ([⟨.sl t,[]⟩],[])
  |.app v,true=>some ([⟨.sl t,[]⟩],[(v,none)])
  |_,_=>none
 |.sl _ o,.sl t' l o'=>match o,o' with
  |.bor,_=>some ([⟨.sl t',l⟩],[])
  |.d,.bor=>none
  |.d,_=>some ([⟨.sl t',l⟩],[])
  |.full,.full=>some ([⟨.sl t',l⟩],[])
  |.app v,.full=>some ([⟨.sl t',l⟩],[(v,none)])
  |.app v,.app v'=>some ([⟨.sl t',l⟩],[(v,some v')])
  |_,_=>none
 |.nil true,.nil true=>some ([],[])
 |.nil false,.nil _=>some ([],[])
 |.ref lv sq ver t,.ref lv' sq' ver' t'=>match Nat.beq lv lv'&&Nat.beq sq sq',decEq t t' with
  |true,.isTrue _=>some ([],[(ver,some ver')])
  |_,_=>none
 |.ptr lv sq ver i off,.ptr lv' sq' ver' i' off'=>match Nat.beq lv lv'&&Nat.beq sq sq'&&Nat.beq i i'&&Nat.beq off off' with
  |true=>some ([],[(ver,some ver')])
  |false=>none
 |.dptr _ off,.dptr t' x off'=>match Nat.beq off off' with
  |true=>some ([⟨t',x⟩],[])
  |false=>none
 |.mp lv sq ver,.mp lv' sq' ver'=>match Nat.beq lv lv'&&Nat.beq sq sq' with
  |true=>some ([],[(ver,some ver')])
  |false=>none
 |_,_=>none
def getCs:List CSh→List Cell→Option (List Dyn×Ren)
 |[],[]=>some ([],[])
 |c :: cs,x :: xs=>match c.get x,getCs cs xs with
  |some (d,r),some (ds,rs)=>some (d++ds,r++rs)
  |_,_=>none
 |_,_=>none
def VSh.get:VSh→V2→Option (List Dyn×Ren)
 |.c x,.c y=>x.get y
 |.agg l,.agg cs=>getCs l cs
 |.clo f l,.clo f' cs=>match Nat.beq f f' with
  |true=>getCs l cs
  |false=>none
 |_,_=>none
def ESh.get:ESh→E2→Option (List Dyn×Ren)
 |.row ver _,.row ver' t' l=>some ([⟨.sl t',l⟩],[(ver,some ver')])
 |.box ver l,.box ver' cs=>match getCs l cs with
  |some (d,r)=>some (d,(ver,some ver') :: r)
  |none=>none
 |.set ver,.set ver' l=>some ([⟨.sl .str,l⟩],[(ver,some ver')])
 |_,_=>none
structure Tmpl where
 slots:List (Nat×VSh)
 outer:List (List (Nat×VSh))
 mem:List (Nat×Nat×ESh)
 lvs:Nat
 tips:List Nat
 nv:Nat
 tys:List Ty
 deriving Inhabited
def fillSlots:List (Nat×VSh)→List Dyn→Tr V2→Option (Tr V2×List Dyn)
 |[],r,t=>some (t,r)
 |(k,v) :: l,r,t=>match v.fill r with
  |some (x,r')=>fillSlots l r' (t.set k (some x))
  |none=>none
def fillOuter:List (List (Nat×VSh))→List Dyn→Option (List (Tr V2)×List Dyn)
 |[],r=>some ([],r)
 | x :: l, r => match fillSlots x r .lf with
  |some (t,r')=>match fillOuter l r' with
   |some (ts,r'')=>some (t :: ts,r'')
   |none=>none
  |none=>none
def fillMem:List (Nat×Nat×ESh)→List Dyn→List (Tr E2)→Option (List (Tr E2)×List Dyn)
 |[],r,m=>some (m,r)
 |(lv,sl,e) :: l,r,m=>match e.fill r with
  |some (x,r')=>fillMem l r' (mset m lv sl (some x))
  |none=>none
def tipsOf:List Nat→Tr Unit→Tr Unit
 |[],t=>t
 |v :: r,t=>tipsOf r (t.set v (some ()))
def Tmpl.st (T:Tmpl) (ds:List Dyn):Option S2:=
 match fillSlots T.slots ds .lf with
 | some (sl, r) => match fillOuter T.outer r with
  |some (os,r)=>match fillMem T.mem r (List.replicate T.lvs .lf) with
   |some (m,[])=>some { slots:=sl,outer:=os,mem:=m,tips:=tipsOf T.tips .lf,nv:=T.nv }
   |_=>none
  |none=>none
 |none=>none
def getSlots (s:Tr V2):List (Nat×VSh)→Option (List Dyn×Ren)
 |[]=>some ([],[])
 |(k,v) :: l=>match (s.get? k).bind v.get,getSlots s l with
  |some (d,r),some (ds,rs)=>some (d++ds,r++rs)
  |_,_=>none
def getOuter:List (Tr V2)→List (List (Nat×VSh))→Option (List Dyn×Ren)
 |[],[]=>some ([],[])
 |t :: ts,x :: xs=>match getSlots t x,getOuter ts xs with
  |some (d,r),some (ds,rs)=>some (d++ds,r++rs)
  |_,_=>none
 |_,_=>none
def getMem (m:List (Tr E2)):List (Nat×Nat×ESh)→Option (List Dyn×Ren)
 |[]=>some ([],[])
 |(lv,sl,e) :: l=>match (mget m lv sl).bind e.get,getMem m l with
  |some (d,r),some (ds,rs)=>some (d++ds,r++rs)
  |_,_=>none
def renAt:Ren→Nat→Option Nat
 |[],_=>none
 |(a,w) :: r,v=>match Nat.beq a v with
  |true=>w
  |false=>renAt r v
def oeq:Option Nat→Option Nat→Bool
 |none,none=>true
 |some a,some b=>Nat.beq a b
 |_,_=>false
def renOK (nv snv:Nat) (σ : Ren):Bool:=
 σ.all fun p=>Nat.blt p.1 nv&&oeq (renAt σ p.1) p.2 &&
  (match p.2 with
   |none=>true
   |some w=>Nat.blt w snv && σ.all fun q=>Nat.beq q.1 p.1 || !oeq q.2 p.2)
def tipsIn (nv:Nat) (σ : Ren) (t:Tr Unit):List Nat→Bool
 |[]=>true
 |v :: r=>Nat.blt v nv&&(match renAt σ v with
  |none=>true
  |some w=>(t.get? w).isSome)&&tipsIn nv σ t r
def Tmpl.get (T:Tmpl) (s:S2):Option (List Dyn):=
 match getSlots s.slots T.slots,getOuter s.outer T.outer,getMem s.mem T.mem with
 |some (d,r),some (ds',rs'),some (ds,rs)=>
  match Nat.beq T.lvs s.mem.length&&renOK T.nv s.nv (r++(rs'++rs))&&tipsIn T.nv (r++(rs'++rs)) s.tips T.tips with
  |true=>some (d++(ds'++ds))
  |false=>none
 |_,_,_=>none
inductive PSh where
 |c (x:CSh)
 |agg (l:List CSh)
 |clo (f:Nat)
 |box (l:List CSh)
 deriving Inhabited
structure Callee where
 args:List PSh
 ta:List Ty
 res:List (Bool×List CSh)
 tr:List Ty
 rk:Nat
 F:(tyL ta).den→Option (tyL tr).den
abbrev Outs:=List (AX×Tmpl)
@[reducible] def outTy:Outs→Ty
 |[]=>.unit
 |[x]=>tyL x.2.tys
 |x :: y :: r=>.sum (tyL x.2.tys) (outTy (y :: r))
structure LoopSpec where
 T:Tmpl
 outs:Outs
 F:(tyL T.tys).den→Option (outTy outs).den
structure SEnv where
 fns:Nat→Option AFn
 cal:Nat→Option Callee
 loops:Nat→Nat→AC→Option LoopSpec
 cuts:Nat→Nat→Option Outs
 ccut:Nat→Nat→Option Outs
 bcut:Nat→Nat→Option (Nat×Ty)
 unr:Nat→Nat→Bool
 ety:Nat→Nat→Option Ty
def SEnv.sh (E:SEnv) (g:Nat):Bool:=((E.fns g).map (·.sh)).getD false
def CSh.arg (m:List (Tr E2)) (agg:Bool):CSh→Cell→Option (List Dyn×List (Nat×Nat)×List Bool)
 |.int k,.int k' a=>match decEq k k' with
  |.isTrue _=>some ([⟨.int k',a⟩],[],[])
  |.isFalse _=>none
 |.bool,.bool b=>some ([⟨.bool,b⟩],[],[])
 |.str,.str s=>some ([⟨.str,s⟩],[],[])
 |.sl t o,.nil _=>match o with
  |.d=>some ([⟨.sl t,[]⟩],[],[])
  |.bor=>some ([⟨.sl t,[]⟩],[],[])
  |_=>none
 |.sl _ o,.sl t' l o'=>match o,o' with
  |.bor,_=>some ([⟨.sl t',l⟩],[],[])
  |.d,.bor=>none
  |.d,_=>some ([⟨.sl t',l⟩],[],[])
  |_,_=>none
 |.sl _ o,.ref lv sq ver _=>match rowOf m lv sq ver,o,agg with
  |some r,.bor,false=>some ([⟨.sl r.t,r.l⟩],[],[])
  |some r,.bor,true=>some ([⟨.sl r.t,r.l⟩],[(lv,sq)],[])
  |some r,.d,true=>some ([⟨.sl r.t,r.l⟩],[(lv,sq)],[])
  |_,_,_=>none
 |.sl _ o,.refp lv sq ver _ off len=>match rowOf m lv sq ver,o,agg with
  |some r,.bor,false=>some ([⟨.sl r.t,(r.l.drop off).take len⟩],[],[decide (off+len≤r.l.length)])
  |_,_,_=>none
 |_,_=>none
def argCs (m:List (Tr E2)):List CSh→List Cell→Option (List Dyn×List (Nat×Nat)×List Bool)
 |[],[]=>some ([],[],[])
 |c :: cs,x :: xs=>match c.arg m true x,argCs m cs xs with
  |some (d,k,b),some (ds,ks,bs)=>some (d++ds,k++ks,b++bs)
  |_,_=>none
 |_,_=>none
def PSh.arg (m:List (Tr E2)):PSh→V2→Option (List Dyn×List (Nat×Nat)×List Bool)
 |.c x,.c y=>x.arg m false y
 |.agg l,.agg cs=>argCs m l cs
 |.clo f,.clo f' []=>match Nat.beq f f' with
  |true=>some ([],[],[])
  |false=>none
 |_,_=>none
def argsK (m:List (Tr E2)):List PSh→List V2→Option (List Dyn×List (Nat×Nat)×List Bool)
 |[],[]=>some ([],[],[])
 |p :: ps,x :: xs=>match p.arg m x,argsK m ps xs with
  |some (d,k,b),some (ds,ks,bs)=>some (d++ds,k++ks,b++bs)
  |_,_=>none
 |_,_=>none
def chkAll {α : Type} (l:List Bool) (k:Option α):Option α:=
 match l with
 |[]=>k
 |b :: r=>chk b (chkAll r k)
def dat1 (m:List (Tr E2)):Cell→Option Cell
 |.int k a=>some (.int k a)
 |.bool b=>some (.bool b)
 |.str s=>some (.str s)
 |.raw v=>some (.raw v)
 |.nil _=>some (.nil false)
 |.sl t l _=>some (.sl t l .d)
 |.ref lv sl ver _=>match rowOf m lv sl ver with
  |some r=>some (.sl r.t r.l .d)
  |none=>none
 |.refp lv sl ver _ off len=>match rowOf m lv sl ver with
  |some r=>some (.sl r.t ((r.l.drop off).take len) .d)
  |none=>none
 |_=>none
def dats (m:List (Tr E2)):List Cell→Option (List Cell)
 |[]=>some []
 |x :: r=>match dat1 m x,dats m r with
  |some y,some ys=>some (y :: ys)
  |_,_=>none
def Cell.nb:Cell→Bool
 |.bref ..=>false
 |_=>true
def CSh.argF (m : List (Tr E2)) (agg : Bool) : CSh → Cell → Option (List Dyn × List Bool)
 |.int k,.int k' a=>match decEq k k' with
  |.isTrue _=>some ([⟨.int k',a⟩],[])
  |.isFalse _=>none
 |.bool,.bool b=>some ([⟨.bool,b⟩],[])
 |.str,.str s=>some ([⟨.str,s⟩],[])
 |.sl t o,.nil _=>match o with
  |.d=>some ([⟨.sl t,[]⟩],[])
  |.bor=>some ([⟨.sl t,[]⟩],[])
  |_=>none
 |.sl _ o,.sl t' l _=>match o with
  |.d=>some ([⟨.sl t',l⟩],[])
  |.bor=>some ([⟨.sl t',l⟩],[])
  |_=>none
 |.sl _ o,.ref lv sq ver _=>match rowOf m lv sq ver,o with
  |some r,.d=>some ([⟨.sl r.t,r.l⟩],[])
  |some r,.bor=>some ([⟨.sl r.t,r.l⟩],[])
  |_,_=>none
 |.sl _ o,.refp lv sq ver _ off len=>match rowOf m lv sq ver,o with
  |some r,.d=>some ([⟨.sl r.t,(r.l.drop off).take len⟩],[decide (off+len≤r.l.length)])
  |some r,.bor=>some ([⟨.sl r.t,(r.l.drop off).take len⟩],[decide (off+len≤r.l.length)])
  |_,_=>none
 | .sl t o, .bref lv sq ver off n sz => match agg, mget m lv sq with
  | false, some (.box v cs) => match Nat.beq v ver && (Nat.ble (off + n * sz) cs.length && cs.all Cell.nb), (dats m ((cs.drop off).take (n * sz))).bind fun ds => packEs t (Eng.chunk sz n ds) with
   |true,some l=>match o with
    |.d=>some ([⟨.sl t,l⟩],[])
    |.bor=>some ([⟨.sl t,l⟩],[])
    |_=>none
   |_,_=>none
  |_,_=>none
 |_,_=>none
def argFCs (m:List (Tr E2)):List CSh→List Cell→Option (List Dyn×List Bool)
 |[],[]=>some ([],[])
 |c :: cs,x :: xs=>match c.argF m true x,argFCs m cs xs with
  |some (d,b),some (ds,bs)=>some (d++ds,b++bs)
  |_,_=>none
 |_,_=>none
def PSh.argF (m:List (Tr E2)):PSh→V2→Option (List Dyn×List Bool)
 |.c x,.c y=>x.argF m false y
 |.agg l,.agg cs=>argFCs m l cs
 |.clo f,.clo f' []=>match Nat.beq f f' with
  |true=>some ([],[])
  |false=>none
 |_,_=>none
def argsFK (m:List (Tr E2)):List PSh→List V2→Option (List Dyn×List Bool)
 |[],[]=>some ([],[])
 |p :: ps,x :: xs=>match p.argF m x,argsFK m ps xs with
  |some (d,b),some (ds,bs)=>some (d++ds,b++bs)
  |_,_=>none
 |_,_=>none
def keyF2 (m:List (Tr E2)):V2→List (Nat×Nat×Nat)
 |.c (.bref lv sl _ _ _ _)=>keyE lv sl :: (match mget m lv sl with
  |some (.box _ cs)=>cs.flatMap keyC
  |_=>[])
 |v=>keyV v
def CSh.flat:CSh→Bool
 |.int _|.bool|.str=>true
 |_=>false
def flatRes (res:List (Bool×List CSh)):Bool:=res.all fun r=>r.2.all CSh.flat
def fillP:List PSh→List Dyn→Option (List V2×List Dyn)
 |[],r=>some ([],r)
 | p :: ps, r => match (match p with
   |.c x=>VSh.fill (.c x) r
   |.agg l=>VSh.fill (.agg l) r
   |.clo f=>some (.clo f [],r)
   |.box _=>none) with
  |some (x,r')=>match fillP ps r' with
   |some (xs,r'')=>some (x :: xs,r'')
   |none=>none
  |none=>none
def fillR:List (Bool×List CSh)→List Dyn→Option (List (Bool×List Cell)×List Dyn)
 |[],r=>some ([],r)
 | (a, l) :: ps, r => match fillCs l r with
  |some (x,r')=>match fillR ps r' with
   |some (xs,r'')=>some ((a,x) :: xs,r'')
   |none=>none
  |none=>none
def tup2:List (Bool×List Cell)→Option V2
 |[(a,cs)]=>wrap2 a cs
 |vs=>some (.tup vs)
def argSlots2:Nat→List V2→Tr V2→Tr V2
 |_,[],t=>t
 |i,x :: r,t=>argSlots2 (i+1) r (t.set i (some x))
def resDynC:CSh→Cell→Option (List Dyn)
 |.int k,.int k' a=>match decEq k k' with
  |.isTrue _=>some [⟨.int k',a⟩]
  |.isFalse _=>none
 |.bool,.bool b=>some [⟨.bool,b⟩]
 |.str,.str s=>some [⟨.str,s⟩]
 |.sl t .d,.nil _=>some [⟨.sl t,[]⟩]
 |.sl _ .d,.sl t' l _=>some [⟨.sl t',l⟩]
 |_,_=>none
def resDynCs:List CSh→List Cell→Option (List Dyn)
 |[],[]=>some []
 |c :: cs,x :: xs=>match resDynC c x,resDynCs cs xs with
  |some d,some ds=>some (d++ds)
  |_,_=>none
 |_,_=>none
def hiC (top:Nat):Cell→Bool
 |.ref lv _ _ _=>Nat.ble top lv
 |.refp lv _ _ _ _ _=>Nat.ble top lv
 |_=>true
def hiR (top:Nat) (vs:List (Bool×List Cell)):Bool:=vs.all fun v=>v.2.all (hiC top)
def rkCell (m:List (Tr E2)) (rk k:Nat):Cell→Bool
 |.ref lv sl ver t=>Nat.beq k rk&&(match rowOf m lv sl ver with
  |some r=>Nat.beq r.t.size t.size
  |none=>false)
 |.nil true=>true
 |.refp ..=>false
 |_=>!Nat.beq k rk
def rkCs (m:List (Tr E2)) (rk:Nat):Nat→List Cell→Bool
 |_,[]=>true
 |k,c :: r=>rkCell m rk k c&&rkCs m rk (k+1) r
def rkAll (m:List (Tr E2)) (rk:Nat):Nat→List (Bool×List Cell)→Bool
 |_,[]=>true
 |k,(_,cs) :: r=>rkCs m rk k cs&&rkAll m rk (k+64) r
def rkOK (m:List (Tr E2)) (rk:Nat) (vs:List (Bool×List Cell)):Bool:=
 match Nat.beq rk 0 with
 |true=>true
 |false=>rkAll m rk 1 vs
def pickC (rk lv sl ver k:Nat) (c:Cell):Option (Cell×List SL):=
 match Nat.beq k rk with
 |true=>match c with
  |.sl t l _=>some (.ref lv sl ver t,[⟨t,l⟩])
  |_=>none
 |false=>some (c,[])
def pickCs (rk lv sl ver:Nat):Nat→List Cell→Option (List Cell×List SL)
 |_,[]=>some ([],[])
 |k,c :: r=>match pickC rk lv sl ver k c,pickCs rk lv sl ver (k+1) r with
  |some (x,u),some (xs,us)=>some (x :: xs,u++us)
  |_,_=>none
def pickR (rk lv sl ver:Nat):Nat→List (Bool×List Cell)→Option (List (Bool×List Cell)×List SL)
 |_,[]=>some ([],[])
 |k,(a,cs) :: r=>match pickCs rk lv sl ver k cs,pickR rk lv sl ver (k+64) r with
  |some (xs,us),some (ys,vs)=>some ((a,xs) :: ys,us++vs)
  |_,_=>none
section
variable {α : Type}
def resK (s:S2) (r:ARes) (K:Bool→List Cell→Option α):Option α:=
 match r with
 |.t n=>match s.slots.get? n with
  |some (.c x)=>K false [x]
  |some (.agg cs)=>K true cs
  |_=>none
 |.cell n sz agg=>cellK (s.slots.get? n) fun p=>loadK s.mem sz p fun cs=>match agg,cs with
  |true,cs=>K true cs
  |false,[x]=>K false [x]
  |_,_=>none
def ressK (s:S2):List ARes→(List (Bool×List Cell)→Option α)→Option α
 |[],K=>K []
 |r :: rs,K=>resK s r fun a cs=>ressK s rs fun l=>K ((a,cs) :: l)
end
def resDyn (m:List (Tr E2)):List (Bool×List CSh)→List (Bool×List Cell)→Option (List Dyn)
 |[],[]=>some []
 |(a,l) :: ps,(b,cs) :: vs=>match a==b,frz m cs,resDyn m ps vs with
  |true,some (cs,_),some ds=>(resDynCs l cs).map (· ++ ds)
  |_,_,_=>none
 |_,_=>none
def imp2 (m:List (Tr E2)) (top:Nat):Cell→Option Cell
 |.int k a=>some (.int k a)
 |.bool b=>some (.bool b)
 |.str s=>some (.str s)
 |.raw v=>some (.raw v)
 |.nil _=>some (.nil false)
 |.sl _ _ .bor=>none
 |.sl t l _=>some (.sl t l .d)
 | .ref lv sl ver t => match Nat.ble top lv with
  |false=>some (.ref lv sl ver t)
  |true=>match rowOf m lv sl ver with
   |some r=>some (.sl r.t r.l .d)
   |none=>none
 | .refp lv sl ver t off len => match Nat.ble top lv with
  |false=>some (.refp lv sl ver t off len)
  |true=>match rowOf m lv sl ver with
   |some r=>some (.sl r.t ((r.l.drop off).take len) .d)
   |none=>none
 |.ptr lv sl ver i off=>match Nat.ble top lv with
  |false=>some (.ptr lv sl ver i off)
  |true=>none
 |_=>none
def imp2s (m:List (Tr E2)) (top:Nat):List Cell→Option (List Cell)
 |[]=>some []
 |x :: r=>match imp2 m top x,imp2s m top r with
  |some y,some ys=>some (y :: ys)
  |_,_=>none
def imp2r (m:List (Tr E2)) (top:Nat):List (Bool×List Cell)→Option (List (Bool×List Cell))
 |[]=>some []
 |(a,x) :: r=>match imp2s m top x,imp2r m top r with
  |some y,some ys=>some ((a,y) :: ys)
  |_,_=>none
def impHi (top:Nat):Cell→Bool
 |.ref lv _ _ _=>Nat.ble top lv
 |.refp lv _ _ _ _ _=>Nat.ble top lv
 |_=>false
def impO (m:List (Tr E2)) (top:Nat) (c:Cell):Option Cell:=
 match c with
 |.nil b=>match Nat.beq top 0 with
  |true=>some (.nil false)
  |false=>some (.nil b)
 |.sl t l (.app v)=>match Nat.beq top 0 with
  |true=>some (.sl t l .d)
  |false=>some (.sl t l (.app v))
 |.sl t l .full=>match Nat.beq top 0 with
  |true=>some (.sl t l .d)
  |false=>some (.sl t l .full)
 |c=>imp2 m top c
def impP1 (m : List (Tr E2)) (top rk lv sl ver : Nat) (e : Option Ty) (k : Nat) (c : Cell) : Option (Cell × List SL) :=
 match Nat.beq k rk with
 | true => match c with
  |.nil true=>e.map fun t=>(.ref lv sl ver t,[⟨t,[]⟩])
  | .ref lv' sl' ver' t => match Nat.ble top lv', rowOf m lv' sl' ver' with
   |true,some r=>match Nat.beq r.t.size t.size with
    |true=>some (.ref lv sl ver r.t,[⟨r.t,r.l⟩])
    |false=>none
   |_,_=>none
  | .refp lv' sl' ver' t off len => match Nat.ble top lv', rowOf m lv' sl' ver' with
   |true,some r=>match Nat.beq r.t.size t.size with
    |true=>some (.ref lv sl ver r.t,[⟨r.t,(r.l.drop off).take len⟩])
    |false=>none
   |_,_=>none
  |_=>none
 |false=>match impHi top c with
  |true=>none
  |false=>(impO m top c).map fun y=>(y,[])
def impPs (m:List (Tr E2)) (top rk lv sl ver:Nat) (e:Option Ty):Nat→List Cell→Option (List Cell×List SL)
 |_,[]=>some ([],[])
 |k,x :: r=>match impP1 m top rk lv sl ver e k x,impPs m top rk lv sl ver e (k+1) r with
  |some (y,u),some (ys,us)=>some (y :: ys,u++us)
  |_,_=>none
def impPr (m:List (Tr E2)) (top rk lv sl ver:Nat) (e:Option Ty):Nat→List (Bool×List Cell)→Option (List (Bool×List Cell)×List SL)
 |_,[]=>some ([],[])
 |k,(a,x) :: r=>match impPs m top rk lv sl ver e k x,impPr m top rk lv sl ver e (k+64) r with
  |some (y,u),some (ys,us)=>some ((a,y) :: ys,u++us)
  |_,_=>none
section
variable {α : Type}
def axEq:AX→AX→Bool
 |.normal,.normal=>true
 |.exit a,.exit b=>Nat.beq a b
 |.ret,.ret=>true
 |_,_=>false
def outsK:(os:Outs)→(outTy os).den→(AX→S2→Option α)→Option α
 |[],_,_=>none
 |[x],y,K=>optK (x.2.st (unpack x.2.tys y)) fun s=>K x.1 s
 |x :: z :: r,y,K=>match y with
  |.inl a=>optK (x.2.st (unpack x.2.tys a)) fun s=>K x.1 s
  |.inr b=>outsK (z :: r) b K
def outsG:(os:Outs)→AX→S2→Option (outTy os).den
 |[],_,_=>none
 |[x],ax,s=>match axEq x.1 ax with
  |true=>optK (x.2.get s) fun ds=>pack x.2.tys ds
  |false=>none
 |x :: z :: r,ax,s=>match axEq x.1 ax with
  |true=>optK ((x.2.get s).bind (pack x.2.tys)) fun y=>some (.inl y)
  |false=>optK (outsG (z :: r) ax s) fun y=>some (.inr y)
end
abbrev Wk:=∀ (α : Type),Nat→Nat→AC→S2→(AX→S2→Option α)→Option α
def ctxOf (ctx d:Nat):Nat:=(ctx+1)*1000000+d*1000
section
variable {α : Type}
def V2.noTup:V2→Bool
 |.tup _=>false
 |_=>true
def SEnv.calN (E:SEnv) (f:Nat):Option Callee:=match E.cal f with
 |some c=>match Nat.beq c.rk 65534 with
  |true=>none
  |false=>some c
 |none=>none
def callN (E : SEnv) (s : S2) (row d nx f : Nat) (args : List V2) (K : Res2 → Option α) : Option α :=
 optK (E.calN f) fun c => optK (argsK s.mem c.args args) fun (ds, ks, bs) => optK (pack c.ta ds) fun x =>
  chkAll bs <| Option.bind (c.F x) fun y=>match fillR c.res (unpack c.tr y) with
   | some (vs, []) => match Nat.beq row 0 with
    |true=>match Nat.beq c.rk 65535 with
     |true=>none
     |false=>optK (tup2 vs) fun v=>K (.eff { val:=v,upd:=frees2 ks,tip:=[],rd:=args.flatMap keyV })
    | false => match Nat.beq (row % 65536) c.rk && !Nat.beq c.rk 0 && !Nat.beq (row / 65536) 0, pickR c.rk (lvQ s.mem.length d) d nx 1 vs with
     |true,some (vs,[])=>optK (tup2 vs) fun v=>K (.eff { val:=v,upd:=frees2 ks,tip:=[],rd:=args.flatMap keyV })
     |true,some (vs,[u])=>match Nat.beq (row / 65536) u.t.size with
      |true=>optK (tup2 vs) fun v=>K (.eff { val:=v,upd:=frees2 ks++[(lvQ s.mem.length d,d,some (.row nx u.t u.l))],tip:=[],rd:=args.flatMap keyV })
      |false=>none
     |_,_=>none
   |_=>none
def PSh.argG (m:List (Tr E2)):PSh→V2→Option (List Dyn×List (Nat×Nat)×List Bool)
 |.c x,.c y=>x.arg m true y
 |.agg l,.agg cs=>argCs m l cs
 |_,_=>none
def argsG (m:List (Tr E2)):List PSh→List V2→Option (List Dyn×List (Nat×Nat)×List Bool)
 |[],[]=>some ([],[],[])
 |p :: ps,x :: xs=>match p.argG m x,argsG m ps xs with
  |some (d,k,b),some (ds,ks,bs)=>some (d++ds,k++ks,b++bs)
  |_,_=>none
 |_,_=>none
def callG (E : SEnv) (s : S2) (f : Nat) (args : List V2) (K : Res2 → Option α) : Option α :=
 optK (E.cal f) fun c=>match !Nat.beq c.rk 65535 with
  | true => optK (argsG s.mem c.args args) fun (ds, ks, bs) => optK (pack c.ta ds) fun x =>
   chkAll bs <| Option.bind (c.F x) fun y=>match fillR c.res (unpack c.tr y) with
    |some (vs,[])=>optK (tup2 vs) fun v=>K (.eff { val:=v,upd:=frees2 ks,tip:=[],rd:=args.flatMap keyV })
    |_=>none
  |false=>none
def argLCs (m:List (Tr E2)):List CSh→List Cell→Option (List Dyn×List Bool)
 |[],[]=>some ([],[])
 |c :: cs,x :: xs=>match c.arg m false x,argLCs m cs xs with
  |some (d,[],b),some (ds,bs)=>some (d++ds,b++bs)
  |_,_=>none
 |_,_=>none
def PSh.argL (m:List (Tr E2)):PSh→V2→Option (List Dyn×List Bool)
 |.c x,.c y=>match x.arg m false y with
  |some (d,[],b)=>some (d,b)
  |_=>none
 |.agg l,.agg cs=>argLCs m l cs
 |_,_=>none
def argsL (m:List (Tr E2)):List PSh→List V2→Option (List Dyn×List Bool)
 |[],[]=>some ([],[])
 |p :: ps,x :: xs=>match p.argL m x,argsL m ps xs with
  |some (d,b),some (ds,bs)=>some (d++ds,b++bs)
  |_,_=>none
 |_,_=>none
def callL (E : SEnv) (s : S2) (f : Nat) (args : List V2) (K : Res2 → Option α) : Option α :=
 optK (E.calN f) fun c=>match !Nat.beq c.rk 65535 with
  | true => optK (argsL s.mem c.args args) fun (ds, bs) => optK (pack c.ta ds) fun x =>
   chkAll bs <| Option.bind (c.F x) fun y=>match fillR c.res (unpack c.tr y) with
    |some (vs,[])=>optK (tup2 vs) fun v=>K (.eff { val:=v,upd:=[],tip:=[],rd:=args.flatMap keyV })
    |_=>none
  |false=>none
def callK (E : SEnv) (wk : Wk) (ctx : Nat) (s : S2) (row d nx f : Nat) (args : List V2) (K : Res2 → Option α) : Option α :=
 match E.fns f with
 | some fn => match fn.sh with
  |false=>callN E s row d nx f args K
  | true => match Nat.beq args.length fn.np && args.all V2.noTup with
   |false=>none
   | true =>
    let st:S2:={ slots:=argSlots2 0 args .lf,outer:=loose s.slots :: s.outer,mem:=s.mem++[.lf],tips:=s.tips,nv:=nx }
    let back : S2 → Option α := fun s' => match s'.outer with
     | o :: os => ressK s' fn.res fun vs => match Nat.beq row 0 with
      |true=>optK (imp2r s'.mem s.mem.length vs) fun vs=>optK (tup2 vs) fun v=>
       K (.all v { slots:=merge s.slots o,outer:=os,mem:=s'.mem.take s.mem.length,tips:=s'.tips,nv:=s'.nv })
      | false => match !Nat.beq (row % 65536) 0 && !Nat.beq (row / 65536) 0, impPr s'.mem s.mem.length (row % 65536) (lvQ s.mem.length d) d s'.nv (E.ety ctx d) 1 vs with
       | true, some (vs, [u]) => match Nat.beq (row / 65536) u.t.size with
        |true=>optK (tup2 vs) fun v=>
         K (.all v { slots:=merge s.slots o,outer:=os,mem:=updM (s'.mem.take s.mem.length) [(lvQ s.mem.length d,d,some (.row s'.nv u.t u.l))],tips:=s'.tips,nv:=s'.nv+1 })
        |false=>none
       |true,some (vs,[])=>optK (tup2 vs) fun v=>
        K (.all v { slots:=merge s.slots o,outer:=os,mem:=s'.mem.take s.mem.length,tips:=s'.tips,nv:=s'.nv+1 })
       |_,_=>none
     |[]=>none
    match E.ccut ctx d with
    |none=>wk α (ctxOf ctx d) 0 fn.body st fun ax s'=>match ax with
     |.exit _=>none
     |_=>back s'
    |some os=>Option.bind (wk (outTy os).den (ctxOf ctx d) 0 fn.body st fun ax s'=>match ax with
     |.exit _=>none
     |_=>outsG os .ret s') fun y=>outsK os y fun _ s'=>back s'
 |none=>callN E s row d nx f args K
def callFK (E : SEnv) (s : S2) (f : Nat) (args : List V2) (K : Res2 → Option α) : Option α :=
 optK (E.cal f) fun c=>match flatRes c.res && !Nat.beq c.rk 65535 with
  | true => optK (argsFK s.mem c.args args) fun (ds, bs) => optK (pack c.ta ds) fun x =>
   chkAll bs <| Option.bind (c.F x) fun y=>match fillR c.res (unpack c.tr y) with
    |some (vs,[])=>optK (tup2 vs) fun v=>K (.eff { val:=v,upd:=[],tip:=[],rd:=args.flatMap (keyF2 s.mem) })
    |_=>none
  |false=>none
def run2 (E : SEnv) (wk : Wk) (ctx : Nat) (s : S2) (row dst nvi : Nat) (op : AOp) (K : Res2 → Option α) : Option α :=
 match op with
 | .mov x => optK (ev2 s x) fun v => match Nat.beq (row % 65536) 6 && v.isRow with
  | true => match v with
   |.c (.ref lv sl ver t)=>optK (rowOf s.mem lv sl ver) fun r=>optK (castL r.t t r.l) fun l=>
    K (.eff { val:=.c (.ref (lvQ s.mem.length dst) dst nvi t),upd:=[(lv,sl,none),(lvQ s.mem.length dst,dst,some (.row nvi t l))],tip:=[],rd:=[keyE lv sl] })
   |_=>none
  |false=>match nilRow row with
  |false=>K (pureE v)
  | true => match v with
   |.c (.nil true)=>optK (E.ety ctx dst) fun t=>match Nat.beq t.size (row / 65536) with
    |true=>K (.eff { val:=.c (.ref (lvQ s.mem.length dst) dst nvi t),upd:=[(lvQ s.mem.length dst,dst,some (.row nvi t []))],tip:=[],rd:=[] })
    |false=>none
   |.c (.nil _)=>none
   |.c (.sl ..)=>none
   |v=>K (pureE v)
 |.pick c a b=>boolK (ev2 s c) fun t=>match ev2 s a,ev2 s b with
  |some (.c (.bool x)),some (.c (.bool y))=>K (pureC (.bool (cond t x y)))
  |some x,some y=>cond t (K (pureE x)) (K (pureE y))
  |some x,none=>chk t (K (pureE x))
  |none,some y=>chk (!t) (K (pureE y))
  |none,none=>none
 |.alloc z=>optK (cstCs z) fun cs=>K (.eff { val:=.c (.ptr (lvQ s.mem.length dst) dst nvi 0 0),upd:=[(lvQ s.mem.length dst,dst,some (.box nvi cs))],tip:=[],rd:=[] })
 |.box x=>optK ((ev2 s x).bind V2.cells?) fun cs=>match Nat.beq row 14 with
  |true=>K (.eff { val:=.c (.ptr (s.mem.length-2) (1048576+dst) nvi 0 0),upd:=[(s.mem.length-2,1048576+dst,some (.box nvi cs))],tip:=[],rd:=[] })
  |false=>match Nat.beq row 13 with
  |true=>none
  |false=>K (.eff { val:=.c (.ptr (lvQ s.mem.length dst) dst nvi 0 0),upd:=[(lvQ s.mem.length dst,dst,some (.box nvi cs))],tip:=[],rd:=[] })
 |.build z ps=>optK ((cstCs z).bind fun cs=>fill2 s cs ps) fun cs=>K (pureE (.agg cs))
 | .buildSlice sz n z ps => match Nat.beq row 2 with
  | true => match Nat.beq n 0 with
   |true=>none
   |false=>optK ((cstDs z).bind fun zc=>fill2 s (List.replicate n zc).flatten (ps.map fun p=>(p.1*sz,sz,p.2))) fun cs=>
    K (.eff { val:=.c (.bref (lvQ s.mem.length dst) dst nvi 0 n sz),upd:=[(lvQ s.mem.length dst,dst,some (.box nvi cs))],tip:=[],rd:=[] })
  |false=>optK (E.ety ctx dst) fun t=>optK (cstDs z) fun zc=>optK (fillE s sz (List.replicate n zc) ps) fun (els,ks)=>match Nat.beq t.size sz,packEs t els with
  | true, some l => match Nat.beq row 0 with
   |true=>K (.eff { val:=.c (.sl t l .full),upd:=frees2 ks,tip:=[],rd:=keysE ks })
   |false=>match hasKey ks (lvQ s.mem.length dst) dst with
    |true=>none
    |false=>K (.eff { val:=.c (.ref (lvQ s.mem.length dst) dst nvi t),upd:=frees2 ks++[(lvQ s.mem.length dst,dst,some (.row nvi t l))],tip:=[],rd:=keysE ks })
  |_,_=>none
 |.load sz agg x=>cellK (ev2 s x) fun p=>loadK s.mem sz p fun cs=>optK (wrap2 agg cs) fun v=>K (.eff { val:=v,upd:=[],tip:=[],rd:=keyC p })
 |.store sz x v=>cellK (ev2 s x) fun p=>optK ((ev2 s v).bind V2.cells?) fun new=>storeK s.mem sz p new K
 |.nilCheck x=>optK (ev2 s x) fun v=>match v with
  |.c (.ptr lv sl ver i off)=>K (pureC (.ptr lv sl ver i off))
  |.c (.dptr t e off)=>K (pureC (.dptr t e off))
  |.clo f cs=>K (pureE (.clo f cs))
  |_=>none
 |.bin op x y=>cellK (ev2 s x) fun a=>cellK (ev2 s y) fun b=>binK op a b fun c=>K (pureC c)
 |.eqb neg x y=>boolK (ev2 s x) fun a=>boolK (ev2 s y) fun b=>K (pureC (.bool (match neg with
  |true=>!(a==b)
  |false=>a==b)))
 | .isErr neg x => match ev2 s x with
  |some (.c (.er b))=>match neg with
   |true=>K (pureC (.bool b))
   |false=>K (pureC (.bool (!b)))
  |_=>none
 | .sliceL lo n sz x => match ev2 s x with
  |some (.c (.ptr lv sl ver i off))=>match Nat.beq i 0&&Nat.blt lo n with
   |true=>K (pureC (.bref lv sl ver (off+lo*sz) (n-lo) sz))
   |false=>none
  |_=>none
 | .eqA neg sz cells x y => match ev2 s x, ev2 s y with
  | some (.agg xs), some (.agg ys) => match Nat.beq xs.length sz && Nat.beq ys.length sz, eqAll2 xs ys cells with
   |true,some b=>K (pureC (.bool (match neg with
    |true=>!b
    |false=>b)))
   |_,_=>none
  |_,_=>none
 |.un op x=>cellK (ev2 s x) fun a=>unK op a fun c=>K (pureC c)
 |.conv k x=>intK (ev2 s x) fun n=>K (pureC (.int k (k.wrap n)))
 | .field off sz agg x => match ev2 s x with
  |some (.agg cs)=>match Nat.ble (off+sz) cs.length,wrap2 agg ((cs.drop off).take sz) with
   |true,some v=>K (pureE v)
   |_,_=>none
  |_=>none
 |.fieldAddr off x=>match ev2 s x with
  |some (.c (.ptr lv sl ver i o))=>K (pureC (.ptr lv sl ver i (o+off)))
  |some (.c (.dptr t e o))=>K (pureC (.dptr t e (o+off)))
  |_=>none
 | .indexAddr sz x i => intK (ev2 s i) fun n => match ev2 s x with
  |some (.c (.sl t l _))=>match Nat.beq t.size sz with
   |true=>Option.bind (idx l n) fun e=>K (pureC (.dptr t e 0))
   |false=>none
  |some (.c (.ref lv sl ver t))=>match Nat.beq t.size sz with
   |true=>optK (rowOf s.mem lv sl ver) fun r=>chk (inR n r.l.length) (K (pureC (.ptr lv sl ver n.toNat 0)))
   |false=>none
  |some (.c (.refp lv sl ver t off len))=>match Nat.beq t.size sz with
   |true=>chk (inR n len) (K (pureC (.ptr lv sl ver (off+n.toNat) 0)))
   |false=>none
  |_=>none
 |.indexArr n sz x i=>natK (ev2 s i) fun k=>match ev2 s x with
  |some (.c (.ptr lv sl ver j o))=>selK n k fun k=>K (pureC (.ptr lv sl ver j (o+k*sz)))
  |some (.c (.dptr t e o))=>selK n k fun k=>K (pureC (.dptr t e (o+k*sz)))
  |_=>none
 | .indexA n sz agg x i => natK (ev2 s i) fun k => match ev2 s x with
  |some (.agg cs)=>selK n k fun k=>match Nat.ble (k*sz+sz) cs.length,wrap2 agg ((cs.drop (k*sz)).take sz) with
   |true,some v=>K (pureE v)
   |_,_=>none
  |_=>none
 |.indexS x i=>intK (ev2 s i) fun n=>match ev2 s x with
  |some (.c (.str b))=>Option.bind (idx b n) fun c=>K (pureC (.int .u8 c.toNat))
  |_=>none
 |.slice sz x lo hi mx=>cellK (ev2 s x) fun c=>boundK lo s fun l=>boundK hi s fun h=>boundK mx s fun k=>match Nat.beq row 3&&(mx.isNone&&c.isRow) with
  |true=>cutK s.mem sz nvi c l h K
  |false=>sliceK s.mem sz c l h k fun v=>K (pureC v)
 |.sliceS x lo hi=>match ev2 s x with
  |some (.c (.str b))=>boundK lo s fun lo=>boundK hi s fun hi=>chk (partOK b.length lo hi) (K (pureC (.str (partL b lo hi))))
  |_=>none
 | .extract x i => match ev2 s x with
  |some (.tup vs)=>match vs[i]? with
   |some (a,cs)=>optK (wrap2 a cs) fun v=>K (pureE v)
   |none=>none
  |_=>none
 |.len x=>cellK (ev2 s x) fun c=>match c with
  |.sl _ l _=>K (pureC (.int .i64 l.length))
  |.nil _=>K (pureC (.int .i64 0))
  |.ref lv sl ver _=>optK (rowOf s.mem lv sl ver) fun r=>K (pureC (.int .i64 r.l.length))
  |.refp _ _ _ _ _ len=>K (pureC (.int .i64 len))
  |_=>none
 |.capF x=>cellK (ev2 s x) fun c=>match c with
  |.nil true=>K (pureC (.int .i64 0))
  |.sl _ l .full=>K (pureC (.int .i64 l.length))
  |_=>none
 |.lenS x=>match ev2 s x with
  |some (.c (.str b))=>K (pureC (.int .i64 b.length))
  |_=>none
 |.lenC n=>K (pureC (.int .i64 n))
 |.s2b x=>match ev2 s x with
  |some (.c (.str b))=>K (pureC (.sl (.int .u8) (bytesL b) .d))
  |_=>none
 |.b2s x=>cellK (ev2 s x) fun c=>match c with
  |.str _=>none
  |c=>newsK s.mem c (some (.int .u8)) fun n=>optK (castL n.t (.int .u8) n.l) fun l=>K (.eff { val:=.c (.str (l.map fun n=>UInt8.ofNat n.toNat)),upd:=[],tip:=[],rd:=keyC c })
 |.mkSet=>K (.eff { val:=.c (.mp (lvQ s.mem.length dst) dst nvi),upd:=[(lvQ s.mem.length dst,dst,some (.set nvi []))],tip:=[],rd:=[] })
 |.hasK m k=>match ev2 s m,ev2 s k with
  |some (.c (.mp lv sl ver)),some (.c (.str b))=>optK (setOf s.mem lv sl ver) fun l=>K (.eff { val:=.c (.bool (hasB l b)),upd:=[],tip:=[],rd:=[keyE lv sl] })
  |_,_=>none
 |.addK m k=>match ev2 s m,ev2 s k with
  |some (.c (.mp lv sl ver)),some (.c (.str b))=>optK (setOf s.mem lv sl ver) fun l=>K (.eff { val:=.tup [],upd:=[(lv,sl,some (.set ver (addB l b)))],tip:=[],rd:=[keyE lv sl] })
  |_,_=>none
 | .mini x y => match ev2 s x, ev2 s y with
  |some (.c (.int k a)),some (.c (.int k' b))=>match decEq k k' with
   |.isTrue _=>K (pureC (.int k (min a b)))
   |.isFalse _=>none
  |_,_=>none
 | .maxi x y => match ev2 s x, ev2 s y with
  |some (.c (.int k a)),some (.c (.int k' b))=>match decEq k k' with
   |.isTrue _=>K (pureC (.int k (max a b)))
   |.isFalse _=>none
  |_,_=>none
 |.append sz bytes x y=>match Nat.beq row 11 with
  |true=>none
  |false=>cellK (ev2 s x) fun a=>cellK (ev2 s y) fun b=>appK s (!Nat.beq row 0) (placeA row (lvQ s.mem.length dst) dst).1 (placeA row (lvQ s.mem.length dst) dst).2 nvi sz bytes a b (E.ety ctx dst) K
 |.clone sz bytes x=>match Nat.beq row 11 with
  |true=>none
  |false=>cellK (ev2 s x) fun b=>match b with
  |.str _=>none
  |b=>appK s (!Nat.beq row 0) (lvQ s.mem.length dst) dst nvi sz bytes (.nil true) b (E.ety ctx dst) K
 | .copy sz x y => cellK (ev2 s x) fun a => cellK (ev2 s y) fun b => match a with
  |.ref lv sl ver t=>optK (rowOf s.mem lv sl ver) fun r=>newsK s.mem b (some t) fun n=>match Nat.beq t.size sz,castL r.t t r.l,castL n.t t n.l with
   |true,some l,some news=>K (.eff { val:=.c (.int .i64 ((min news.length l.length:Nat):Int)),upd:=[(lv,sl,some (.row ver t (copyL news l)))],tip:=[],rd:=keyE lv sl :: keyC b })
   |_,_,_=>none
  |.refp lv sl ver t off len=>optK (rowOf s.mem lv sl ver) fun r=>newsK s.mem b (some t) fun n=>match Nat.beq t.size sz,castL r.t t r.l,castL n.t t n.l with
   |true,some l,some news=>chk (decide (off+len≤l.length)) (K (.eff { val:=.c (.int .i64 ((min news.length len:Nat):Int)),upd:=[(lv,sl,some (.row ver t (l.take off++(news.take (min news.length len)++l.drop (off+(news.take (min news.length len)).length)))))],tip:=[],rd:=keyE lv sl :: keyC b }))
   |_,_,_=>none
  | .bref lv sl ver off n sz' => match mget s.mem lv sl with
   |some (.box v cs)=>newsK s.mem b none fun nw=>match Nat.beq v ver&&Nat.beq sz' sz&&Nat.ble (off+n*sz) cs.length&&Nat.beq nw.t.size sz with
    |true=>K (.eff { val:=.c (.int .i64 ((min nw.l.length n:Nat):Int)),upd:=[(lv,sl,some (.box ver (Eng.splice cs off ((nw.l.take (min nw.l.length n)).flatMap (cellsT nw.t)))))],tip:=[],rd:=keyE lv sl :: keyC b })
    |false=>none
   |_=>none
  |_=>none
 |.appendZ sz bytes z x n=>cellK (ev2 s x) fun a=>natK (ev2 s n) fun k=>optK (E.ety ctx dst) fun t=>optK ((cstDs z).bind (packE t)) fun z'=>match Nat.beq t.size sz&&Nat.beq z.length sz with
  |true=>chk (room k bytes) (appK s (!Nat.beq row 0) (lvQ s.mem.length dst) dst nvi sz bytes a (.sl t (List.replicate k z') .d) (some t) K)
  |false=>none
 |.makeSlice sz bytes z l c=>natK (ev2 s l) fun l=>natK (ev2 s c) fun c=>optK (E.ety ctx dst) fun t=>optK ((cstDs z).bind (packE t)) fun z'=>match Nat.beq t.size sz&&Nat.beq z.length sz with
  |true=>chk (decide (l≤c)&&room c bytes) (K (.eff { val:=.c (.ref (lvQ s.mem.length dst) dst nvi t),upd:=[(lvQ s.mem.length dst,dst,some (.row nvi t (List.replicate l z')))],tip:=[],rd:=[] }))
  |false=>none
 | .sliceB n sz x => cellK (ev2 s x) fun c => match c with
  |.ptr lv sl ver i off=>match Nat.beq i 0 with
   |true=>K (pureC (.bref lv sl ver off n sz))
   |false=>none
  |_=>none
 |.makeFunc f cap=>optK ((evs2 s cap).bind cellList) fun cs=>K (pureE (.clo f cs))
 | .clear sz z x => cellK (ev2 s x) fun a => match a with
  |.ref lv sl ver t=>optK (rowOf s.mem lv sl ver) fun r=>optK ((cstDs z).bind (packE t)) fun z'=>match Nat.beq t.size sz&&Nat.beq z.length sz,castL r.t t r.l with
   |true,some l=>K (.eff { val:=.tup [],upd:=[(lv,sl,some (.row ver t (List.replicate l.length z')))],tip:=[],rd:=[keyE lv sl] })
   |_,_=>none
  |.refp lv sl ver t off len=>optK (rowOf s.mem lv sl ver) fun r=>optK ((cstDs z).bind (packE t)) fun z'=>match Nat.beq t.size sz&&Nat.beq z.length sz,castL r.t t r.l with
   |true,some l=>chk (decide (off+len≤l.length)) (K (.eff { val:=.tup [],upd:=[(lv,sl,some (.row ver t (l.take off++List.replicate len z'++l.drop (off+len))))],tip:=[],rd:=[keyE lv sl] }))
   |_,_=>none
  |_=>none
 | .compact x => cellK (ev2 s x) fun a => match a with
  |.nil true=>K (pureC (.nil true))
  |.ref lv sl ver t=>optK (rowOf s.mem lv sl ver) fun r=>match Nat.beq t.size 1,castL r.t (.int .i64) r.l with
   |true,some l=>chk (decide (l.length<4611686018427387904)) (K (.eff { val:=.c (.ref lv sl nvi (.int .i64)),upd:=[(lv,sl,some (.row nvi (.int .i64) (compI l)))],tip:=[],rd:=[keyE lv sl] }))
   |_,_=>none
  |_=>none
 | .sort x => cellK (ev2 s x) fun a => match a with
  |.nil true=>K (.eff { val:=.tup [],upd:=[],tip:=[],rd:=[] })
  |.ref lv sl ver t=>optK (rowOf s.mem lv sl ver) fun r=>match Nat.beq t.size 1,castL r.t (.int .i64) r.l with
   |true,some l=>chk (decide (l.length<4611686018427387904)) (K (.eff { val:=.tup [],upd:=[(lv,sl,some (.row ver (.int .i64) (sortI l)))],tip:=[],rd:=[keyE lv sl] }))
   |_,_=>none
  |_=>none
 | .grow sz x n => cellK (ev2 s x) fun a => natK (ev2 s n) fun _ => match a, E.ety ctx dst with
  |.nil true,some t=>match Nat.beq t.size sz with
   |true=>K (.eff { val:=.c (.sl t [] (.app nvi)),upd:=[],tip:=[(nvi,true)],rd:=[] })
   |false=>none
  |_,_=>none
 |.call f args=>match Nat.beq row 7,Nat.beq row 8,Nat.beq row 9,Nat.beq row 10 with
  |false,false,false,false=>optK (evs2 s args) fun aSz=>callK E wk ctx s row dst nvi f aSz K
  |false,false,true,_=>optK (evs2 s args) fun aSz=>callG E s f aSz K
  |false,false,false,true=>optK (evs2 s args) fun aSz=>callL E s f aSz K
  |_,_,_,_=>none
 |.callF f args=>optK (evs2 s args) fun aSz=>match E.sh f with
  |true=>callK E wk ctx s row dst nvi f aSz K
  |false=>callFK E s f aSz K
 |.callv x args=>match ev2 s x with
  |some (.clo f cap)=>optK (evs2 s args) fun aSz=>callK E wk ctx s row dst nvi f (aSz++cap.map .c) K
  |_=>none
 |_=>none
def step2 (E : SEnv) (wk : Wk) (ctx : Nat) (s : S2) (nvi : Nat) (o : AOper) (K : S2 → Res2 → Option α) : Option α :=
 match Nat.ble 4294967296 o.row with
 |true=>none
 |false=>match o.gd with
 |none=>run2 E wk ctx s o.row (o.dst.getD 0) nvi o.op (K s)
 |some (g,b)=>match s.slots.get? g with
  | some (.c (.bool t)) => cond t
    (let s' := { s with slots := s.slots.set g (some (.c (.bool true))) }
     match b with
     |true=>run2 E wk ctx s' o.row (o.dst.getD 0) nvi o.op (K s')
     |false=>K s' (pureE (.tup [])))
    (let s' := { s with slots := s.slots.set g (some (.c (.bool false))) }
     match b with
     |true=>K s' (pureE (.tup []))
     |false=>run2 E wk ctx s' o.row (o.dst.getD 0) nvi o.op (K s'))
  |some (.tup _)=>K s (pureE (.tup []))
  |_=>none
def runOps2 (E:SEnv) (wk:Wk) (ctx:Nat):Nat→List AOper→S2→(S2→Option α)→Option α
 |_,[],s,K=>K s
 |nx,o :: r,s,K=>step2 E wk ctx s nx o fun s e=>match e with
  |.eff e=>runOps2 E wk ctx (nx+1) r (s.app o.dst (.eff e)) K
  |.all v s'=>runOps2 E wk ctx s'.nv r { s'.app o.dst (.all v s') with nv:=s'.nv+r.length } K
def keq (a b:Nat×Nat×Nat):Bool:=Nat.beq a.1 b.1&&Nat.beq a.2.1 b.2.1&&Nat.beq a.2.2 b.2.2
def meets2 (a b:List (Nat×Nat×Nat)):Bool:=a.any fun k=>b.any (keq k)
def loud2:Res2→Bool
 |.eff e=>!(e.rd.isEmpty&&e.upd.isEmpty&&e.tip.isEmpty)
 |.all ..=>true
def clash2:Res2→Res2→Bool
 |.eff a,.eff b=>meets2 a.rd b.wr||meets2 a.wr b.rd||meets2 a.wr b.wr
 |a,b=>loud2 a&&loud2 b
def clear2 (bef:Nat) (e:Res2):List (Nat×Res2)→Bool
 |[]=>true
 |(i,x) :: r=>(bef.testBit i || !clash2 x e)&&clear2 bef e r
def past2 (l:List (Nat×Res2)):List (Nat×Res2):=l.map fun x=>(x.1,match loud2 x.2 with
 |true=>.all (.tup []) default
 |false=>x.2)
def runAny2 (E:SEnv) (wk:Wk) (ctx:Nat):Nat→Nat→List AOper→List (Nat×Res2)→S2→(S2→Option α)→Option α
 |_,_,[],_,s,K=>K s
 | i, nx, o :: r, past, s, K => step2 E wk ctx s nx o fun s e => match clear2 o.bef e past with
  |true=>match e with
   |.eff e=>runAny2 E wk ctx (i+1) (nx+1) r ((i,.eff e) :: past) (s.app o.dst (.eff e)) K
   |.all v s'=>runAny2 E wk ctx (i+1) s'.nv r ((i,.all (.tup []) default) :: past2 past) { s'.app o.dst (.all v s') with nv:=s'.nv+r.length } K
  |false=>none
def cntC:AC→Nat
 |.seq a b=>cntC a+cntC b
 |.cond _ a b=>cntC a+cntC b+1
 |.block _ c=>cntC c+1
 |.loop c=>cntC c+1
 |.region ..=>1
 |_=>0
end
def regK {α : Type} (E:SEnv) (wk:Wk) (ctx:Nat) (ops:List AOper) (draw:Bool) (s:S2) (K:S2→Option α):Option α:=
 match draw with
 |false=>runOps2 E wk ctx s.nv ops { s with nv:=s.nv+ops.length } K
 |true=>runAny2 E wk ctx 0 s.nv ops [] { s with nv:=s.nv+ops.length } K
def mildO (sh:Nat→Bool):AOp→Bool
 |.mov _|.pick .. | .nilCheck _|.bin .. | .eqb .. | .eqA .. | .un .. | .conv .. | .field .. | .fieldAddr .. | .indexAddr .. | .indexArr .. | .indexA .. | .indexS .. | .load .. | .slice .. | .sliceS .. | .extract .. | .len _|.lenS _|.lenC _|.mini .. | .maxi ..=>true
 |.callF f _=>!sh f
 |_=>false
def mildR (sh:Nat→Bool) (o:AOper):Bool:=Nat.beq o.row 0&&mildO sh o.op
def mildC (sh:Nat→Bool):AC→Bool
 |.skip=>true
 |.region ops _=>ops.all (mildR sh)
 |.seq a b=>mildC sh a&&mildC sh b
 |.cond _ a b=>mildC sh a&&mildC sh b
 |_=>false
def putsC:AC→List Nat
 |.region ops _=>ops.flatMap fun o=>o.dst.toList
 |.seq a b=>putsC a++putsC b
 |.cond _ a b=>putsC a++putsC b
 |_=>[]
def dropS:List Nat→Tr V2→Tr V2
 |[],t=>t
 |n :: r,t=>dropS r (t.set n none)
def plainV (t:Ty) (c:Cell):Option t.den:=
 match t,c with
 |.int k,.int k' a=>match decEq k k' with
  |.isTrue _=>some a
  |.isFalse _=>none
 |.bool,.bool b=>some b
 |.str,.str s=>some s
 |_,_=>none
def plainC:(t:Ty)→t.den→Option Cell
 |.int k,a=>some (.int k a)
 |.bool,b=>some (.bool b)
 |.str,s=>some (.str s)
 |_,_=>none
def valAt (t:Ty) (n:Nat) (ax:AX) (s:S2):Option t.den:=
 match ax with
 |.normal=>match s.slots.get? n with
  |some (.c c)=>plainV t c
  |_=>none
 |_=>none
def setB (s:S2) (c:Opd) (b:Bool):S2:=
 match c with
 |.t n=>{ s with slots:=s.slots.set n (some (.c (.bool b))) }
 |.c _=>s
def nextI (i:Nat):Nat:=match Nat.blt i 100000 with
 |true=>i+100000
 |false=>i
def pickI (o:Option (List Dyn)) (i:Nat):Nat:=match o with
 |some _=>i
 |none=>i+200000
def walk (E : SEnv) : Nat → Wk
 |0=>fun _ _ _ _ _ _=>none
 | n + 1 => fun α ctx i c s K =>
  match c with
  |.skip=>K .normal s
  | .region ops draw =>
   match E.bcut ctx i with
   |some m=>match ops.all (mildR E.sh) with
    |true=>Option.bind (regK E (walk E n) ctx ops draw s (valAt m.2 m.1 .normal)) fun y=>optK (plainC m.2 y) fun y=>K .normal { s with slots:=(dropS (putsC (.region ops draw)) s.slots).set m.1 (some (.c y)) }
    |false=>none
   |none=>
   match E.cuts ctx i with
   |none=>regK E (walk E n) ctx ops draw s fun s'=>K .normal s'
   |some os=>Option.bind (regK E (walk E n) ctx ops draw s (outsG os .normal)) fun y=>outsK os y K
  |.seq a b=>walk E n α ctx i a s fun ax s'=>match ax with
   |.normal=>walk E n α ctx (i+cntC a) b s' K
   |ax=>K ax s'
  | .cond c a b =>
   match E.bcut ctx i with
   | some m => match mildC E.sh a && mildC E.sh b with
    |true=>Option.bind (boolK (ev2 s c) fun t=>cond t (walk E n m.2.den ctx (i+1) a (setB s c true) (valAt m.2 m.1)) (walk E n m.2.den ctx (i+1+cntC a) b (setB s c false) (valAt m.2 m.1)))
     fun y=>optK (plainC m.2 y) fun y=>K .normal { s with slots:=(dropS (putsC a++putsC b) s.slots).set m.1 (some (.c y)) }
    |false=>none
   |none=>
   match E.cuts ctx i with
   |none=>boolK (ev2 s c) fun t=>cond t (walk E n α ctx (i+1) a (setB s c true) K) (walk E n α ctx (i+1+cntC a) b (setB s c false) K)
   | some os => Option.bind (boolK (ev2 s c) fun t => cond t (walk E n (outTy os).den ctx (i + 1) a (setB s c true) (outsG os)) (walk E n (outTy os).den ctx (i + 1 + cntC a) b (setB s c false) (outsG os)))
     fun y=>outsK os y K
  | .block id c =>
   match E.cuts ctx i with
   | none => walk E n α ctx (i + 1) c s fun ax s' => match ax with
    |.exit id'=>match Nat.beq id' id with
     |true=>K .normal s'
     |false=>K (.exit id') s'
    |ax=>K ax s'
   | some os => Option.bind (walk E n (outTy os).den ctx (i + 1) c s fun ax s' => match ax with
    |.exit id'=>match Nat.beq id' id with
     |true=>outsG os .normal s'
     |false=>outsG os (.exit id') s'
    |ax=>outsG os ax s') fun y=>outsK os y K
  | .loop c => match E.unr ctx i with
   |true=>walk E n α ctx (i+1) c s fun ax s'=>match ax with
    |.normal=>walk E n α ctx (nextI i) (.loop c) s' K
    |ax=>K ax s'
   |false=>optK (E.loops ctx (pickI ((E.loops ctx i c).bind fun L=>L.T.get s) i) c) fun L=>optK (L.T.get s) fun ds=>optK (pack L.T.tys ds) fun x=>
   Option.bind (L.F x) fun y=>outsK L.outs y K
  |.exit id=>K (.exit id) s
  |.ret=>K .ret s
def loopStep (E:SEnv) (N ctx i:Nat) (body:AC) (T:Tmpl) (outs:Outs) (rec:(tyL T.tys).den→Option (outTy outs).den) (x:(tyL T.tys).den):Option (outTy outs).den:=
 optK (T.st (unpack T.tys x)) fun s=>walk E N (outTy outs).den ctx (i+1) body s fun ax s'=>match ax with
  |.normal=>optK (T.get s') fun ds=>optK (pack T.tys ds) fun y=>rec y
  |ax=>outsG outs ax s'
def loopF {α β : Type} (step:(α→Option β)→α→Option β):Nat→α→Option β
 |0,_=>none
 |n+1,x=>step (loopF step n) x
def fnRun (E : SEnv) (N : Nat) (f : Nat) (args : List PSh) (ta : List Ty) (res : List (Bool × List CSh)) (tr : List Ty) (rk : Nat) (x : (tyL ta).den) : Option (tyL tr).den :=
 optK (E.fns f) fun fn=>match fillP args (unpack ta x) with
 | some (vs, []) => match Nat.beq vs.length fn.np with
  | true => walk E N _ 0 0 fn.body { slots := argSlots2 0 vs .lf, outer := [], mem := [.lf], tips := .lf, nv := 0 } fun ax s => match ax with
   |.exit _=>none
   |_=>ressK s fn.res fun vs=>match rkOK s.mem rk vs && !Nat.beq rk 65535 with
    |true=>optK (resDyn s.mem res vs) fun ds=>pack tr ds
    |false=>none
  |false=>none
 |_=>none
end Go.Sym
