/- An abstract machine over pure data: definitions. It mirrors what a cut of Go code computes, without addresses, capacities or the tape. -/
import Derived.Orders
set_option linter.unusedVariables false
set_option linter.unusedSimpArgs false
namespace Go.Eng
open Go
inductive Ex where
 |v (i:Nat)
 |s (i a n s:Nat)
 deriving Inhabited
inductive D where
 |sc (v:Value)
 |sl (els:List (List D))
 |er
 |rg (k:IntKind) (e:Ex)
 deriving Inhabited
inductive Own where
 |full
 |tip (ver sz:Nat)
 |bor
 deriving Inhabited
inductive AV where
 |d (x:D)
 |own (els:List (List D)) (o:Own)
 |agg (cs:List AV)
 |tup (vs:List AV)
 |ref (lv sl ver off len sz:Nat)
 |ptr (lv sl ver i off:Nat)
 |bref (lv sl ver off n sz:Nat)
 |dptr (e:List D) (off:Nat)
 |clo (f:Nat) (cap:List AV)
 |mp (lv sl ver:Nat)
 deriving Inhabited
inductive Ent where
 |row (ver:Nat) (els:List (List D))
 |box (ver:Nat) (cells:List AV)
 |fro (ver:Nat) (els:List (List D))
 |mp (ver:Nat) (ks:List (List UInt8))
 deriving Inhabited
inductive Tr (α : Type) where
 |lf
 |nd (v:Option α) (l r:Tr α)
 deriving Inhabited
def Tr.get? {α : Type} : Tr α→Nat→Option α
 |.lf,_=>none
 | .nd v l r, n =>
  match Nat.beq n 0 with
  |true=>v
  |false=>match Nat.beq (n % 2) 1 with
   |true=>l.get? (n / 2)
   |false=>r.get? (n / 2-1)
def Tr.top {α : Type} : Tr α→Option α
 |.lf=>none
 |.nd v _ _=>v
def Tr.left {α : Type} : Tr α→Tr α
 |.lf=>.lf
 |.nd _ l _=>l
def Tr.right {α : Type} : Tr α→Tr α
 |.lf=>.lf
 |.nd _ _ r=>r
def Tr.setF {α : Type} : Nat→Tr α→Nat→Option α→Tr α
 |0,t,_,_=>t
 | f + 1, t, n, x =>
  match Nat.beq n 0 with
  |true=>.nd x t.left t.right
  |false=>match Nat.beq (n % 2) 1 with
   |true=>.nd t.top (Tr.setF f t.left (n / 2) x) t.right
   |false=>.nd t.top t.left (Tr.setF f t.right (n / 2-1) x)
def Tr.set {α : Type} (t:Tr α) (n:Nat) (x:Option α):Tr α:=Tr.setF (n+1) t n x
structure St where
 slots:Tr AV
 mem:List (Tr Ent)
 tips:Tr Unit
 nv:Nat
 deriving Inhabited
inductive Opd where
 |t (n:Nat)
 |c (v:AV)
 deriving Inhabited
def undefA:AV:=.tup []
def getS (s:Tr AV) (n:Nat):AV:=(s.get? n).getD undefA
def Opd.ev (s:Tr AV):Opd→AV
 |.t n=>getS s n
 |.c v=>v
inductive AOp where
 |mov (x:Opd)
 |pick (c a b:Opd)
 |alloc (zero:List AV)
 |box (x:Opd)
 |build (zero:List AV) (parts:List (Nat×Nat×Opd))
 |buildSlice (sz n:Nat) (zero:List D) (parts:List (Nat×Opd))
 |load (sz:Nat) (agg:Bool) (x:Opd)
 |store (sz:Nat) (x v:Opd)
 |nilCheck (x:Opd)
 |bin (op:BinOp) (x y:Opd)
 |eqb (neg:Bool) (x y:Opd)
 |eqA (neg:Bool) (sz:Nat) (cells:List (Nat×Nat)) (x y:Opd)
 |isErr (neg:Bool) (x:Opd)
 |un (op:UnOp) (x:Opd)
 |conv (k:IntKind) (x:Opd)
 |field (off sz:Nat) (agg:Bool) (x:Opd)
 |fieldAddr (off:Nat) (x:Opd)
 |indexAddr (sz:Nat) (x i:Opd)
 |indexArr (n sz:Nat) (x i:Opd)
 |indexA (n sz:Nat) (agg:Bool) (x i:Opd)
 |indexS (x i:Opd)
 |slice (sz:Nat) (x:Opd) (lo hi mx:Option Opd)
 |sliceS (x:Opd) (lo hi:Option Opd)
 |extract (x:Opd) (i:Nat)
 |len (x:Opd)
 |lenS (x:Opd)
 |capF (x:Opd)
 |b2s (x:Opd)
 |s2b (x:Opd)
 |mkSet
 |hasK (m k:Opd)
 |addK (m k:Opd)
 |lenC (n:Nat)
 |mini (x y:Opd)
 |maxi (x y:Opd)
 |append (sz bytes:Nat) (x y:Opd)
 |appendZ (sz bytes:Nat) (z:List D) (x n:Opd)
 |copy (sz:Nat) (x y:Opd)
 |makeSlice (sz bytes:Nat) (zero:List D) (len cap:Opd)
 |makeFunc (f:Nat) (cap:List Opd)
 |sliceB (n sz:Nat) (x:Opd)
 |sliceL (lo n sz:Nat) (x:Opd)
 |clear (sz:Nat) (zero:List D) (x:Opd)
 |grow (sz:Nat) (x n:Opd)
 |clone (sz bytes:Nat) (x:Opd)
 |sort (x:Opd)
 |compact (x:Opd)
 |bad
 |call (f:Nat) (args:List Opd)
 |callF (f:Nat) (args:List Opd)
 |callv (x:Opd) (args:List Opd)
 deriving Inhabited
structure AOper where
 dst:Option Nat
 op:AOp
 gd:Option (Nat×Bool)
 bef:Nat
 row:Nat
 deriving Inhabited
inductive AC where
 |skip
 |region (ops:List AOper) (draw:Bool)
 |seq (a b:AC)
 |cond (c:Opd) (a b:AC)
 |block (id:Nat) (c:AC)
 |loop (c:AC)
 |exit (id:Nat)
 |ret
 deriving Inhabited
inductive ARes where
 |t (n:Nat)
 |cell (n sz:Nat) (agg:Bool)
 deriving Inhabited
structure AFn where
 np:Nat
 nt:Nat
 res:List ARes
 body:AC
 sh:Bool
 deriving Inhabited
def memGet (m:List (Tr Ent)) (lv sl:Nat):Option Ent:=(m[lv]?).bind fun t=>t.get? sl
def memSet (m:List (Tr Ent)) (lv sl:Nat) (e:Option Ent):List (Tr Ent):=m.modify lv fun t=>t.set sl e
def rowAt (m:List (Tr Ent)) (lv sl ver:Nat):Option (List (List D)):=
 match memGet m lv sl with
 |some (.row v els)=>match Nat.beq v ver with|true=>some els|false=>none
 |_=>none
def boxAt (m:List (Tr Ent)) (lv sl ver:Nat):Option (List AV):=
 match memGet m lv sl with
 |some (.box v cs)=>match Nat.beq v ver with|true=>some cs|false=>none
 |_=>none
def setAt (m:List (Tr Ent)) (lv sl ver:Nat):Option (List (List UInt8)):=
 match memGet m lv sl with
 |some (.mp v ks)=>match Nat.beq v ver with|true=>some ks|false=>none
 |_=>none
def hasB (ks:List (List UInt8)) (k:List UInt8):Bool:=ks.any fun l=>decide (k=l)
def addB (ks:List (List UInt8)) (k:List UInt8):List (List UInt8):=match hasB ks k with
 |true=>ks
 |false=>ks++[k]
def rowRd (m:List (Tr Ent)) (lv sl ver:Nat):Option (List (List D)):=
 match memGet m lv sl with
 |some (.row v els)=>match Nat.beq v ver with|true=>some els|false=>none
 |some (.fro v els)=>match Nat.beq v ver with|true=>some els|false=>none
 |_=>none
def elsOf (m:List (Tr Ent)):AV→Option (List (List D))
 |.d (.sl els)=>some els
 |.own els _=>some els
 |.ref lv sl ver off len _=>(rowRd m lv sl ver).bind fun els=>if off+len≤els.length then some ((els.drop off).take len) else none
 |_=>none
def cellsOf:AV→Option (List AV)
 |.agg cs=>some cs
 |.tup _=>none
 |v=>some [v]
def toD (m:List (Tr Ent)):AV→Option (D×List (Nat×Nat))
 |.d x=>some (x,[])
 |.own els .full=>some (.sl els,[])
 |.own els (.tip _ _)=>some (.sl els,[])
 |.ref lv sl ver off len sz=>(elsOf m (.ref lv sl ver off len sz)).map fun els=>(.sl els,[(lv,sl)])
 |_=>none
def toDs (m:List (Tr Ent)):List AV→Option (List D×List (Nat×Nat))
 |[]=>some ([],[])
 |x :: r=>match toD m x,toDs m r with
  |some (y,k),some (ys,ks)=>some (y :: ys,k++ks)
  |_,_=>none
def elemD (m:List (Tr Ent)) (x:AV):Option (List D×List (Nat×Nat)):=(cellsOf x).bind (toDs m)
def splice {α : Type} (cs:List α) (off:Nat) (new:List α):List α:=cs.take off++new++cs.drop (off+new.length)
def bitsI (op:BinOp) (k:IntKind) (a b:Int):Option Int:=
 let x:=BitVec.ofInt k.bits a
 let y:=BitVec.ofInt k.bits b
 match op with
 |.and=>some (k.wrap (x &&& y).toNat)
 |.or=>some (k.wrap (x ||| y).toNat)
 |.xor=>some (k.wrap (x ^^^ y).toNat)
 |.andNot=>some (k.wrap (x &&& ~~~y).toNat)
 |_=>none
def binI (op:BinOp) (k:IntKind) (a:Int) (k':IntKind) (b:Int):Option Value:=
 match op with
 |.shl=>if b<0 then none else some (.int k (k.wrap (a*2 ^ min b.toNat k.bits)))
 |.shr=>if b<0 then none else some (.int k (a.fdiv (2 ^ min b.toNat k.bits)))
 |op=>if k≠k' then none else
  match op with
  |.add=>some (.int k (k.wrap (a+b)))
  |.sub=>some (.int k (k.wrap (a-b)))
  |.mul=>some (.int k (k.wrap (a*b)))
  |.quo=>if b=0 then none else some (.int k (k.wrap (a.tdiv b)))
  |.rem=>if b=0 then none else some (.int k (a.tmod b))
  |.and|.or|.xor|.andNot=>(bitsI op k a b).map (.int k)
  |.eql=>some (.bool (a==b))
  |.neq=>some (.bool (a != b))
  |.lss=>some (.bool (a<b))
  |.leq=>some (.bool (a≤b))
  |.gtr=>some (.bool (a>b))
  |.geq=>some (.bool (a≥b))
  |_=>none
def binS (op:BinOp) (x y:ByteArray):Option Value:=
 match op with
 |.add=>if ((x.size+y.size:Nat):Int)>IntKind.i64.max then none else some (.string (x++y))
 |.eql=>some (.bool (x.toList==y.toList))
 |.neq=>some (.bool !(x.toList==y.toList))
 |.lss=>some (.bool (Op.bytesLess x.toList y.toList))
 |.leq=>some (.bool (Op.bytesLess x.toList y.toList||x.toList==y.toList))
 |.gtr=>some (.bool !(Op.bytesLess x.toList y.toList||x.toList==y.toList))
 |.geq=>some (.bool !(Op.bytesLess x.toList y.toList))
 |_=>none
def binA (op:BinOp):AV→AV→Option Value
 |.d (.sc (.int k a)),.d (.sc (.int k' b))=>binI op k a k' b
 |.d (.sc (.string a)),.d (.sc (.string b))=>binS op a b
 |_,_=>none
def exE:Ex→Ex→Bool
 |.v i,.v j=>Nat.beq i j
 |.s i a n s,.s j b m t=>Nat.beq i j&&(Nat.beq a b&&(Nat.beq n m&&Nat.beq s t))
 |_,_=>false
def widK:IntKind→Nat
 |.u8=>8
 |.u64=>64
 |.i64=>63
 |_=>0
def exShl (m:Nat):Ex→Option Ex
 |.s i a n s=>match Nat.ble (n+s+m) 64 with
  |true=>some (.s i a n (s+m))
  |false=>none
 |_=>none
def exShr (m:Nat):Ex→Option Ex
 | .s i a n s => match Nat.ble (n + s) 64 && Nat.beq s 0 with
  |true=>match Nat.ble m n with
   |true=>some (.s i (a+m) (n-m) 0)
   |false=>none
  |false=>none
 |_=>none
def exOr : Ex → Ex → Option Ex
 | .s i a n s, .s j b m t => match Nat.beq i j && (Nat.ble (n + s) 64 && Nat.ble (m + t) 64) with
  | true => match Nat.beq a (b + m) && Nat.beq s (t + m) with
   |true=>some (.s i b (m+n) t)
   |false=>match Nat.beq b (a+n)&&Nat.beq t (s+n) with
    |true=>some (.s i a (n+m) s)
    |false=>none
  |false=>none
 |_,_=>none
def exW (k k' : IntKind) : Ex → Option Ex
 | .v i => match decide (k' = .i64) with
  |true=>match k with
   |.i64=>some (.v i)
   |.u64=>some (.s i 0 64 0)
   |_=>none
  |false=>none
 | .s i a n s => match decide (k = .i64 ∧ k' = .u64) && (Nat.beq a 0 && (Nat.beq n 64 && Nat.beq s 0)) with
  |true=>some (.v i)
  | false => match Nat.ble (n + s) (widK k') with
   | true => match Nat.ble (n + s) (widK k) with
    |true=>some (.s i a n s)
    |false=>match decide (k=.u8)&&(Nat.beq s 0&&Nat.ble 8 n) with
     |true=>some (.s i a 8 0)
     |false=>none
   |false=>none
def rgO:AV→Option (IntKind×Ex)
 |.d (.rg k e)=>some (k,e)
 |_=>none
def cntO:AV→Option (IntKind×Int)
 |.d (.sc (.int k n))=>some (k,n)
 |_=>none
def natI:Int→Option Nat
 |.ofNat m=>some m
 |_=>none
def binE (op:BinOp) (k k':IntKind) (e f:Ex):Option AV:=match op with
 |.or=>match decide (k=.u64∧k'=.u64) with
  |true=>(exOr e f).map fun g=>.d (.rg .u64 g)
  |false=>none
 |.eql=>match decide (k=k')&&exE e f with
  |true=>some (.d (.sc (.bool true)))
  |false=>none
 |.neq=>match decide (k=k')&&exE e f with
  |true=>some (.d (.sc (.bool false)))
  |false=>none
 |_=>none
def binC (op:BinOp) (k k':IntKind) (e:Ex) (n:Int):Option AV:=match op with
 |.or=>match decide (k=.u64∧k'=.u64∧n=0) with
  |true=>some (.d (.rg k e))
  |false=>none
 |.shl=>match natI n,decide (k=.u64) with
  |some m,true=>(exShl m e).map fun g=>.d (.rg .u64 g)
  |_,_=>none
 |.shr=>match natI n,decide (k=.u64) with
  |some m,true=>(exShr m e).map fun g=>.d (.rg .u64 g)
  |_,_=>none
 |.lss=>match decide (k=.i64∧k'=.i64∧n≤-9223372036854775808) with
  |true=>some (.d (.sc (.bool false)))
  |false=>none
 |.gtr=>match decide (k=.i64∧k'=.i64∧9223372036854775807≤n) with
  |true=>some (.d (.sc (.bool false)))
  |false=>none
 |_=>none
def binR (op:BinOp) (x y:AV):Option AV:=match rgO x,rgO y with
 |some (k,e),some (k',f)=>binE op k k' e f
 |some (k,e),none=>match cntO y with
  |some (k',n)=>binC op k k' e n
  |none=>none
 | none, some (k', f) => match op with
  |.or=>match cntO x with
   |some (k,n)=>binC .or k' k f n
   |none=>none
  |_=>none
 |none,none=>none
def binV (op:BinOp) (x y:AV):Option AV:=match binA op x y with
 |some v=>some (.d (.sc v))
 |none=>binR op x y
def scEq (kd:Nat):AV→AV→Option Bool
 |.d (.sc (.bool a)),.d (.sc (.bool b))=>match kd with|0=>some (a==b)|_=>none
 |.d (.sc (.int k a)),.d (.sc (.int k' b))=>match kd with|1=>if k=k' then some (a==b) else none|_=>none
 |.d (.sc (.string a)),.d (.sc (.string b))=>match kd with|0=>none|1=>none|_=>some (a==b)
 | .d (.rg k e), .d (.rg k' f) => match kd with
  |1=>match decide (k=k')&&exE e f with
   |true=>some true
   |false=>none
  |_=>none
 |_,_=>none
def eqAll (xs ys:List AV):List (Nat×Nat)→Option Bool
 |[]=>some true
 | o :: r => match xs[o.1]?, ys[o.1]? with
  |some x,some y=>match scEq o.2 x y with
   |some true=>eqAll xs ys r
   |some false=>some false
   |none=>none
  |_,_=>none
def unA (op:UnOp):AV→Option Value
 |.d (.sc (.bool b))=>match op with|.not=>some (.bool !b)|_=>none
 |.d (.sc (.int k n))=>match op with
  |.neg=>some (.int k (k.wrap (0-n)))
  |.xor=>(bitsI .xor k (if k.signed then -1 else k.max) n).map (.int k)
  |_=>none
 |_=>none
def intOfA:AV→Option Int
 |.d (.sc (.int _ n))=>some n
 |_=>none
def convV (k:IntKind) (x:AV):Option AV:=match intOfA x with
 |some n=>some (.d (.sc (.int k (k.wrap n))))
 |none=>match x with
  |.d (.rg k' e)=>(exW k k' e).map fun g=>.d (.rg k g)
  |_=>none
def natOfA (x:AV):Option Nat:=(intOfA x).bind fun n=>if 0≤n then some n.toNat else none
def boolOfA:AV→Option Bool
 |.d (.sc (.bool b))=>some b
 |_=>none
def scA (v:Value):AV:=.d (.sc v)
def intA (n:Nat):AV:=.d (.sc (.int .i64 n))
def isCell0:AV→Bool
 |.agg _|.tup _|.clo _ _=>false
 |_=>true
structure Eff where
 val:AV
 upd:List (Nat×Nat×Option Ent)
 tip:List (Nat×Bool)
 rd:List (Nat×Nat×Nat)
 deriving Inhabited
inductive Res where
 |eff (e:Eff)
 |all (val:AV) (mem:List (Tr Ent)) (tips:Tr Unit) (nv:Nat) (kp kr:List (Nat×Nat))
 deriving Inhabited
def Eff.pure (v:AV):Option Res:=some (.eff { val:=v,upd:=[],tip:=[],rd:=[] })
def keyE (lv sl:Nat):Nat×Nat×Nat:=(0,lv,sl)
def keyT (v:Nat):Nat×Nat×Nat:=(1,v,0)
def Eff.wr (e:Eff):List (Nat×Nat×Nat):=e.upd.map (fun u=>keyE u.1 u.2.1)++e.tip.map fun u=>keyT u.1
def keysOf:AV→List (Nat×Nat×Nat)
 |.ref lv sl _ _ _ _=>[keyE lv sl]
 |.ptr lv sl _ _ _=>[keyE lv sl]
 |.bref lv sl _ _ _ _=>[keyE lv sl]
 |.mp lv sl _=>[keyE lv sl]
 |_=>[]
def keysIn:AV→List (Nat×Nat×Nat)
 |.agg cs=>cs.flatMap keysOf
 |v=>keysOf v
def applyUpd (m:List (Tr Ent)):List (Nat×Nat×Option Ent)→List (Tr Ent)
 |[]=>m
 |(lv,sl,e) :: r=>applyUpd (memSet m lv sl e) r
def applyTip (t:Tr Unit):List (Nat×Bool)→Tr Unit
 |[]=>t
 |(v,b) :: r=>applyTip (t.set v (if b then some () else none)) r
def putS (s:Tr AV) (dst:Option Nat) (v:AV):Tr AV:=
 match dst with
 |some n=>s.set n (some v)
 |none=>s
def hide (m:List (Tr Ent)) (kp:List (Nat×Nat)):List (Tr Ent):=applyUpd m (kp.map fun k=>(k.1,k.2,none))
def fit (old m:List (Tr Ent)):List (Tr Ent):=(m++List.replicate old.length Tr.lf).take old.length
def back (old m:List (Tr Ent)):List (Nat×Nat)→List (Tr Ent)
 |[]=>m
 |k :: r=>applyUpd (fit old m) ((k :: r).map fun k=>(k.1,k.2,memGet old k.1 k.2))
def St.app (s:St) (dst:Option Nat):Res→St
 |.eff e=>{ slots:=putS s.slots dst e.val,mem:=applyUpd s.mem e.upd,tips:=applyTip s.tips e.tip,nv:=s.nv }
 |.all v m t n kp kr=>{ slots:=putS s.slots dst v,mem:=back s.mem m (kp++kr),tips:=t,nv:=n }
abbrev Call:=Nat→List AV→List (Tr Ent)→Tr Unit→Nat→Option (AV×List (Tr Ent)×Tr Unit×Nat)
def lendCell (m:List (Tr Ent)):AV→Option AV
 |.d x=>some (.d x)
 |.own els .bor=>some (.own els .bor)
 |.own els _=>some (.d (.sl els))
 |.ref lv sl ver off len sz=>(elsOf m (.ref lv sl ver off len sz)).map fun els=>.own els .bor
 |.clo f []=>some (.clo f [])
 |_=>none
def giveCell (m:List (Tr Ent)):AV→Option (AV×List (Nat×Nat))
 |.own els .bor=>some (.own els .bor,[])
 |.clo f []=>some (.clo f [],[])
 |x=>(toD m x).map fun (y,k)=>(.d y,k)
def giveCells (m:List (Tr Ent)):List AV→Option (List AV×List (Nat×Nat))
 |[]=>some ([],[])
 |x :: r=>match giveCell m x,giveCells m r with
  |some (y,k),some (ys,ks)=>some (y :: ys,k++ks)
  |_,_=>none
def lend (m:List (Tr Ent)):AV→Option (AV×List (Nat×Nat))
 |.agg cs=>(giveCells m cs).map fun (ys,ks)=>(.agg ys,ks)
 |x=>(lendCell m x).map fun y=>(y,[])
def lends (m:List (Tr Ent)):List AV→Option (List AV×List (Nat×Nat))
 |[]=>some ([],[])
 |x :: r=>match lend m x,lends m r with
  |some (y,k),some (ys,ks)=>some (y :: ys,k++ks)
  |_,_=>none
def keepOwn (top pk:Nat):Bool:=!Nat.beq pk 0 && !Nat.beq top 0
def impCell (cm : List (Tr Ent)) (top pk k : Nat) (lv sl ver : Nat) : AV → Option (AV × List (List (List D)))
 |.d x=>some (.d x,[])
 | .own els .full => match !Nat.beq (pk / 65536) 0 && Nat.beq k (pk % 65536), els with
  |true,[]=>some (.ref lv sl ver 0 0 (pk / 65536),[[]])
  |_,els=>match keepOwn top pk||Nat.beq (pk % 65536) 65535 with
   |true=>some (.own els .full,[])
   |false=>some (.d (.sl els),[])
 |.own els (.tip v tz)=>match keepOwn top pk with
  |true=>some (.own els (.tip v tz),[])
  |false=>some (.d (.sl els),[])
 | .ref lv' sl' ver' off len sz =>
  match Nat.ble top lv' with
  |false=>some (.ref lv' sl' ver' off len sz,[])
  | true => match elsOf cm (.ref lv' sl' ver' off len sz) with
   |none=>none
   | some els => match Nat.beq pk 0 with
    |true=>some (.d (.sl els),[])
    | false => match Nat.beq k (pk % 65536) with
     |true=>match rowAt cm lv' sl' ver' with
      |some _=>some (.ref lv sl ver 0 len sz,[els])
      |none=>none
     |false=>match rowAt cm lv' sl' ver' with
      |some _=>none
      |none=>some (.d (.sl els),[])
 |.clo f []=>some (.clo f [],[])
 |.bref lv' sl' ver' off n sz=>match Nat.ble top lv' with
  |false=>some (.bref lv' sl' ver' off n sz,[])
  |true=>none
 |.ptr lv' sl' ver' i off=>match Nat.ble top lv' with
  |false=>some (.ptr lv' sl' ver' i off,[])
  |true=>none
 |_=>none
def impCells (cm:List (Tr Ent)) (top pk lv sl ver:Nat):Nat→List AV→Option (List AV×List (List (List D)))
 |_,[]=>some ([],[])
 |k,x :: r=>match impCell cm top pk k lv sl ver x,impCells cm top pk lv sl ver (k+1) r with
  |some (y,u),some (ys,us)=>some (y :: ys,u++us)
  |_,_=>none
def imp1 (cm:List (Tr Ent)) (top pk lv sl ver k:Nat):AV→Option (AV×List (List (List D)))
 |.agg cs=>(impCells cm top pk lv sl ver k cs).map fun (vs,u)=>(.agg vs,u)
 |x=>impCell cm top pk k lv sl ver x
def impTup (cm:List (Tr Ent)) (top pk lv sl ver:Nat):Nat→List AV→Option (List AV×List (List (List D)))
 |_,[]=>some ([],[])
 |k,x :: r=>match imp1 cm top pk lv sl ver k x,impTup cm top pk lv sl ver (k+64) r with
  |some (y,u),some (ys,us)=>some (y :: ys,u++us)
  |_,_=>none
def impR (cm:List (Tr Ent)) (top pk lv sl ver:Nat):AV→Option (AV×List (List (List D)))
 |.tup vs=>(impTup cm top pk lv sl ver 1 vs).map fun (vs,u)=>(.tup vs,u)
 |x=>imp1 cm top pk lv sl ver 1 x
def rowUpd (lv sl ver:Nat):List (List (List D))→Option (List (Nat×Nat×Option Ent))
 |[]=>some []
 |[els]=>some [(lv,sl,some (.row ver els))]
 |_=>none
def Ent.frz:Ent→Option Ent
 |.row v els=>some (.fro v els)
 |.box _ _=>none
 |.fro v els=>some (.fro v els)
 |.mp _ _=>none
def frees (m:List (Tr Ent)) (ks:List (Nat×Nat)):List (Nat×Nat×Option Ent):=ks.map fun k=>(k.1,k.2,(memGet m k.1 k.2).bind Ent.frz)
def keysE (ks:List (Nat×Nat)):List (Nat×Nat×Nat):=ks.map fun k=>keyE k.1 k.2
def notTup:AV→Bool
 |.tup _=>false
 |_=>true
def isDat:AV→Bool
 |.d _=>true
 |_=>false
def plain1:AV→Bool
 |.agg cs=>cs.all isDat
 |x=>isDat x
def plainR:AV→Bool
 |.tup vs=>vs.all plain1
 |x=>plain1 x
def doCall (call : Call) (shared : Bool) (row : Nat) (s : St) (lv sl nvi : Nat) (f : Nat) (args : List AV) : Option Res :=
 match shared with
 | false =>
  match lends s.mem args with
  |none=>none
  | some (aSz, ks) => match call f aSz [.lf] .lf 0 with
   |none=>none
   | some (r, cm, _, _) => match impR cm 0 row lv sl nvi r with
    |none=>none
    |some (v,us)=>match rowUpd lv sl nvi us with
     |none=>none
     |some u=>some (.eff { val:=v,upd:=frees s.mem ks++u,tip:=[],rd:=args.flatMap keysIn })
 | true =>
  match args.all notTup with
  |false=>none
  |true=>
  match call f args (s.mem++[.lf]) s.tips s.nv with
  |none=>none
  | some (r, cm, ts, n) => match impR cm s.mem.length row lv sl nvi r with
   |none=>none
   |some (v,us)=>match rowUpd lv sl nvi us with
    |none=>none
    |some u=>some (.all v (applyUpd (cm.take s.mem.length) u) ts n [] [])
def give (m:List (Tr Ent)):AV→Option (AV×List (Nat×Nat))
 |.agg cs=>(giveCells m cs).map fun (ys,ks)=>(.agg ys,ks)
 |x=>giveCell m x
def gives (m:List (Tr Ent)):List AV→Option (List AV×List (Nat×Nat))
 |[]=>some ([],[])
 |x :: r=>match give m x,gives m r with
  |some (y,k),some (ys,ks)=>some (y :: ys,k++ks)
  |_,_=>none
def doGive (call:Call) (s:St) (nvi f:Nat) (args:List AV):Option Res:=
 match gives s.mem args with
 |none=>none
 | some (aSz, ks) => match call f aSz [.lf] .lf 0 with
  |none=>none
  |some (r,cm,_,_)=>match impR cm 0 0 0 0 nvi r with
   |some (v,[])=>some (.eff { val:=v,upd:=frees s.mem ks,tip:=[],rd:=args.flatMap keysIn })
   |_=>none
def lendCs (m:List (Tr Ent)):List AV→Option (List AV)
 |[]=>some []
 |x :: r=>match lendCell m x,lendCs m r with
  |some y,some ys=>some (y :: ys)
  |_,_=>none
def lendS (m:List (Tr Ent)):AV→Option AV
 |.agg cs=>(lendCs m cs).map .agg
 |x=>lendCell m x
def lendSs (m:List (Tr Ent)):List AV→Option (List AV)
 |[]=>some []
 |x :: r=>match lendS m x,lendSs m r with
  |some y,some ys=>some (y :: ys)
  |_,_=>none
def doLend (call:Call) (s:St) (nvi f:Nat) (args:List AV):Option Res:=
 match lendSs s.mem args with
 |none=>none
 | some aSz => match call f aSz [.lf] .lf 0 with
  |none=>none
  |some (r,cm,_,_)=>match impR cm 0 0 0 0 nvi r with
   |some (v,[])=>some (.eff { val:=v,upd:=[],tip:=[],rd:=args.flatMap keysIn })
   |_=>none
def doKeep (call:Call) (s:St) (f:Nat) (args:List AV):Option Res:=
 match args.all notTup with
 |false=>none
 |true=>match call f args (s.mem++[.lf]) s.tips s.nv with
  |none=>none
  |some (r,cm,ts,n)=>some (.all r cm ts n [] [])
def okC:AV→Bool
 |.own _ .bor=>false
 |.dptr _ _=>false
 |.clo _ cap=>cap.isEmpty
 |_=>true
def ok1:AV→Bool
 |.agg cs=>cs.all okC
 |x=>okC x
def okR:AV→Bool
 |.tup vs=>vs.all ok1
 |x=>ok1 x
def okE:Ent→Bool
 |.box _ cs=>cs.all okC
 |_=>true
def okT:Tr Ent→Bool
 |.lf=>true
 |.nd v l r=>(match v with|some e=>okE e|none=>true)&&(okT l&&okT r)
def sV (a b:Value):Bool:=match a,b with
 |.bool x,.bool y=>x==y
 |.int k x,.int k' y=>decide (k=k')&&decide (x=y)
 |.string x,.string y=>decide (x.data.toList=y.data.toList)
 |.nilIface,.nilIface=>true
 |_,_=>false
def sL {α : Type} (f : α→α→Bool):List α→List α→Bool
 |[],[]=>true
 |a :: l,b :: m=>f a b&&sL f l m
 |_,_=>false
def sD:Nat→D→D→Bool
 |0,_,_=>false
 |k+1,x,y=>match x,y with
  |.sc v,.sc w=>sV v w
  |.sl a,.sl b=>sL (sL (sD k)) a b
  |.er,.er=>true
  |.rg k e,.rg k' e'=>decide (k=k')&&exE e e'
  |_,_=>false
def sA (a b:AV):Bool:=match a,b with
 |.d x,.d y=>sD 9 x y
 |.own x .full,.own y .full=>sL (sL (sD 9)) x y
 |.ref a b c d e f,.ref a' b' c' d' e' f'=>Nat.beq a a'&&(Nat.beq b b'&&(Nat.beq c c'&&(Nat.beq d d'&&(Nat.beq e e'&&Nat.beq f f'))))
 |.bref a b c d e f,.bref a' b' c' d' e' f'=>Nat.beq a a'&&(Nat.beq b b'&&(Nat.beq c c'&&(Nat.beq d d'&&(Nat.beq e e'&&Nat.beq f f'))))
 |.ptr a b c d e,.ptr a' b' c' d' e'=>Nat.beq a a'&&(Nat.beq b b'&&(Nat.beq c c'&&(Nat.beq d d'&&Nat.beq e e')))
 |_,_=>false
def sE (a b:Option Ent):Bool:=match a,b with
 |some (.box v cs),some (.box w ds)=>Nat.beq v w&&sL sA cs ds
 |none,none=>true
 |_,_=>false
def ptrK:List AV→List (Nat×Nat)
 |[]=>[]
 |.ptr lv sl _ _ _ :: r=>(lv,sl) :: ptrK r
 |_ :: r=>ptrK r
def bK:List AV→List (Nat×Nat)
 |[]=>[]
 |.bref lv sl _ _ _ _ :: r=>(lv,sl) :: bK r
 |_ :: r=>bK r
def ptrD (m:List (Tr Ent)):List AV→List (Nat×Nat)
 |[]=>[]
 |.ptr lv sl ver _ _ :: r=>(lv,sl) :: ((match boxAt m lv sl ver with
  |some cs=>bK cs
  |none=>[])++ptrD m r)
 |_ :: r=>ptrD m r
def keysH (top:Nat):Nat→Nat→List (Nat×Nat)
 |0,_=>[]
 |f+1,n=>match Nat.beq n 0 with
  |true=>[]
  |false=>(top,n % 1024) :: keysH top f (n / 1024)
def doHide (call : Call) (row : Nat) (kp kr : List (Nat × Nat)) (s : St) (lv sl nvi f : Nat) (args : List AV) : Option Res :=
 match args.all notTup with
 |false=>none
 | true => match call f args (hide s.mem kp ++ [.lf]) s.tips s.nv with
  |none=>none
  | some (r, cm, ts, n) => match impR cm s.mem.length row lv sl nvi r with
   |none=>none
   | some (v, us) => match rowUpd lv sl nvi us with
    |none=>none
    |some u=>match okR v&&((applyUpd (cm.take s.mem.length) u).all okT&&kr.all fun k=>sE (memGet (applyUpd (cm.take s.mem.length) u) k.1 k.2) (memGet (hide s.mem kp) k.1 k.2)) with
     |true=>some (.all v (applyUpd (cm.take s.mem.length) u) ts n kp kr)
     |false=>none
def cellF (m:List (Tr Ent)):AV→Option D
 |.d x=>some x
 |.own els _=>some (.sl els)
 |.ref lv sl ver off len sz=>(elsOf m (.ref lv sl ver off len sz)).map .sl
 |_=>none
def chunk {α : Type} (sz:Nat):Nat→List α→List (List α)
 |0,_=>[]
 |n+1,l=>l.take sz :: chunk sz n (l.drop sz)
def cellsG (f:AV→Option D):List AV→Option (List D)
 |[]=>some []
 |x :: r=>match f x,cellsG f r with
  |some y,some ys=>some (y :: ys)
  |_,_=>none
def deepF (m:List (Tr Ent)):Nat→AV→Option D
 |0,x=>cellF m x
 | k + 1, x => match x with
  |.bref lv sl ver off n sz=>match boxAt m lv sl ver with
   |some cs=>if off+n*sz≤cs.length then (cellsG (deepF m k) ((cs.drop off).take (n*sz))).map fun ds=>.sl (chunk sz n ds) else none
   |none=>none
  |x=>cellF m x
def keyD (m:List (Tr Ent)):Nat→AV→List (Nat×Nat×Nat)
 |0,x=>keysOf x
 | k + 1, x => match x with
  |.bref lv sl ver _ _ _=>keyE lv sl :: (match boxAt m lv sl ver with
   |some cs=>cs.flatMap (keyD m k)
   |none=>[])
  |x=>keysOf x
def argF (m:List (Tr Ent)):AV→Option AV
 |.agg cs=>(cellsG (deepF m 2) cs).map fun ds=>.agg (ds.map .d)
 |.clo f []=>some (.clo f [])
 |.ptr lv sl ver i off=>match boxAt m lv sl ver,Nat.beq i 0 with
  |some cs,true=>(cellsG (deepF m 2) cs).map fun ds=>.dptr ds off
  |_,_=>none
 |.dptr e off=>some (.dptr e off)
 |x=>(deepF m 2 x).map .d
def argsF (m:List (Tr Ent)):List AV→Option (List AV)
 |[]=>some []
 |x :: r=>match argF m x,argsF m r with
  |some y,some ys=>some (y :: ys)
  |_,_=>none
def keyF (m:List (Tr Ent)):AV→List (Nat×Nat×Nat)
 |.agg cs=>cs.flatMap (keyD m 2)
 |.ptr lv sl ver _ _=>keyE lv sl :: (match boxAt m lv sl ver with
  |some cs=>cs.flatMap (keyD m 2)
  |none=>[])
 |x=>keyD m 2 x
def flatC:AV→Bool
 |.d (.sc _)=>true
 |.d (.rg ..)=>true
 |.d (.sl [])=>true
 |_=>false
def flat1:AV→Bool
 |.agg cs=>cs.all flatC
 |x=>flatC x
def flatR:AV→Bool
 |.tup vs=>vs.all flat1
 |x=>flat1 x
def doFlat (call : Call) (s : St) (f : Nat) (args : List AV) : Option Res :=
 match argsF s.mem args with
 |none=>none
 | some aSz => match call f aSz [.lf] .lf 0 with
  |none=>none
  | some (r, cm, _, _) => match impR cm 0 0 0 0 0 r with
   |some (v,[])=>match flatR v with
    |true=>some (.eff { val:=v,upd:=[],tip:=[],rd:=args.flatMap (keyF s.mem) })
    |false=>none
   |_=>none
def placeA (row top dst:Nat):Nat×Nat:=match Nat.beq (row % 65536) 5 with
 |true=>(0,1000000+row / 65536)
 |false=>(top,dst)
def evs (s:Tr AV) (l:List Opd):List AV:=l.map (·.ev s)
def fillA (s:Tr AV):List AV→List (Nat×Nat×Opd)→Option (List AV)
 |cs,[]=>some cs
 |cs,(off,sz,x) :: r=>match cellsOf (x.ev s) with
  |some new=>if new.length=sz∧off+sz≤cs.length then fillA s (splice cs off new) r else none
  |none=>none
def fillD (m : List (Tr Ent)) (s : Tr AV) (sz : Nat) : List (List D) → List (Nat × Opd) → Option (List (List D) × List (Nat × Nat))
 |els,[]=>some (els,[])
 | els, (i, x) :: r => match elemD m (x.ev s) with
  | some (e, ks) => if e.length = sz ∧ i < els.length then
    match fillD m s sz (els.set i e) r with
    |some (els',ks')=>some (els',ks++ks')
    |none=>none
   else none
  |none=>none
def loadA (m : List (Tr Ent)) (sz : Nat) : AV → Option (List AV)
 | .ptr lv sl ver i off => match memGet m lv sl with
  |some (.box v cs)=>match Nat.beq v ver,Nat.beq i 0 with
   |true,true=>if off+sz≤cs.length then some ((cs.drop off).take sz) else none
   |_,_=>none
  | some (.row v els) => match Nat.beq v ver with
   |true=>match els[i]? with
    |some e=>if off+sz≤e.length then some (((e.drop off).take sz).map .d) else none
    |none=>none
   |false=>none
  | some (.fro v els) => match Nat.beq v ver with
   |true=>match els[i]? with
    |some e=>if off+sz≤e.length then some (((e.drop off).take sz).map .d) else none
    |none=>none
   |false=>none
  |some (.mp _ _)=>none
  |none=>none
 |.dptr e off=>if off+sz≤e.length then some (((e.drop off).take sz).map .d) else none
 |_=>none
def wrapAgg (agg:Bool) (cs:List AV):Option AV:=
 match agg with
 |true=>some (.agg cs)
 |false=>match cs with
  |[v]=>some v
  |_=>none
def storeA (m : List (Tr Ent)) (sz : Nat) (p v : AV) : Option Eff :=
 match p,cellsOf v with
 | .ptr lv sl ver i off, some new =>
  if new.length = sz then
   match memGet m lv sl with
   |some (.box v cs)=>match Nat.beq v ver,Nat.beq i 0 with
    |true,true=>if off+sz≤cs.length then some { val:=undefA,upd:=[(lv,sl,some (.box v (splice cs off new)))],tip:=[],rd:=[keyE lv sl] } else none
    |_,_=>none
   | some (.row v els) => match Nat.beq v ver with
    |true=>match els[i]?,toDs m new with
     | some e, some (ds, ks) => if off + sz ≤ e.length ∧ ¬ (lv, sl) ∈ ks then
       some { val:=undefA,upd:=frees m ks++[(lv,sl,some (.row v (els.set i (splice e off ds))))],tip:=[],rd:=keyE lv sl :: keysE ks } else none
     |_,_=>none
    |false=>none
   |some (.fro _ _)=>none
   |some (.mp _ _)=>none
   |none=>none
  else none
 |_,_=>none
def newsOf (m:List (Tr Ent)):AV→Option (List (List D))
 |.d (.sc (.string b))=>some (b.data.toList.map fun c=>[.sc (.int .u8 c.toNat)])
 |x=>elsOf m x
def maxLenA:Nat:=9223372036854775807
def roomA:Nat:=140737488355328
def appendA (s : St) (row : Bool) (lv sl nvi sz bytes : Nat) (x y : AV) : Option Eff :=
 match newsOf s.mem y with
 |none=>none
 | some news =>
  if news.all (fun e => e.length == sz) then
   match x with
   | .own els .full =>
    if els.all (fun e=>e.length==sz)∧els.length+news.length≤maxLenA∧(els.length+news.length)*bytes≤roomA then
     match row with
     |false=>some { val:=.own (els++news) (.tip nvi sz),upd:=[],tip:=[(nvi,true)],rd:=keysOf y }
     |true=>if els.isEmpty=false∧news.isEmpty=true then none else some { val:=.ref lv sl nvi 0 (els.length+news.length) sz,upd:=[(lv,sl,some (.row nvi (els++news)))],tip:=[],rd:=keysOf y }
    else none
   | .own els (.tip v tz) =>
    if tz=sz∧els.length+news.length≤maxLenA∧(els.length+news.length)*bytes≤roomA∧(s.tips.get? v).isSome then
     some { val:=.own (els++news) (.tip nvi sz),upd:=[],tip:=[(v,false),(nvi,true)],rd:=keyT v :: keysOf y }
    else none
   | .ref lv' sl' ver off len sz' =>
    match rowAt s.mem lv' sl' ver with
    | some els =>
     if sz'=sz∧off+len≤els.length∧len+news.length≤maxLenA∧(len+news.length)*bytes≤roomA then
      some { val:=.ref lv' sl' nvi 0 (len+news.length) sz,upd:=[(lv',sl',some (.row nvi ((els.drop off).take len++news)))],tip:=[],rd:=keyE lv' sl' :: keysOf y }
     else none
    |none=>none
   |_=>none
  else none
def cellsL (m:List (Tr Ent)) (sz:Nat) (x:AV):Option (List AV):=
 match x with
 |.bref lv sl ver off n sz'=>match boxAt m lv sl ver with
  |some cs=>if sz'=sz∧off+n*sz≤cs.length then some ((cs.drop off).take (n*sz)) else none
  |none=>none
 |x=>match elsOf m x with
  |some els=>if els.all (fun e=>e.length==sz) then some (els.flatten.map .d) else none
  |none=>none
def appendB (s : St) (lv sl nvi sz bytes : Nat) (x y : AV) : Option Eff :=
 match cellsL s.mem sz y with
 |none=>none
 | some new =>
  match Nat.beq (new.length / sz) 0 with
  |true=>none
  | false => match x with
   | .own [] .full =>
    if new.length / sz≤maxLenA∧new.length / sz*bytes≤roomA then
     some { val:=.bref lv sl nvi 0 (new.length / sz) sz,upd:=[(lv,sl,some (.box nvi new))],tip:=[],rd:=keysOf y }
    else none
   | .bref lv' sl' ver off n sz' =>
    match boxAt s.mem lv' sl' ver with
    | some cs =>
     if sz'=sz∧off+n*sz≤cs.length∧n+new.length / sz≤maxLenA∧(n+new.length / sz)*bytes≤roomA then
      some { val:=.bref lv' sl' nvi 0 (n+new.length / sz) sz,upd:=[(lv',sl',some (.box nvi ((cs.drop off).take (n*sz)++new)))],tip:=[],rd:=keyE lv' sl' :: keysOf y }
     else none
    |none=>none
   |_=>none
def bytesOf:List (List D)→Option (List UInt8)
 |[]=>some []
 |[.sc (.int .u8 n)] :: r=>(bytesOf r).map (UInt8.ofNat n.toNat :: ·)
 |_=>none
def strOfB (l:List UInt8):ByteArray:=⟨l.toArray⟩
def cutA (s : St) (nvi sz : Nat) (x : AV) (l : Nat) (hi : Option Nat) : Option Eff :=
 match x with
 | .ref lv sl ver off len sz' => match rowAt s.mem lv sl ver with
  | some els =>
   if sz'=sz∧l≤hi.getD len∧hi.getD len≤len∧off+len≤els.length then
    some { val:=.ref lv sl nvi 0 (hi.getD len-l) sz,upd:=[(lv,sl,some (.row nvi ((els.drop (off+l)).take (hi.getD len-l))))],tip:=[],rd:=[keyE lv sl] }
   else none
  |none=>none
 |_=>none
def isRow:AV→Bool
 |.ref ..=>true
 |_=>false
def moveA (s:St) (lv dst nvi:Nat) (x:AV):Option Eff:=
 match x with
 | .ref lv' sl' ver off len sz => match rowAt s.mem lv' sl' ver with
  |some els=>match Nat.ble (off+len) els.length with
   |true=>some { val:=.ref lv dst nvi 0 len sz,upd:=[(lv',sl',none),(lv,dst,some (.row nvi ((els.drop off).take len)))],tip:=[],rd:=[keyE lv' sl'] }
   |false=>none
  |none=>none
 |_=>none
def intsOf:List (List D)→Option (List Int)
 |[]=>some []
 |[.sc (.int .i64 z)] :: r=>(intsOf r).map (z :: ·)
 |_=>none
def intsL (l:List Int):List (List D):=l.map fun z=>[.sc (.int .i64 z)]
def insI (x:Int):List Int→List Int
 |[]=>[x]
 |y :: r=>match decide (x≤y) with
  |true=>x :: y :: r
  |false=>y :: insI x r
def sortI:List Int→List Int
 |[]=>[]
 |x :: r=>insI x (sortI r)
def sortA (s : St) (x : AV) : Option Eff :=
 match x with
 |.own [] .full=>some { val:=undefA,upd:=[],tip:=[],rd:=[] }
 | .ref lv sl ver off len sz => match rowAt s.mem lv sl ver with
  | some els => (intsOf els).bind fun zs =>
   if off=0∧len=els.length∧sz=1∧els.length<4611686018427387904 then
    some { val:=undefA,upd:=[(lv,sl,some (.row ver (intsL (sortI zs))))],tip:=[],rd:=[keyE lv sl] }
   else none
  |none=>none
 |_=>none
def compI:List Int→List Int
 |[]=>[]
 | x :: r => match r with
  |[]=>[x]
  |y :: _=>match decide (x=y) with
   |true=>compI r
   |false=>x :: compI r
def compactA (s : St) (nvi : Nat) (x : AV) : Option Eff :=
 match x with
 |.own [] .full=>some { val:=.own [] .full,upd:=[],tip:=[],rd:=[] }
 | .ref lv sl ver off len sz => match rowAt s.mem lv sl ver with
  | some els => (intsOf els).bind fun zs =>
   if off=0∧len=els.length∧sz=1∧els.length<4611686018427387904 then
    some { val:=.ref lv sl nvi 0 (compI zs).length 1,upd:=[(lv,sl,some (.row nvi (intsL (compI zs))))],tip:=[],rd:=[keyE lv sl] }
   else none
  |none=>none
 |_=>none
def nilRow (row:Nat):Bool:=Nat.beq (row % 65536) 4||(Nat.beq (row % 65536) 6 && !Nat.beq (row / 65536) 0)
def movA (row lv dst nvi:Nat) (x:AV):Eff:=
 match nilRow row,x with
 |true,.own [] .full=>{ val:=.ref lv dst nvi 0 0 (row / 65536),upd:=[(lv,dst,some (.row nvi []))],tip:=[],rd:=[] }
 |_,v=>{ val:=v,upd:=[],tip:=[],rd:=[] }
def boundA (x:Option Opd) (s:Tr AV) (dflt:Nat):Option Nat:=
 match x with
 |none=>some dflt
 |some o=>natOfA (o.ev s)
def sliceA (sz : Nat) (x : AV) (lo : Nat) (hi mx : Option Nat) : Option AV :=
 match x with
 |.d (.sl els)=>
  let h:=hi.getD els.length
  match mx with
  |none=>if lo≤h∧h≤els.length∧els.all (fun e=>e.length==sz) then some (.d (.sl ((els.drop lo).take (h-lo)))) else none
  |some k=>if lo≤h∧h=k∧h≤els.length∧els.all (fun e=>e.length==sz) then some (.own ((els.drop lo).take (h-lo)) .full) else none
 | .own els o =>
  let h:=hi.getD els.length
  match mx with
  | none => if lo ≤ h ∧ h ≤ els.length ∧ els.all (fun e => e.length == sz) then
    match o with
    |.bor=>some (.own ((els.drop lo).take (h-lo)) .bor)
    |.full=>if h=els.length then some (.own (els.drop lo) .full) else some (.d (.sl ((els.drop lo).take (h-lo))))
    |.tip _ _=>some (.d (.sl ((els.drop lo).take (h-lo))))
   else none
  | some k => if lo ≤ h ∧ h = k ∧ h ≤ els.length ∧ els.all (fun e => e.length == sz) then
    match o with
    |.bor=>if h=lo then some (.own [] .full) else none
    |_=>some (.own ((els.drop lo).take (h-lo)) .full)
   else none
 |.ref lv sl ver off len sz'=>
  let h:=hi.getD len
  match mx with
  |none=>if lo≤h∧h≤len∧sz'=sz then some (.ref lv sl ver (off+lo) (h-lo) sz) else none
  |some k=>if lo=h∧h=k∧h≤len then some (.own [] .full) else if lo≤h∧h=k∧h≤len∧sz'=sz then some (.ref lv sl ver (off+lo) (h-lo) sz) else none
 |_=>none
def hasNat1 (k:Nat):Nat→Nat→Bool
 |0,_=>false
 |f+1,n=>match Nat.beq n 0 with
  |true=>false
  |false=>Nat.beq (n % 1024) k||hasNat1 k f (n / 1024)
def lvQ (top dst:Nat):Nat:=match Nat.ble 1048576 dst with
 |true=>0
 |false=>top-1
def dAll:List AV→Option (List D)
 |[]=>some []
 |.d x :: r=>(dAll r).map (x :: ·)
 |_=>none
def AOp.run (call : Call) (sh : Nat → Bool) (s : St) (row : Nat) (dst nvi : Nat) : AOp → Option Res
 |.mov x=>match Nat.beq (row % 65536) 6&&isRow (x.ev s.slots) with
  |true=>(moveA s (lvQ s.mem.length dst) dst nvi (x.ev s.slots)).map .eff
  |false=>some (.eff (movA row (lvQ s.mem.length dst) dst nvi (x.ev s.slots)))
 |.pick c a b=>(boolOfA (c.ev s.slots)).bind fun t=>Eff.pure (if t then a.ev s.slots else b.ev s.slots)
 |.alloc z=>some (.eff { val:=.ptr (lvQ s.mem.length dst) dst nvi 0 0,upd:=[(lvQ s.mem.length dst,dst,some (.box nvi z))],tip:=[],rd:=[] })
 |.box x=>match Nat.beq row 14 with
  |true=>(cellsOf (x.ev s.slots)).map fun cs=>.eff { val:=.ptr (s.mem.length-2) (1048576+dst) nvi 0 0,upd:=[(s.mem.length-2,1048576+dst,some (.box nvi cs))],tip:=[],rd:=[] }
  |false=>match Nat.beq row 13 with
  |true=>(cellsOf (x.ev s.slots)).bind fun cs=>(dAll cs).bind fun ds=>Eff.pure (.dptr ds 0)
  |false=>(cellsOf (x.ev s.slots)).map fun cs=>.eff { val:=.ptr (lvQ s.mem.length dst) dst nvi 0 0,upd:=[(lvQ s.mem.length dst,dst,some (.box nvi cs))],tip:=[],rd:=[] }
 |.build z ps=>(fillA s.slots z ps).bind fun cs=>Eff.pure (.agg cs)
 | .buildSlice sz n z ps =>
  match Nat.beq row 2 with
  | true => match Nat.beq n 0 with
   |true=>none
   |false=>(fillA s.slots ((List.replicate n z).flatten.map .d) (ps.map fun p=>(p.1*sz,sz,p.2))).map fun cs=>
    .eff { val:=.bref (lvQ s.mem.length dst) dst nvi 0 n sz,upd:=[(lvQ s.mem.length dst,dst,some (.box nvi cs))],tip:=[],rd:=[] }
  |false=>
  match fillD s.mem s.slots sz (List.replicate n z) ps with
  |none=>none
  | some (els, ks) =>
   match Nat.beq row 0 with
   |true=>some (.eff { val:=.own els .full,upd:=frees s.mem ks,tip:=[],rd:=keysE ks })
   |false=>if (lvQ s.mem.length dst,dst)∈ks then none else
    some (.eff { val:=.ref (lvQ s.mem.length dst) dst nvi 0 n sz,upd:=frees s.mem ks++[(lvQ s.mem.length dst,dst,some (.row nvi els))],tip:=[],rd:=keysE ks })
 |.load sz agg x=>(loadA s.mem sz (x.ev s.slots)).bind fun cs=>(wrapAgg agg cs).map fun v=>.eff { val:=v,upd:=[],tip:=[],rd:=keysOf (x.ev s.slots) }
 |.store sz x v=>(storeA s.mem sz (x.ev s.slots) (v.ev s.slots)).map .eff
 |.nilCheck x=>match x.ev s.slots with
  |.ptr lv sl ver i off=>Eff.pure (.ptr lv sl ver i off)
  |.dptr e off=>Eff.pure (.dptr e off)
  |.clo f cs=>Eff.pure (.clo f cs)
  |_=>none
 |.bin op x y=>(binV op (x.ev s.slots) (y.ev s.slots)).bind Eff.pure
 |.eqb neg x y=>match boolOfA (x.ev s.slots),boolOfA (y.ev s.slots) with
  |some a,some b=>Eff.pure (scA (.bool (if neg then !(a==b) else a==b)))
  |_,_=>none
 |.eqA neg sz cells x y=>match x.ev s.slots,y.ev s.slots with
  |.agg xs,.agg ys=>if xs.length≠sz∨ys.length≠sz then none else (eqAll xs ys cells).bind fun b=>Eff.pure (scA (.bool (if neg then !b else b)))
  |_,_=>none
 |.isErr neg x=>match x.ev s.slots with
  |.d .er=>Eff.pure (scA (.bool neg))
  |.d (.sc .nilIface)=>Eff.pure (scA (.bool !neg))
  |_=>none
 |.un op x=>(unA op (x.ev s.slots)).bind fun v=>Eff.pure (scA v)
 |.conv k x=>(convV k (x.ev s.slots)).bind Eff.pure
 |.field off sz agg x=>match x.ev s.slots with
  |.agg cs=>if off+sz≤cs.length then (wrapAgg agg ((cs.drop off).take sz)).bind Eff.pure else none
  |_=>none
 |.fieldAddr off x=>match x.ev s.slots with
  |.ptr lv sl ver i o=>Eff.pure (.ptr lv sl ver i (o+off))
  |.dptr e o=>Eff.pure (.dptr e (o+off))
  |_=>none
 | .indexAddr sz x i => (natOfA (i.ev s.slots)).bind fun n => match x.ev s.slots with
  |.d (.sl els)=>match els[n]? with
   |some e=>if e.length=sz then Eff.pure (.dptr e 0) else none
   |none=>none
  |.own els _=>match els[n]? with
   |some e=>if e.length=sz then Eff.pure (.dptr e 0) else none
   |none=>none
  |.ref lv sl ver off ln sz'=>if n<ln∧sz'=sz then Eff.pure (.ptr lv sl ver (off+n) 0) else none
  |.bref lv sl ver off ln sz'=>if n<ln∧sz'=sz then Eff.pure (.ptr lv sl ver 0 (off+n*sz)) else none
  |_=>none
 | .indexArr n sz x i => (natOfA (i.ev s.slots)).bind fun k => if k < n then
   match x.ev s.slots with
   |.ptr lv sl ver j o=>Eff.pure (.ptr lv sl ver j (o+k*sz))
   |.dptr e o=>Eff.pure (.dptr e (o+k*sz))
   |_=>none
  else none
 |.indexA n sz agg x i=>(natOfA (i.ev s.slots)).bind fun k=>match x.ev s.slots with
  |.agg cs=>if k<n∧k*sz+sz≤cs.length then (wrapAgg agg ((cs.drop (k*sz)).take sz)).bind Eff.pure else none
  |_=>none
 | .indexS x i => (natOfA (i.ev s.slots)).bind fun k => match x.ev s.slots with
  |.d (.sc (.string b))=>match b.data.toList[k]? with
   |some c=>Eff.pure (scA (.int .u8 c.toNat))
   |none=>none
  |_=>none
 | .slice sz x lo hi mx =>
  match boundA lo s.slots 0,boundA hi s.slots 0,boundA mx s.slots 0 with
  |some l,some h,some k=>match Nat.beq row 3&&(mx.isNone&&isRow (x.ev s.slots)) with
   |true=>(cutA s nvi sz (x.ev s.slots) l (hi.map fun _=>h)).map .eff
   |false=>(sliceA sz (x.ev s.slots) l (hi.map fun _=>h) (mx.map fun _=>k)).bind Eff.pure
  |_,_,_=>none
 | .sliceS x lo hi => match x.ev s.slots with
  |.d (.sc (.string b))=>match boundA lo s.slots 0,boundA hi s.slots b.size with
   |some l,some h=>if l≤h∧h≤b.size then Eff.pure (scA (.string (b.extract l h))) else none
   |_,_=>none
  |_=>none
 |.extract x i=>match x.ev s.slots with
  |.tup vs=>(vs[i]?).bind Eff.pure
  |_=>none
 |.len x=>match x.ev s.slots with
  |.d (.sl els)=>Eff.pure (intA els.length)
  |.own els _=>Eff.pure (intA els.length)
  |.ref _ _ _ _ n _=>Eff.pure (intA n)
  |.bref _ _ _ _ n _=>Eff.pure (intA n)
  |_=>none
 |.capF x=>match x.ev s.slots with
  |.own els .full=>Eff.pure (intA els.length)
  |_=>none
 |.lenS x=>match x.ev s.slots with
  |.d (.sc (.string b))=>Eff.pure (intA b.size)
  |_=>none
 |.lenC n=>Eff.pure (intA n)
 |.s2b x=>match x.ev s.slots with
  |.d (.sc (.string b))=>Eff.pure (.d (.sl (b.data.toList.map fun c=>[.sc (.int .u8 c.toNat)])))
  |_=>none
 |.b2s x=>(elsOf s.mem (x.ev s.slots)).bind fun els=>(bytesOf els).map fun l=>.eff { val:=scA (.string (strOfB l)),upd:=[],tip:=[],rd:=keysOf (x.ev s.slots) }
 |.mini x y=>match x.ev s.slots,y.ev s.slots with
  |.d (.sc (.int k a)),.d (.sc (.int k' b))=>if k=k' then Eff.pure (scA (.int k (min a b))) else none
  |_,_=>none
 |.maxi x y=>match x.ev s.slots,y.ev s.slots with
  |.d (.sc (.int k a)),.d (.sc (.int k' b))=>if k=k' then Eff.pure (scA (.int k (max a b))) else none
  |_,_=>none
 |.append sz bytes x y=>match Nat.beq row 11 with
  |true=>(appendB s (lvQ s.mem.length dst) dst nvi sz bytes (x.ev s.slots) (y.ev s.slots)).map .eff
  |false=>(appendA s (!Nat.beq row 0) (placeA row (lvQ s.mem.length dst) dst).1 (placeA row (lvQ s.mem.length dst) dst).2 nvi sz bytes (x.ev s.slots) (y.ev s.slots)).map .eff
 | .appendZ sz bytes z x n => (natOfA (n.ev s.slots)).bind fun k => if z.length = sz ∧ k ≤ maxLenA ∧ k * bytes ≤ roomA then
   (appendA s (!Nat.beq row 0) (lvQ s.mem.length dst) dst nvi sz bytes (x.ev s.slots) (.d (.sl (List.replicate k z)))).map .eff else none
 | .sliceB n sz x => match x.ev s.slots with
  |.ptr lv sl ver i off=>match Nat.beq i 0 with
   |true=>Eff.pure (.bref lv sl ver off n sz)
   |false=>none
  |_=>none
 | .sliceL lo n sz x => match x.ev s.slots with
  |.ptr lv sl ver i off=>match Nat.beq i 0&&Nat.blt lo n with
   |true=>Eff.pure (.bref lv sl ver (off+lo*sz) (n-lo) sz)
   |false=>none
  |_=>none
 | .clear sz z x => match x.ev s.slots with
  |.ref lv sl ver off ln sz'=>match rowAt s.mem lv sl ver with
   | some els => if sz' = sz ∧ off + ln ≤ els.length ∧ z.length = sz then
     some (.eff { val:=undefA,upd:=[(lv,sl,some (.row ver (splice els off (List.replicate ln z))))],tip:=[],rd:=[keyE lv sl] }) else none
   |none=>none
  |_=>none
 |.grow sz x n=>match x.ev s.slots,natOfA (n.ev s.slots) with
  |.own [] .full,some _=>some (.eff { val:=.own [] (.tip nvi sz),upd:=[],tip:=[(nvi,true)],rd:=[] })
  |_,_=>none
 |.clone sz bytes x=>match Nat.beq row 11 with
  |true=>(appendB s (lvQ s.mem.length dst) dst nvi sz bytes (.own [] .full) (x.ev s.slots)).map .eff
  |false=>match elsOf s.mem (x.ev s.slots) with
  |some _=>(appendA s (!Nat.beq row 0) (lvQ s.mem.length dst) dst nvi sz bytes (.own [] .full) (x.ev s.slots)).map .eff
  |none=>none
 |.mkSet=>some (.eff { val:=.mp (lvQ s.mem.length dst) dst nvi,upd:=[(lvQ s.mem.length dst,dst,some (.mp nvi []))],tip:=[],rd:=[] })
 |.hasK m k=>match m.ev s.slots,k.ev s.slots with
  |.mp lv sl ver,.d (.sc (.string b))=>(setAt s.mem lv sl ver).map fun ks=>.eff { val:=scA (.bool (hasB ks b.data.toList)),upd:=[],tip:=[],rd:=[keyE lv sl] }
  |_,_=>none
 |.addK m k=>match m.ev s.slots,k.ev s.slots with
  |.mp lv sl ver,.d (.sc (.string b))=>(setAt s.mem lv sl ver).map fun ks=>.eff { val:=undefA,upd:=[(lv,sl,some (.mp ver (addB ks b.data.toList)))],tip:=[],rd:=[keyE lv sl] }
  |_,_=>none
 |.sort x=>(sortA s (x.ev s.slots)).map .eff
 |.compact x=>(compactA s nvi (x.ev s.slots)).map .eff
 |.bad=>none
 | .copy sz x y => match x.ev s.slots, newsOf s.mem (y.ev s.slots) with
  |.bref lv sl ver off n sz',some news=>match boxAt s.mem lv sl ver with
   | some cs => if sz' = sz ∧ off + n * sz ≤ cs.length ∧ news.all (fun e => e.length == sz) then
     some (.eff { val:=intA (min news.length n),upd:=[(lv,sl,some (.box ver (splice cs off ((news.take (min news.length n)).flatten.map .d))))],tip:=[],rd:=keyE lv sl :: keysOf (y.ev s.slots) }) else none
   |none=>none
  |.ref lv sl ver off ln sz',some news=>match rowAt s.mem lv sl ver with
   | some els => if sz' = sz ∧ off + ln ≤ els.length ∧ news.all (fun e => e.length == sz) then
     some (.eff { val:=intA (min news.length ln),upd:=[(lv,sl,some (.row ver (splice els off (news.take (min news.length ln)))))],tip:=[],rd:=keyE lv sl :: keysOf (y.ev s.slots) }) else none
   |none=>none
  |_,_=>none
 |.makeSlice sz bytes z l c=>match natOfA (l.ev s.slots),natOfA (c.ev s.slots) with
  | some l, some c => if l ≤ c ∧ bytes * c ≤ roomA ∧ c ≤ maxLenA ∧ z.length = sz then
    some (.eff { val:=.ref (lvQ s.mem.length dst) dst nvi 0 l sz,upd:=[(lvQ s.mem.length dst,dst,some (.row nvi (List.replicate l z)))],tip:=[],rd:=[] }) else none
  |_,_=>none
 |.makeFunc f cap=>if (evs s.slots cap).all isCell0 then Eff.pure (.clo f (evs s.slots cap)) else none
 |.call f args=>match Nat.ble 1099511627776 row with
  |true=>doHide call (row % 4294967296) (keysH (s.mem.length-1) 4 (row / 1099511627776)) (if hasNat1 1022 4 (row / 1099511627776) then ptrD (hide s.mem (keysH (s.mem.length-1) 4 (row / 1099511627776))) (evs s.slots args) else if hasNat1 1023 4 (row / 1099511627776) then ptrK (evs s.slots args) else []) s (lvQ s.mem.length dst) dst nvi f (evs s.slots args)
  |false=>match Nat.beq row 7 with
  |true=>doFlat call s f (evs s.slots args)
  |false=>match Nat.beq row 8 with
  |true=>doKeep call s f (evs s.slots args)
  |false=>match Nat.beq row 9 with
  |true=>doGive call s nvi f (evs s.slots args)
  |false=>match Nat.beq row 10 with
  |true=>doLend call s nvi f (evs s.slots args)
  |false=>doCall call (sh f) row s (lvQ s.mem.length dst) dst nvi f (evs s.slots args)
 |.callF f args=>match Nat.ble 1099511627776 row with
  |true=>doHide call (row % 4294967296) (keysH (s.mem.length-1) 4 (row / 1099511627776)) (if hasNat1 1022 4 (row / 1099511627776) then ptrD (hide s.mem (keysH (s.mem.length-1) 4 (row / 1099511627776))) (evs s.slots args) else if hasNat1 1023 4 (row / 1099511627776) then ptrK (evs s.slots args) else []) s (lvQ s.mem.length dst) dst nvi f (evs s.slots args)
  |false=>match sh f with
  |true=>doCall call true row s (lvQ s.mem.length dst) dst nvi f (evs s.slots args)
  |false=>doFlat call s f (evs s.slots args)
 |.callv x args=>match x.ev s.slots with
  |.clo f cap=>doCall call (sh f) row s (lvQ s.mem.length dst) dst nvi f (evs s.slots args++cap)
  |_=>none
def wantedA (s:Tr AV) (o:AOper):Option Bool:=
 match o.gd with
 |none=>some true
 |some (g,b)=>match getS s g with
  |.d (.sc (.bool t))=>some (t==b)
  |.tup _=>some false
  |_=>none
def rowQ (row:Nat):Nat:=row % 4294967296+row / 1099511627776*1099511627776
def dstQ (row d nvi:Nat):Nat:=match Nat.ble 4294967296 (row % 1099511627776) with
 |true=>1048576+nvi
 |false=>d
def AOper.step (call:Call) (sh:Nat→Bool) (s:St) (nvi:Nat) (o:AOper):Option Res:=
 match wantedA s.slots o with
 |none=>none
 |some true=>o.op.run call sh s (rowQ o.row) (dstQ o.row (o.dst.getD 0) nvi) nvi
 |some false=>Eff.pure undefA
def runOps (call:Call) (sh:Nat→Bool) (nv0:Nat):Nat→List AOper→St→Option St
 |_,[],s=>some s
 |i,o :: r,s=>match o.step call sh s (nv0+i) with
  |none=>none
  |some e=>runOps call sh nv0 (i+1) r (s.app o.dst e)
def meets (a b:List (Nat×Nat×Nat)):Bool:=a.any fun k=>b.contains k
def loud:Res→Bool
 |.eff e=>!(e.rd.isEmpty&&e.upd.isEmpty&&e.tip.isEmpty)
 |.all ..=>true
def within (kp kr:List (Nat×Nat)) (e:Eff):Bool:=(e.rd.all fun k=>(kp++kr).any fun p=>k==keyE p.1 p.2)&&e.wr.all fun k=>kp.any fun p=>k==keyE p.1 p.2
def clash:Res→Res→Bool
 |.eff a,.eff b=>meets a.rd b.wr||meets a.wr b.rd||meets a.wr b.wr
 |.all _ _ _ _ kp kr,.eff b=>!within kp kr b
 |.eff a,.all _ _ _ _ kp kr=>!within kp kr a
 |.all ..,.all ..=>true
def clear (bef:Nat) (e:Res):List (Nat×Res)→Bool
 |[]=>true
 |(i,x) :: r=>(bef.testBit i || !clash x e)&&clear bef e r
def runAny (call:Call) (sh:Nat→Bool) (nv0:Nat):Nat→List AOper→List (Nat×Res)→St→Option St
 |_,[],_,s=>some s
 | i, o :: r, past, s => match o.step call sh s (nv0 + i) with
  |none=>none
  |some e=>match clear o.bef e past with
   |true=>runAny call sh nv0 (i+1) r ((i,e) :: past) (s.app o.dst e)
   |false=>none
def runRegion (call:Call) (sh:Nat→Bool) (ops:List AOper) (draw:Bool) (s:St):Option St:=
 let s':={ s with nv:=s.nv+ops.length }
 match draw with
 |false=>runOps call sh s.nv 0 ops s'
 |true=>runAny call sh s.nv 0 ops [] s'
inductive AX where
 |normal
 |exit (id:Nat)
 |ret
 deriving Inhabited
def exec (call : Call) (sh : Nat → Bool) : Nat → AC → St → Option (AX × St)
 |0,_,_=>none
 | n + 1, c, s => match c with
  |.skip=>some (.normal,s)
  |.region ops draw=>(runRegion call sh ops draw s).map fun s'=>(.normal,s')
  |.seq a b=>match exec call sh n a s with
   |some (.normal,s')=>exec call sh n b s'
   |r=>r
  |.cond c a b=>match boolOfA (c.ev s.slots) with
   |some true=>exec call sh n a s
   |some false=>exec call sh n b s
   |none=>none
  | .block id c => match exec call sh n c s with
   |some (.exit id',s')=>match Nat.beq id' id with
    |true=>some (.normal,s')
    |false=>some (.exit id',s')
   |r=>r
  |.loop c=>match exec call sh n c s with
   |some (.normal,s')=>exec call sh n (.loop c) s'
   |r=>r
  |.exit id=>some (.exit id,s)
  |.ret=>some (.ret,s)
def resA (s:St):ARes→Option AV
 |.t n=>match notTup (getS s.slots n) with
  |true=>some (getS s.slots n)
  |false=>none
 |.cell n sz agg=>(loadA s.mem sz (getS s.slots n)).bind (wrapAgg agg)
def resAll (s:St):List ARes→Option (List AV)
 |[]=>some []
 |x :: r=>match resA s x,resAll s r with
  |some y,some ys=>some (y :: ys)
  |_,_=>none
def tupOf:List AV→AV
 |[v]=>v
 |vs=>.tup vs
def argSlots:Nat→List AV→Tr AV→Tr AV
 |_,[],t=>t
 |i,x :: r,t=>argSlots (i+1) r (t.set i (some x))
def runF (Fs : Nat → Option AFn) : Nat → Call
 |0,_,_,_,_,_=>none
 | n + 1, f, args, mem, tips, nv => match Fs f with
  |none=>none
  | some fn => match Nat.beq args.length fn.np with
   |false=>none
   |true=>match exec (runF Fs n) (fun g=>((Fs g).map (·.sh)).getD false) n fn.body { slots:=argSlots 0 args .lf,mem,tips,nv } with
    |some (.normal,s)|some (.ret,s)=>(resAll s fn.res).map fun vs=>(tupOf vs,s.mem,s.tips,s.nv)
    |_=>none
end Go.Eng
