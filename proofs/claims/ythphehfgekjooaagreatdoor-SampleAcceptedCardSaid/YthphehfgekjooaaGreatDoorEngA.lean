/- An abstract machine over pure data: definitions. It mirrors what a cut of Go code computes, without addresses, capacities or the tape. -/
import Derived.Orders
set_option linter.unusedVariables false
set_option linter.unusedSimpArgs false
namespace Go.bq
open Go
inductive D where
 |sc (v:Value)
 |sl (els:List (List D))
 |er
 deriving Inhabited
inductive PK where
 |full
 |bR (aa sz:Nat)
 |bB
 deriving Inhabited
inductive AV where
 |d (x:D)
 |own (els:List (List D)) (o:PK)
 |agg (cs:List AV)
 |gN (vs:List AV)
 |ref (lv sl aa off len sz:Nat)
 |ptr (lv sl aa i off:Nat)
 |eA (lv sl aa off n sz:Nat)
 |eW (e:List D) (off:Nat)
 |fB (f:Nat) (cap:List AV)
 |mp (lv sl aa:Nat)
 deriving Inhabited
inductive aZ where
 |row (aa:Nat) (els:List (List D))
 |box (aa:Nat) (cells:List AV)
 |Nd (aa:Nat) (els:List (List D))
 |mp (aa:Nat) (ks:List (List UInt8))
 deriving Inhabited
inductive Tr (α : Type) where
 |lf
 |nd (v:Option α) (l r:Tr α)
 deriving Inhabited
def Tr.get? {α : Type} : Tr α→Nat→Option α
 |.lf,_=>none
 | .nd v l r, n =>
  match Nat.beq n 0 with
  |true=>v
  |false=>match Nat.beq (n % 2) 1 with
   |true=>l.get? (n / 2)
   |false=>r.get? (n / 2-1)
def Tr.top {α : Type} : Tr α→Option α
 |.lf=>none
 |.nd v _ _=>v
def Tr.left {α : Type} : Tr α→Tr α
 |.lf=>.lf
 |.nd _ l _=>l
def Tr.right {α : Type} : Tr α→Tr α
 |.lf=>.lf
 |.nd _ _ r=>r
def Tr.PL {α : Type} : Nat→Tr α→Nat→Option α→Tr α
 |0,t,_,_=>t
 | f + 1, t, n, x =>
  match Nat.beq n 0 with
  |true=>.nd x t.left t.right
  |false=>match Nat.beq (n % 2) 1 with
   |true=>.nd t.top (Tr.PL f t.left (n / 2) x) t.right
   |false=>.nd t.top t.left (Tr.PL f t.right (n / 2-1) x)
def Tr.set {α : Type} (t:Tr α) (n:Nat) (x:Option α):Tr α:=Tr.PL (n+1) t n x
structure St where
 slots:Tr AV
 mem:List (Tr aZ)
 aB:Tr Unit
 nv:Nat
 deriving Inhabited
inductive bA where
 |t (n:Nat)
 |c (v:AV)
 deriving Inhabited
def je:AV:=.gN []
def iJ (s:Tr AV) (n:Nat):AV:=(s.get? n).getD je
def bA.ev (s:Tr AV):bA→AV
 |.t n=>iJ s n
 |.c v=>v
inductive bL where
 |Gv (x:bA)
 |pick (c a b:bA)
 |alloc (zero:List AV)
 |box (x:bA)
 |build (zero:List AV) (parts:List (Nat×Nat×bA))
 |buildSlice (sz n:Nat) (zero:List D) (parts:List (Nat×bA))
 |load (sz:Nat) (agg:Bool) (x:bA)
 |store (sz:Nat) (x v:bA)
 |nilCheck (x:bA)
 |bin (op:BinOp) (x y:bA)
 |TT (neg:Bool) (x y:bA)
 |TU (neg:Bool) (sz:Nat) (cells:List (Nat×Nat)) (x y:bA)
 |xe (neg:Bool) (x:bA)
 |un (op:UnOp) (x:bA)
 |conv (k:IntKind) (x:bA)
 |field (off sz:Nat) (agg:Bool) (x:bA)
 |fieldAddr (off:Nat) (x:bA)
 |indexAddr (sz:Nat) (x i:bA)
 |jz (n sz:Nat) (x i:bA)
 |oY (n sz:Nat) (agg:Bool) (x i:bA)
 |oZ (x i:bA)
 |slice (sz:Nat) (x:bA) (lo hi mx:Option bA)
 |o6 (x:bA) (lo hi:Option bA)
 |extract (x:bA) (i:Nat)
 |len (x:bA)
 |Eg (x:bA)
 |Gw (x:bA)
 |W1 (x:bA)
 |W2 (x:bA)
 |mkSet
 |Gx (m k:bA)
 |Gy (m k:bA)
 |Cf (n:Nat)
 |Eh (x y:bA)
 |Ei (x y:bA)
 |append (sz bytes:Nat) (x y:bA)
 |ny (sz bytes:Nat) (z:List D) (x n:bA)
 |copy (sz:Nat) (x y:bA)
 |makeSlice (sz bytes:Nat) (zero:List D) (len cap:bA)
 |makeFunc (f:Nat) (cap:List bA)
 |sliceB (n sz:Nat) (x:bA)
 |qA (lo n sz:Nat) (x:bA)
 |clear (sz:Nat) (zero:List D) (x:bA)
 |grow (sz:Nat) (x n:bA)
 |clone (sz bytes:Nat) (x:bA)
 |sort (x:bA)
 |compact (x:bA)
 |bad
 |call (f:Nat) (args:List bA)
 |um (f:Nat) (args:List bA)
 |zA (x:bA) (args:List bA)
 deriving Inhabited
structure aY where
 dst:Option Nat
 op:bL
 gd:Option (Nat×Bool)
 mJ:Nat
 row:Nat
 deriving Inhabited
inductive AC where
 |skip
 |region (ops:List aY) (draw:Bool)
 |seq (a b:AC)
 |cond (c:bA) (a b:AC)
 |block (id:Nat) (c:AC)
 |loop (c:AC)
 |exit (id:Nat)
 |ret
 deriving Inhabited
inductive zB where
 |t (n:Nat)
 |cell (n sz:Nat) (agg:Bool)
 deriving Inhabited
structure sQ where
 np:Nat
 nt:Nat
 res:List zB
 body:AC
 sh:Bool
 deriving Inhabited
def aC (m:List (Tr aZ)) (lv sl:Nat):Option aZ:=(m[lv]?).bind fun t=>t.get? sl
def bF (m:List (Tr aZ)) (lv sl:Nat) (e:Option aZ):List (Tr aZ):=m.modify lv fun t=>t.set sl e
def rowAt (m:List (Tr aZ)) (lv sl aa:Nat):Option (List (List D)):=
 match aC m lv sl with
 |some (.row v els)=>match Nat.beq v aa with|true=>some els|false=>none
 |_=>none
def fK (m:List (Tr aZ)) (lv sl aa:Nat):Option (List AV):=
 match aC m lv sl with
 |some (.box v cs)=>match Nat.beq v aa with|true=>some cs|false=>none
 |_=>none
def setAt (m:List (Tr aZ)) (lv sl aa:Nat):Option (List (List UInt8)):=
 match aC m lv sl with
 |some (.mp v ks)=>match Nat.beq v aa with|true=>some ks|false=>none
 |_=>none
def hasB (ks:List (List UInt8)) (k:List UInt8):Bool:=ks.any fun l=>decide (k=l)
def qB (ks:List (List UInt8)) (k:List UInt8):List (List UInt8):=match hasB ks k with
 |true=>ks
 |false=>ks++[k]
def qj (m:List (Tr aZ)) (lv sl aa:Nat):Option (List (List D)):=
 match aC m lv sl with
 |some (.row v els)=>match Nat.beq v aa with|true=>some els|false=>none
 |some (.Nd v els)=>match Nat.beq v aa with|true=>some els|false=>none
 |_=>none
def cH (m:List (Tr aZ)):AV→Option (List (List D))
 |.d (.sl els)=>some els
 |.own els _=>some els
 |.ref lv sl aa off len _=>(qj m lv sl aa).bind fun els=>if off+len≤els.length then some ((els.drop off).take len) else none
 |_=>none
def cellsOf:AV→Option (List AV)
 |.agg cs=>some cs
 |.gN _=>none
 |v=>some [v]
def yB (m:List (Tr aZ)):AV→Option (D×List (Nat×Nat))
 |.d x=>some (x,[])
 |.own els .full=>some (.sl els,[])
 |.own els (.bR _ _)=>some (.sl els,[])
 |.ref lv sl aa off len sz=>(cH m (.ref lv sl aa off len sz)).map fun els=>(.sl els,[(lv,sl)])
 |_=>none
def Cg (m:List (Tr aZ)):List AV→Option (List D×List (Nat×Nat))
 |[]=>some ([],[])
 |x :: r=>match yB m x,Cg m r with
  |some (y,k),some (ys,ks)=>some (y :: ys,k++ks)
  |_,_=>none
def CB (m:List (Tr aZ)) (x:AV):Option (List D×List (Nat×Nat)):=(cellsOf x).bind (Cg m)
def splice {α : Type} (cs:List α) (off:Nat) (new:List α):List α:=cs.take off++new++cs.drop (off+new.length)
def CC (op:BinOp) (k:IntKind) (a b:Int):Option Int:=
 let x:=BitVec.ofInt k.bits a
 let y:=BitVec.ofInt k.bits b
 match op with
 |.and=>some (k.wrap (x &&& y).toNat)
 |.or=>some (k.wrap (x ||| y).toNat)
 |.xor=>some (k.wrap (x ^^^ y).toNat)
 |.andNot=>some (k.wrap (x &&& ~~~y).toNat)
 |_=>none
def Ej (op:BinOp) (k:IntKind) (a:Int) (k':IntKind) (b:Int):Option Value:=
 match op with
 |.shl=>if b<0 then none else some (.int k (k.wrap (a*2 ^ min b.toNat k.bits)))
 |.shr=>if b<0 then none else some (.int k (a.fdiv (2 ^ min b.toNat k.bits)))
 |op=>if k≠k' then none else
  match op with
  |.add=>some (.int k (k.wrap (a+b)))
  |.sub=>some (.int k (k.wrap (a-b)))
  |.mul=>some (.int k (k.wrap (a*b)))
  |.quo=>if b=0 then none else some (.int k (k.wrap (a.tdiv b)))
  |.rem=>if b=0 then none else some (.int k (a.tmod b))
  |.and|.or|.xor|.andNot=>(CC op k a b).map (.int k)
  |.eql=>some (.bool (a==b))
  |.neq=>some (.bool (a != b))
  |.lss=>some (.bool (a<b))
  |.leq=>some (.bool (a≤b))
  |.gtr=>some (.bool (a>b))
  |.geq=>some (.bool (a≥b))
  |_=>none
def JE (op:BinOp) (x y:ByteArray):Option Value:=
 match op with
 |.add=>if ((x.size+y.size:Nat):Int)>IntKind.i64.max then none else some (.string (x++y))
 |.eql=>some (.bool (x.toList==y.toList))
 |.neq=>some (.bool !(x.toList==y.toList))
 |.lss=>some (.bool (Op.bytesLess x.toList y.toList))
 |.leq=>some (.bool (Op.bytesLess x.toList y.toList||x.toList==y.toList))
 |.gtr=>some (.bool !(Op.bytesLess x.toList y.toList||x.toList==y.toList))
 |.geq=>some (.bool !(Op.bytesLess x.toList y.toList))
 |_=>none
def PM (op:BinOp):AV→AV→Option Value
 |.d (.sc (.int k a)),.d (.sc (.int k' b))=>Ej op k a k' b
 |.d (.sc (.string a)),.d (.sc (.string b))=>JE op a b
 |_,_=>none
def GA (kd:Nat):AV→AV→Option Bool
 |.d (.sc (.bool a)),.d (.sc (.bool b))=>match kd with|0=>some (a==b)|_=>none
 |.d (.sc (.int k a)),.d (.sc (.int k' b))=>match kd with|1=>if k=k' then some (a==b) else none|_=>none
 |.d (.sc (.string a)),.d (.sc (.string b))=>match kd with|0=>none|1=>none|_=>some (a==b)
 |_,_=>none
def lq (xs ys:List AV):List (Nat×Nat)→Option Bool
 |[]=>some true
 | o :: r => match xs[o.1]?, ys[o.1]? with
  |some x,some y=>match GA o.2 x y with
   |some true=>lq xs ys r
   |some false=>some false
   |none=>none
  |_,_=>none
def unA (op:UnOp):AV→Option Value
 |.d (.sc (.bool b))=>match op with|.not=>some (.bool !b)|_=>none
 |.d (.sc (.int k n))=>match op with
  |.neg=>some (.int k (k.wrap (0-n)))
  |.xor=>(CC .xor k (if k.signed then -1 else k.max) n).map (.int k)
  |_=>none
 |_=>none
def qC:AV→Option Int
 |.d (.sc (.int _ n))=>some n
 |_=>none
def fo (x:AV):Option Nat:=(qC x).bind fun n=>if 0≤n then some n.toNat else none
def iu:AV→Option Bool
 |.d (.sc (.bool b))=>some b
 |_=>none
def lu (v:Value):AV:=.d (.sc v)
def n6 (n:Nat):AV:=.d (.sc (.int .i64 n))
def mo:AV→Bool
 |.agg _|.gN _|.fB _ _=>false
 |_=>true
structure eU where
 val:AV
 cv:List (Nat×Nat×Option aZ)
 bR:List (Nat×Bool)
 rd:List (Nat×Nat×Nat)
 deriving Inhabited
inductive cR where
 |bC (e:eU)
 |all (val:AV) (mem:List (Tr aZ)) (aB:Tr Unit) (nv:Nat)
 deriving Inhabited
def eU.pure (v:AV):Option cR:=some (.bC { val:=v,cv:=[],bR:=[],rd:=[] })
def bw (lv sl:Nat):Nat×Nat×Nat:=(0,lv,sl)
def jw (v:Nat):Nat×Nat×Nat:=(1,v,0)
def eU.wr (e:eU):List (Nat×Nat×Nat):=e.cv.map (fun u=>bw u.1 u.2.1)++e.bR.map fun u=>jw u.1
def cF:AV→List (Nat×Nat×Nat)
 |.ref lv sl _ _ _ _=>[bw lv sl]
 |.ptr lv sl _ _ _=>[bw lv sl]
 |.eA lv sl _ _ _ _=>[bw lv sl]
 |.mp lv sl _=>[bw lv sl]
 |_=>[]
def dA:AV→List (Nat×Nat×Nat)
 |.agg cs=>cs.flatMap cF
 |v=>cF v
def aX (m:List (Tr aZ)):List (Nat×Nat×Option aZ)→List (Tr aZ)
 |[]=>m
 |(lv,sl,e) :: r=>aX (bF m lv sl e) r
def dh (t:Tr Unit):List (Nat×Bool)→Tr Unit
 |[]=>t
 |(v,b) :: r=>dh (t.set v (if b then some () else none)) r
def uo (s:Tr AV) (dst:Option Nat) (v:AV):Tr AV:=
 match dst with
 |some n=>s.set n (some v)
 |none=>s
def St.app (s:St) (dst:Option Nat):cR→St
 |.bC e=>{ slots:=uo s.slots dst e.val,mem:=aX s.mem e.cv,aB:=dh s.aB e.bR,nv:=s.nv }
 |.all v m t n=>{ slots:=uo s.slots dst v,mem:=m,aB:=t,nv:=n }
abbrev Call:=Nat→List AV→List (Tr aZ)→Tr Unit→Nat→Option (AV×List (Tr aZ)×Tr Unit×Nat)
def cy (m:List (Tr aZ)):AV→Option AV
 |.d x=>some (.d x)
 |.own els .bB=>some (.own els .bB)
 |.own els _=>some (.d (.sl els))
 |.ref lv sl aa off len sz=>(cH m (.ref lv sl aa off len sz)).map fun els=>.own els .bB
 |.fB f []=>some (.fB f [])
 |_=>none
def dJ (m:List (Tr aZ)):AV→Option (AV×List (Nat×Nat))
 |.own els .bB=>some (.own els .bB,[])
 |.fB f []=>some (.fB f [],[])
 |x=>(yB m x).map fun (y,k)=>(.d y,k)
def eB (m:List (Tr aZ)):List AV→Option (List AV×List (Nat×Nat))
 |[]=>some ([],[])
 |x :: r=>match dJ m x,eB m r with
  |some (y,k),some (ys,ks)=>some (y :: ys,k++ks)
  |_,_=>none
def vU (m:List (Tr aZ)):AV→Option (AV×List (Nat×Nat))
 |.agg cs=>(eB m cs).map fun (ys,ks)=>(.agg ys,ks)
 |x=>(cy m x).map fun y=>(y,[])
def n7 (m:List (Tr aZ)):List AV→Option (List AV×List (Nat×Nat))
 |[]=>some ([],[])
 |x :: r=>match vU m x,n7 m r with
  |some (y,k),some (ys,ks)=>some (y :: ys,k++ks)
  |_,_=>none
def nA (top pk:Nat):Bool:=!Nat.beq pk 0 && !Nat.beq top 0
def aW (cm : List (Tr aZ)) (top pk k : Nat) (lv sl aa : Nat) : AV → Option (AV × List (List (List D)))
 |.d x=>some (.d x,[])
 | .own els .full => match !Nat.beq (pk / 65536) 0 && Nat.beq k (pk % 65536), els with
  |true,[]=>some (.ref lv sl aa 0 0 (pk / 65536),[[]])
  |_,els=>match nA top pk||Nat.beq (pk % 65536) 65535 with
   |true=>some (.own els .full,[])
   |false=>some (.d (.sl els),[])
 |.own els (.bR v tz)=>match nA top pk with
  |true=>some (.own els (.bR v tz),[])
  |false=>some (.d (.sl els),[])
 | .ref bV cS fN off len sz =>
  match Nat.ble top bV with
  |false=>some (.ref bV cS fN off len sz,[])
  | true => match cH cm (.ref bV cS fN off len sz) with
   |none=>none
   | some els => match Nat.beq pk 0 with
    |true=>some (.d (.sl els),[])
    | false => match Nat.beq k (pk % 65536) with
     |true=>match rowAt cm bV cS fN with
      |some _=>some (.ref lv sl aa 0 len sz,[els])
      |none=>none
     |false=>match rowAt cm bV cS fN with
      |some _=>none
      |none=>some (.d (.sl els),[])
 |.fB f []=>some (.fB f [],[])
 |_=>none
def bZ (cm:List (Tr aZ)) (top pk lv sl aa:Nat):Nat→List AV→Option (List AV×List (List (List D)))
 |_,[]=>some ([],[])
 |k,x :: r=>match aW cm top pk k lv sl aa x,bZ cm top pk lv sl aa (k+1) r with
  |some (y,u),some (ys,us)=>some (y :: ys,u++us)
  |_,_=>none
def kj (cm:List (Tr aZ)) (top pk lv sl aa k:Nat):AV→Option (AV×List (List (List D)))
 |.agg cs=>(bZ cm top pk lv sl aa k cs).map fun (vs,u)=>(.agg vs,u)
 |x=>aW cm top pk k lv sl aa x
def eX (cm:List (Tr aZ)) (top pk lv sl aa:Nat):Nat→List AV→Option (List AV×List (List (List D)))
 |_,[]=>some ([],[])
 |k,x :: r=>match kj cm top pk lv sl aa k x,eX cm top pk lv sl aa (k+64) r with
  |some (y,u),some (ys,us)=>some (y :: ys,u++us)
  |_,_=>none
def fF (cm:List (Tr aZ)) (top pk lv sl aa:Nat):AV→Option (AV×List (List (List D)))
 |.gN vs=>(eX cm top pk lv sl aa 1 vs).map fun (vs,u)=>(.gN vs,u)
 |x=>kj cm top pk lv sl aa 1 x
def jA (lv sl aa:Nat):List (List (List D))→Option (List (Nat×Nat×Option aZ))
 |[]=>some []
 |[els]=>some [(lv,sl,some (.row aa els))]
 |_=>none
def aZ.lz:aZ→Option aZ
 |.row v els=>some (.Nd v els)
 |.box _ _=>none
 |.Nd v els=>some (.Nd v els)
 |.mp _ _=>none
def di (m:List (Tr aZ)) (ks:List (Nat×Nat)):List (Nat×Nat×Option aZ):=ks.map fun k=>(k.1,k.2,(aC m k.1 k.2).bind aZ.lz)
def gO (ks:List (Nat×Nat)):List (Nat×Nat×Nat):=ks.map fun k=>bw k.1 k.2
def eY:AV→Bool
 |.gN _=>false
 |_=>true
def zC:AV→Bool
 |.d _=>true
 |_=>false
def vV:AV→Bool
 |.agg cs=>cs.all zC
 |x=>zC x
def Ek:AV→Bool
 |.gN vs=>vs.all vV
 |x=>vV x
def qD (cs:List AV):List (Tr aZ):=bF [.lf,.lf] 0 0 (some (.box 0 cs))
def nB:AV→Option AV
 |.d x=>some (.d x)
 |.own els .full=>some (.d (.sl els))
 |.own els (.bR _ _)=>some (.d (.sl els))
 |_=>none
def iQ:List AV→Option (List AV)
 |[]=>some []
 |x :: r=>match nB x,iQ r with
  |some y,some ys=>some (y :: ys)
  |_,_=>none
def El:AV→Option AV
 |.agg cs=>(iQ cs).map .agg
 |x=>nB x
def nC:List AV→Option (List AV)
 |[]=>some []
 |x :: r=>match El x,nC r with
  |some y,some ys=>some (y :: ys)
  |_,_=>none
def qE (call : Call) (s : St) (f lb sb vb : Nat) (args : List AV) : Option cR :=
 match fK s.mem lb sb vb with
 |none=>none
 | some cs => match iQ cs, nC args with
  | some cs0, some aD => match call f (.ptr 0 0 0 0 0 :: aD) (qD cs0) .lf 1 with
   |none=>none
   | some (r, cm, _, _) => match fK cm 0 0 0 with
    |none=>none
    | some cs' => match bZ cm 1 0 0 0 0 0 cs', fF cm 1 0 0 0 0 r with
     |some (ds,[]),some (val,[])=>match ds.all zC&&Ek val with
      |true=>some (.bC { val,cv:=[(lb,sb,some (.box vb ds))],bR:=[],rd:=bw lb sb :: args.flatMap dA })
      |false=>none
     |_,_=>none
  |_,_=>none
def nD:List AV→Option (Nat×Nat×Nat×List AV)
 |.ptr lv sl aa i off :: r=>match Nat.beq i 0&&Nat.beq off 0 with
  |true=>some (lv,sl,aa,r)
  |false=>none
 |_=>none
def eZ (call : Call) (shared : Bool) (row : Nat) (s : St) (lv sl aH : Nat) (f : Nat) (args : List AV) : Option cR :=
 match shared with
 | false =>
  match nD args with
  |some (lb,sb,vb,rest)=>qE call s f lb sb vb rest
  |none=>
  match n7 s.mem args with
  |none=>none
  | some (aD, ks) => match call f aD [.lf] .lf 0 with
   |none=>none
   | some (r, cm, _, _) => match fF cm 0 row lv sl aH r with
    |none=>none
    |some (v,us)=>match jA lv sl aH us with
     |none=>none
     |some u=>some (.bC { val:=v,cv:=di s.mem ks++u,bR:=[],rd:=args.flatMap dA })
 | true =>
  match args.all eY with
  |false=>none
  |true=>
  match call f args (s.mem++[.lf]) s.aB s.nv with
  |none=>none
  | some (r, cm, ts, n) => match fF cm s.mem.length row lv sl aH r with
   |none=>none
   |some (v,us)=>match jA lv sl aH us with
    |none=>none
    |some u=>some (.all v (aX (cm.take s.mem.length) u) ts n)
def vW (m:List (Tr aZ)):AV→Option (AV×List (Nat×Nat))
 |.agg cs=>(eB m cs).map fun (ys,ks)=>(.agg ys,ks)
 |x=>dJ m x
def qk (m:List (Tr aZ)):List AV→Option (List AV×List (Nat×Nat))
 |[]=>some ([],[])
 |x :: r=>match vW m x,qk m r with
  |some (y,k),some (ys,ks)=>some (y :: ys,k++ks)
  |_,_=>none
def mK (call:Call) (s:St) (aH f:Nat) (args:List AV):Option cR:=
 match qk s.mem args with
 |none=>none
 | some (aD, ks) => match call f aD [.lf] .lf 0 with
  |none=>none
  |some (r,cm,_,_)=>match fF cm 0 0 0 0 aH r with
   |some (v,[])=>some (.bC { val:=v,cv:=di s.mem ks,bR:=[],rd:=args.flatMap dA })
   |_=>none
def qF (m:List (Tr aZ)):List AV→Option (List AV)
 |[]=>some []
 |x :: r=>match cy m x,qF m r with
  |some y,some ys=>some (y :: ys)
  |_,_=>none
def uq (m:List (Tr aZ)):AV→Option AV
 |.agg cs=>(qF m cs).map .agg
 |x=>cy m x
def tj (m:List (Tr aZ)):List AV→Option (List AV)
 |[]=>some []
 |x :: r=>match uq m x,tj m r with
  |some y,some ys=>some (y :: ys)
  |_,_=>none
def o7 (call:Call) (s:St) (aH f:Nat) (args:List AV):Option cR:=
 match tj s.mem args with
 |none=>none
 | some aD => match call f aD [.lf] .lf 0 with
  |none=>none
  |some (r,cm,_,_)=>match fF cm 0 0 0 0 aH r with
   |some (v,[])=>some (.bC { val:=v,cv:=[],bR:=[],rd:=args.flatMap dA })
   |_=>none
def o8 (call:Call) (s:St) (f:Nat) (args:List AV):Option cR:=
 match args.all eY with
 |false=>none
 |true=>match call f args (s.mem++[.lf]) s.aB s.nv with
  |none=>none
  |some (r,cm,ts,n)=>some (.all r cm ts n)
def gw (m:List (Tr aZ)):AV→Option D
 |.d x=>some x
 |.own els _=>some (.sl els)
 |.ref lv sl aa off len sz=>(cH m (.ref lv sl aa off len sz)).map .sl
 |_=>none
def gP (m:List (Tr aZ)):List AV→Option (List D)
 |[]=>some []
 |x :: r=>match gw m x,gP m r with
  |some y,some ys=>some (y :: ys)
  |_,_=>none
def chunk {α : Type} (sz:Nat):Nat→List α→List (List α)
 |0,_=>[]
 |n+1,l=>l.take sz :: chunk sz n (l.drop sz)
def j8 (m:List (Tr aZ)):AV→Option AV
 |.agg cs=>(gP m cs).map fun ds=>.agg (ds.map .d)
 |.fB f []=>some (.fB f [])
 |.eA lv sl aa off n sz=>match fK m lv sl aa with
  |some cs=>if off+n*sz≤cs.length then (gP m ((cs.drop off).take (n*sz))).map fun ds=>.d (.sl (chunk sz n ds)) else none
  |none=>none
 |x=>(gw m x).map .d
def ur (m:List (Tr aZ)):List AV→Option (List AV)
 |[]=>some []
 |x :: r=>match j8 m x,ur m r with
  |some y,some ys=>some (y :: ys)
  |_,_=>none
def o9 (m:List (Tr aZ)):AV→List (Nat×Nat×Nat)
 |.eA lv sl aa _ _ _=>bw lv sl :: (match fK m lv sl aa with
  |some cs=>cs.flatMap cF
  |none=>[])
 |v=>dA v
def zD:AV→Bool
 |.d (.sc _)=>true
 |.d (.sl [])=>true
 |_=>false
def CD:AV→Bool
 |.agg cs=>cs.all zD
 |x=>zD x
def PN:AV→Bool
 |.gN vs=>vs.all CD
 |x=>CD x
def jB (call : Call) (s : St) (f : Nat) (args : List AV) : Option cR :=
 match ur s.mem args with
 |none=>none
 | some aD => match call f aD [.lf] .lf 0 with
  |none=>none
  | some (r, cm, _, _) => match fF cm 0 0 0 0 0 r with
   |some (v,[])=>match PN v with
    |true=>some (.bC { val:=v,cv:=[],bR:=[],rd:=args.flatMap (o9 s.mem) })
    |false=>none
   |_=>none
def tn (row top dst:Nat):Nat×Nat:=match Nat.beq (row % 65536) 5 with
 |true=>(0,1000000+row / 65536)
 |false=>(top,dst)
def GB (s:Tr AV) (l:List bA):List AV:=l.map (·.ev s)
def n8 (s:Tr AV):List AV→List (Nat×Nat×bA)→Option (List AV)
 |cs,[]=>some cs
 |cs,(off,sz,x) :: r=>match cellsOf (x.ev s) with
  |some new=>if new.length=sz∧off+sz≤cs.length then n8 s (splice cs off new) r else none
  |none=>none
def n9 (m : List (Tr aZ)) (s : Tr AV) (sz : Nat) : List (List D) → List (Nat × bA) → Option (List (List D) × List (Nat × Nat))
 |els,[]=>some (els,[])
 | els, (i, x) :: r => match CB m (x.ev s) with
  | some (e, ks) => if e.length = sz ∧ i < els.length then
    match n9 m s sz (els.set i e) r with
    |some (els',ks')=>some (els',ks++ks')
    |none=>none
   else none
  |none=>none
def ql (m : List (Tr aZ)) (sz : Nat) : AV → Option (List AV)
 | .ptr lv sl aa i off => match aC m lv sl with
  |some (.box v cs)=>match Nat.beq v aa,Nat.beq i 0 with
   |true,true=>if off+sz≤cs.length then some ((cs.drop off).take sz) else none
   |_,_=>none
  | some (.row v els) => match Nat.beq v aa with
   |true=>match els[i]? with
    |some e=>if off+sz≤e.length then some (((e.drop off).take sz).map .d) else none
    |none=>none
   |false=>none
  | some (.Nd v els) => match Nat.beq v aa with
   |true=>match els[i]? with
    |some e=>if off+sz≤e.length then some (((e.drop off).take sz).map .d) else none
    |none=>none
   |false=>none
  |some (.mp _ _)=>none
  |none=>none
 |.eW e off=>if off+sz≤e.length then some (((e.drop off).take sz).map .d) else none
 |_=>none
def fO (agg:Bool) (cs:List AV):Option AV:=
 match agg with
 |true=>some (.agg cs)
 |false=>match cs with
  |[v]=>some v
  |_=>none
def pg (m : List (Tr aZ)) (sz : Nat) (p v : AV) : Option eU :=
 match p,cellsOf v with
 | .ptr lv sl aa i off, some new =>
  if new.length = sz then
   match aC m lv sl with
   |some (.box v cs)=>match Nat.beq v aa,Nat.beq i 0 with
    |true,true=>if off+sz≤cs.length then some { val:=je,cv:=[(lv,sl,some (.box v (splice cs off new)))],bR:=[],rd:=[bw lv sl] } else none
    |_,_=>none
   | some (.row v els) => match Nat.beq v aa with
    |true=>match els[i]?,Cg m new with
     | some e, some (ds, ks) => if off + sz ≤ e.length ∧ ¬ (lv, sl) ∈ ks then
       some { val:=je,cv:=di m ks++[(lv,sl,some (.row v (els.set i (splice e off ds))))],bR:=[],rd:=bw lv sl :: gO ks } else none
     |_,_=>none
    |false=>none
   |some (.Nd _ _)=>none
   |some (.mp _ _)=>none
   |none=>none
  else none
 |_,_=>none
def fq (m:List (Tr aZ)):AV→Option (List (List D))
 |.d (.sc (.string b))=>some (b.data.toList.map fun c=>[.sc (.int .u8 c.toNat)])
 |x=>cH m x
def dU:Nat:=9223372036854775807
def jl:Nat:=140737488355328
def cP (s : St) (row : Bool) (lv sl aH sz bytes : Nat) (x y : AV) : Option eU :=
 match fq s.mem y with
 |none=>none
 | some news =>
  if news.all (fun e => e.length == sz) then
   match x with
   | .own els .full =>
    if els.all (fun e=>e.length==sz)∧els.length+news.length≤dU∧(els.length+news.length)*bytes≤jl then
     match row with
     |false=>some { val:=.own (els++news) (.bR aH sz),cv:=[],bR:=[(aH,true)],rd:=cF y }
     |true=>if els.isEmpty=false∧news.isEmpty=true then none else some { val:=.ref lv sl aH 0 (els.length+news.length) sz,cv:=[(lv,sl,some (.row aH (els++news)))],bR:=[],rd:=cF y }
    else none
   | .own els (.bR v tz) =>
    if tz=sz∧els.length+news.length≤dU∧(els.length+news.length)*bytes≤jl∧(s.aB.get? v).isSome then
     some { val:=.own (els++news) (.bR aH sz),cv:=[],bR:=[(v,false),(aH,true)],rd:=jw v :: cF y }
    else none
   | .ref bV cS aa off len sz' =>
    match rowAt s.mem bV cS aa with
    | some els =>
     if sz'=sz∧off+len≤els.length∧len+news.length≤dU∧(len+news.length)*bytes≤jl then
      some { val:=.ref bV cS aH 0 (len+news.length) sz,cv:=[(bV,cS,some (.row aH ((els.drop off).take len++news)))],bR:=[],rd:=bw bV cS :: cF y }
     else none
    |none=>none
   |_=>none
  else none
def bytesOf:List (List D)→Option (List UInt8)
 |[]=>some []
 |[.sc (.int .u8 n)] :: r=>(bytesOf r).map (UInt8.ofNat n.toNat :: ·)
 |_=>none
def lV (l:List UInt8):ByteArray:=⟨l.toArray⟩
def GC (s : St) (aH sz : Nat) (x : AV) (l : Nat) (hi : Option Nat) : Option eU :=
 match x with
 | .ref lv sl aa off len sz' => match rowAt s.mem lv sl aa with
  | some els =>
   if sz'=sz∧l≤hi.getD len∧hi.getD len≤len∧off+len≤els.length then
    some { val:=.ref lv sl aH 0 (hi.getD len-l) sz,cv:=[(lv,sl,some (.row aH ((els.drop (off+l)).take (hi.getD len-l))))],bR:=[],rd:=[bw lv sl] }
   else none
  |none=>none
 |_=>none
def isRow:AV→Bool
 |.ref ..=>true
 |_=>false
def GD (s:St) (lv dst aH:Nat) (x:AV):Option eU:=
 match x with
 | .ref bV cS aa off len sz => match rowAt s.mem bV cS aa with
  |some els=>match Nat.ble (off+len) els.length with
   |true=>some { val:=.ref lv dst aH 0 len sz,cv:=[(bV,cS,none),(lv,dst,some (.row aH ((els.drop off).take len)))],bR:=[],rd:=[bw bV cS] }
   |false=>none
  |none=>none
 |_=>none
def qG:List (List D)→Option (List Int)
 |[]=>some []
 |[.sc (.int .i64 z)] :: r=>(qG r).map (z :: ·)
 |_=>none
def gG (l:List Int):List (List D):=l.map fun z=>[.sc (.int .i64 z)]
def yC (x:Int):List Int→List Int
 |[]=>[x]
 |y :: r=>match decide (x≤y) with
  |true=>x :: y :: r
  |false=>y :: yC x r
def jm:List Int→List Int
 |[]=>[]
 |x :: r=>yC x (jm r)
def xg (s : St) (x : AV) : Option eU :=
 match x with
 |.own [] .full=>some { val:=je,cv:=[],bR:=[],rd:=[] }
 | .ref lv sl aa off len sz => match rowAt s.mem lv sl aa with
  | some els => (qG els).bind fun zs =>
   if off=0∧len=els.length∧sz=1∧els.length<4611686018427387904 then
    some { val:=je,cv:=[(lv,sl,some (.row aa (gG (jm zs))))],bR:=[],rd:=[bw lv sl] }
   else none
  |none=>none
 |_=>none
def gH:List Int→List Int
 |[]=>[]
 | x :: r => match r with
  |[]=>[x]
  |y :: _=>match decide (x=y) with
   |true=>gH r
   |false=>x :: gH r
def lB (s : St) (aH : Nat) (x : AV) : Option eU :=
 match x with
 |.own [] .full=>some { val:=.own [] .full,cv:=[],bR:=[],rd:=[] }
 | .ref lv sl aa off len sz => match rowAt s.mem lv sl aa with
  | some els => (qG els).bind fun zs =>
   if off=0∧len=els.length∧sz=1∧els.length<4611686018427387904 then
    some { val:=.ref lv sl aH 0 (gH zs).length 1,cv:=[(lv,sl,some (.row aH (gG (gH zs))))],bR:=[],rd:=[bw lv sl] }
   else none
  |none=>none
 |_=>none
def PO (row:Nat):Bool:=Nat.beq (row % 65536) 4||(Nat.beq (row % 65536) 6 && !Nat.beq (row / 65536) 0)
def yD (row lv dst aH:Nat) (x:AV):eU:=
 match PO row,x with
 |true,.own [] .full=>{ val:=.ref lv dst aH 0 0 (row / 65536),cv:=[(lv,dst,some (.row aH []))],bR:=[],rd:=[] }
 |_,v=>{ val:=v,cv:=[],bR:=[],rd:=[] }
def eG (x:Option bA) (s:Tr AV) (dflt:Nat):Option Nat:=
 match x with
 |none=>some dflt
 |some o=>fo (o.ev s)
def dV (sz : Nat) (x : AV) (lo : Nat) (hi mx : Option Nat) : Option AV :=
 match x with
 |.d (.sl els)=>
  let h:=hi.getD els.length
  match mx with
  |none=>if lo≤h∧h≤els.length∧els.all (fun e=>e.length==sz) then some (.d (.sl ((els.drop lo).take (h-lo)))) else none
  |some k=>if lo≤h∧h=k∧h≤els.length∧els.all (fun e=>e.length==sz) then some (.own ((els.drop lo).take (h-lo)) .full) else none
 | .own els o =>
  let h:=hi.getD els.length
  match mx with
  | none => if lo ≤ h ∧ h ≤ els.length ∧ els.all (fun e => e.length == sz) then
    match o with
    |.bB=>some (.own ((els.drop lo).take (h-lo)) .bB)
    |.full=>if h=els.length then some (.own (els.drop lo) .full) else some (.d (.sl ((els.drop lo).take (h-lo))))
    |.bR _ _=>some (.d (.sl ((els.drop lo).take (h-lo))))
   else none
  | some k => if lo ≤ h ∧ h = k ∧ h ≤ els.length ∧ els.all (fun e => e.length == sz) then
    match o with
    |.bB=>if h=lo then some (.own [] .full) else none
    |_=>some (.own ((els.drop lo).take (h-lo)) .full)
   else none
 |.ref lv sl aa off len sz'=>
  let h:=hi.getD len
  match mx with
  |none=>if lo≤h∧h≤len∧sz'=sz then some (.ref lv sl aa (off+lo) (h-lo) sz) else none
  |some k=>if lo=h∧h=k∧h≤len then some (.own [] .full) else none
 |_=>none
def bL.run (call : Call) (sh : Nat → Bool) (s : St) (row : Nat) (dst aH : Nat) : bL → Option cR
 |.Gv x=>match Nat.beq (row % 65536) 6&&isRow (x.ev s.slots) with
  |true=>(GD s (s.mem.length-1) dst aH (x.ev s.slots)).map .bC
  |false=>some (.bC (yD row (s.mem.length-1) dst aH (x.ev s.slots)))
 |.pick c a b=>(iu (c.ev s.slots)).bind fun t=>eU.pure (if t then a.ev s.slots else b.ev s.slots)
 |.alloc z=>some (.bC { val:=.ptr (s.mem.length-1) dst aH 0 0,cv:=[(s.mem.length-1,dst,some (.box aH z))],bR:=[],rd:=[] })
 |.box x=>(cellsOf (x.ev s.slots)).map fun cs=>.bC { val:=.ptr (s.mem.length-1) dst aH 0 0,cv:=[(s.mem.length-1,dst,some (.box aH cs))],bR:=[],rd:=[] }
 |.build z ps=>(n8 s.slots z ps).bind fun cs=>eU.pure (.agg cs)
 | .buildSlice sz n z ps =>
  match Nat.beq row 2 with
  | true => match Nat.beq n 0 with
   |true=>none
   |false=>(n8 s.slots ((List.replicate n z).flatten.map .d) (ps.map fun p=>(p.1*sz,sz,p.2))).map fun cs=>
    .bC { val:=.eA (s.mem.length-1) dst aH 0 n sz,cv:=[(s.mem.length-1,dst,some (.box aH cs))],bR:=[],rd:=[] }
  |false=>
  match n9 s.mem s.slots sz (List.replicate n z) ps with
  |none=>none
  | some (els, ks) =>
   match Nat.beq row 0 with
   |true=>some (.bC { val:=.own els .full,cv:=di s.mem ks,bR:=[],rd:=gO ks })
   |false=>if (s.mem.length-1,dst)∈ks then none else
    some (.bC { val:=.ref (s.mem.length-1) dst aH 0 n sz,cv:=di s.mem ks++[(s.mem.length-1,dst,some (.row aH els))],bR:=[],rd:=gO ks })
 |.load sz agg x=>(ql s.mem sz (x.ev s.slots)).bind fun cs=>(fO agg cs).map fun v=>.bC { val:=v,cv:=[],bR:=[],rd:=cF (x.ev s.slots) }
 |.store sz x v=>(pg s.mem sz (x.ev s.slots) (v.ev s.slots)).map .bC
 |.nilCheck x=>match x.ev s.slots with
  |.ptr lv sl aa i off=>eU.pure (.ptr lv sl aa i off)
  |.eW e off=>eU.pure (.eW e off)
  |.fB f cs=>eU.pure (.fB f cs)
  |_=>none
 |.bin op x y=>(PM op (x.ev s.slots) (y.ev s.slots)).bind fun v=>eU.pure (lu v)
 |.TT neg x y=>match iu (x.ev s.slots),iu (y.ev s.slots) with
  |some a,some b=>eU.pure (lu (.bool (if neg then !(a==b) else a==b)))
  |_,_=>none
 |.TU neg sz cells x y=>match x.ev s.slots,y.ev s.slots with
  |.agg xs,.agg ys=>if xs.length≠sz∨ys.length≠sz then none else (lq xs ys cells).bind fun b=>eU.pure (lu (.bool (if neg then !b else b)))
  |_,_=>none
 |.xe neg x=>match x.ev s.slots with
  |.d .er=>eU.pure (lu (.bool neg))
  |.d (.sc .nilIface)=>eU.pure (lu (.bool !neg))
  |_=>none
 |.un op x=>(unA op (x.ev s.slots)).bind fun v=>eU.pure (lu v)
 |.conv k x=>(qC (x.ev s.slots)).bind fun n=>eU.pure (lu (.int k (k.wrap n)))
 |.field off sz agg x=>match x.ev s.slots with
  |.agg cs=>if off+sz≤cs.length then (fO agg ((cs.drop off).take sz)).bind eU.pure else none
  |_=>none
 |.fieldAddr off x=>match x.ev s.slots with
  |.ptr lv sl aa i o=>eU.pure (.ptr lv sl aa i (o+off))
  |.eW e o=>eU.pure (.eW e (o+off))
  |_=>none
 | .indexAddr sz x i => (fo (i.ev s.slots)).bind fun n => match x.ev s.slots with
  |.d (.sl els)=>match els[n]? with
   |some e=>if e.length=sz then eU.pure (.eW e 0) else none
   |none=>none
  |.own els _=>match els[n]? with
   |some e=>if e.length=sz then eU.pure (.eW e 0) else none
   |none=>none
  |.ref lv sl aa off ln sz'=>if n<ln∧sz'=sz then eU.pure (.ptr lv sl aa (off+n) 0) else none
  |.eA lv sl aa off ln sz'=>if n<ln∧sz'=sz then eU.pure (.ptr lv sl aa 0 (off+n*sz)) else none
  |_=>none
 | .jz n sz x i => (fo (i.ev s.slots)).bind fun k => if k < n then
   match x.ev s.slots with
   |.ptr lv sl aa j o=>eU.pure (.ptr lv sl aa j (o+k*sz))
   |.eW e o=>eU.pure (.eW e (o+k*sz))
   |_=>none
  else none
 |.oY n sz agg x i=>(fo (i.ev s.slots)).bind fun k=>match x.ev s.slots with
  |.agg cs=>if k<n∧k*sz+sz≤cs.length then (fO agg ((cs.drop (k*sz)).take sz)).bind eU.pure else none
  |_=>none
 | .oZ x i => (fo (i.ev s.slots)).bind fun k => match x.ev s.slots with
  |.d (.sc (.string b))=>match b.data.toList[k]? with
   |some c=>eU.pure (lu (.int .u8 c.toNat))
   |none=>none
  |_=>none
 | .slice sz x lo hi mx =>
  match eG lo s.slots 0,eG hi s.slots 0,eG mx s.slots 0 with
  |some l,some h,some k=>match Nat.beq row 3&&(mx.isNone&&isRow (x.ev s.slots)) with
   |true=>(GC s aH sz (x.ev s.slots) l (hi.map fun _=>h)).map .bC
   |false=>(dV sz (x.ev s.slots) l (hi.map fun _=>h) (mx.map fun _=>k)).bind eU.pure
  |_,_,_=>none
 | .o6 x lo hi => match x.ev s.slots with
  |.d (.sc (.string b))=>match eG lo s.slots 0,eG hi s.slots b.size with
   |some l,some h=>if l≤h∧h≤b.size then eU.pure (lu (.string (b.extract l h))) else none
   |_,_=>none
  |_=>none
 |.extract x i=>match x.ev s.slots with
  |.gN vs=>(vs[i]?).bind eU.pure
  |_=>none
 |.len x=>match x.ev s.slots with
  |.d (.sl els)=>eU.pure (n6 els.length)
  |.own els _=>eU.pure (n6 els.length)
  |.ref _ _ _ _ n _=>eU.pure (n6 n)
  |.eA _ _ _ _ n _=>eU.pure (n6 n)
  |_=>none
 |.Gw x=>match x.ev s.slots with
  |.own els .full=>eU.pure (n6 els.length)
  |_=>none
 |.Eg x=>match x.ev s.slots with
  |.d (.sc (.string b))=>eU.pure (n6 b.size)
  |_=>none
 |.Cf n=>eU.pure (n6 n)
 |.W2 x=>match x.ev s.slots with
  |.d (.sc (.string b))=>eU.pure (.d (.sl (b.data.toList.map fun c=>[.sc (.int .u8 c.toNat)])))
  |_=>none
 |.W1 x=>(cH s.mem (x.ev s.slots)).bind fun els=>(bytesOf els).map fun l=>.bC { val:=lu (.string (lV l)),cv:=[],bR:=[],rd:=cF (x.ev s.slots) }
 |.Eh x y=>match x.ev s.slots,y.ev s.slots with
  |.d (.sc (.int k a)),.d (.sc (.int k' b))=>if k=k' then eU.pure (lu (.int k (min a b))) else none
  |_,_=>none
 |.Ei x y=>match x.ev s.slots,y.ev s.slots with
  |.d (.sc (.int k a)),.d (.sc (.int k' b))=>if k=k' then eU.pure (lu (.int k (max a b))) else none
  |_,_=>none
 |.append sz bytes x y=>(cP s (!Nat.beq row 0) (tn row (s.mem.length-1) dst).1 (tn row (s.mem.length-1) dst).2 aH sz bytes (x.ev s.slots) (y.ev s.slots)).map .bC
 | .ny sz bytes z x n => (fo (n.ev s.slots)).bind fun k => if z.length = sz ∧ k ≤ dU ∧ k * bytes ≤ jl then
   (cP s (!Nat.beq row 0) (s.mem.length-1) dst aH sz bytes (x.ev s.slots) (.d (.sl (List.replicate k z)))).map .bC else none
 | .sliceB n sz x => match x.ev s.slots with
  |.ptr lv sl aa i off=>match Nat.beq i 0 with
   |true=>eU.pure (.eA lv sl aa off n sz)
   |false=>none
  |_=>none
 | .qA lo n sz x => match x.ev s.slots with
  |.ptr lv sl aa i off=>match Nat.beq i 0&&Nat.blt lo n with
   |true=>eU.pure (.eA lv sl aa (off+lo*sz) (n-lo) sz)
   |false=>none
  |_=>none
 | .clear sz z x => match x.ev s.slots with
  |.ref lv sl aa off ln sz'=>match rowAt s.mem lv sl aa with
   | some els => if sz' = sz ∧ off + ln ≤ els.length ∧ z.length = sz then
     some (.bC { val:=je,cv:=[(lv,sl,some (.row aa (splice els off (List.replicate ln z))))],bR:=[],rd:=[bw lv sl] }) else none
   |none=>none
  |_=>none
 |.grow sz x n=>match x.ev s.slots,fo (n.ev s.slots) with
  |.own [] .full,some _=>some (.bC { val:=.own [] (.bR aH sz),cv:=[],bR:=[(aH,true)],rd:=[] })
  |_,_=>none
 |.clone sz bytes x=>match cH s.mem (x.ev s.slots) with
  |some _=>(cP s (!Nat.beq row 0) (s.mem.length-1) dst aH sz bytes (.own [] .full) (x.ev s.slots)).map .bC
  |none=>none
 |.mkSet=>some (.bC { val:=.mp (s.mem.length-1) dst aH,cv:=[(s.mem.length-1,dst,some (.mp aH []))],bR:=[],rd:=[] })
 |.Gx m k=>match m.ev s.slots,k.ev s.slots with
  |.mp lv sl aa,.d (.sc (.string b))=>(setAt s.mem lv sl aa).map fun ks=>.bC { val:=lu (.bool (hasB ks b.data.toList)),cv:=[],bR:=[],rd:=[bw lv sl] }
  |_,_=>none
 |.Gy m k=>match m.ev s.slots,k.ev s.slots with
  |.mp lv sl aa,.d (.sc (.string b))=>(setAt s.mem lv sl aa).map fun ks=>.bC { val:=je,cv:=[(lv,sl,some (.mp aa (qB ks b.data.toList)))],bR:=[],rd:=[bw lv sl] }
  |_,_=>none
 |.sort x=>(xg s (x.ev s.slots)).map .bC
 |.compact x=>(lB s aH (x.ev s.slots)).map .bC
 |.bad=>none
 | .copy sz x y => match x.ev s.slots, fq s.mem (y.ev s.slots) with
  |.eA lv sl aa off n sz',some news=>match fK s.mem lv sl aa with
   | some cs => if sz' = sz ∧ off + n * sz ≤ cs.length ∧ news.all (fun e => e.length == sz) then
     some (.bC { val:=n6 (min news.length n),cv:=[(lv,sl,some (.box aa (splice cs off ((news.take (min news.length n)).flatten.map .d))))],bR:=[],rd:=bw lv sl :: cF (y.ev s.slots) }) else none
   |none=>none
  |.ref lv sl aa off ln sz',some news=>match rowAt s.mem lv sl aa with
   | some els => if sz' = sz ∧ off + ln ≤ els.length ∧ news.all (fun e => e.length == sz) then
     some (.bC { val:=n6 (min news.length ln),cv:=[(lv,sl,some (.row aa (splice els off (news.take (min news.length ln)))))],bR:=[],rd:=bw lv sl :: cF (y.ev s.slots) }) else none
   |none=>none
  |_,_=>none
 |.makeSlice sz bytes z l c=>match fo (l.ev s.slots),fo (c.ev s.slots) with
  | some l, some c => if l ≤ c ∧ bytes * c ≤ jl ∧ c ≤ dU ∧ z.length = sz then
    some (.bC { val:=.ref (s.mem.length-1) dst aH 0 l sz,cv:=[(s.mem.length-1,dst,some (.row aH (List.replicate l z)))],bR:=[],rd:=[] }) else none
  |_,_=>none
 |.makeFunc f cap=>if (GB s.slots cap).all mo then eU.pure (.fB f (GB s.slots cap)) else none
 |.call f args=>match Nat.beq row 7 with
  |true=>jB call s f (GB s.slots args)
  |false=>match Nat.beq row 8 with
  |true=>o8 call s f (GB s.slots args)
  |false=>match Nat.beq row 9 with
  |true=>mK call s aH f (GB s.slots args)
  |false=>match Nat.beq row 10 with
  |true=>o7 call s aH f (GB s.slots args)
  |false=>eZ call (sh f) row s (s.mem.length-1) dst aH f (GB s.slots args)
 |.um f args=>match sh f with
  |true=>eZ call true row s (s.mem.length-1) dst aH f (GB s.slots args)
  |false=>jB call s f (GB s.slots args)
 |.zA x args=>match x.ev s.slots with
  |.fB f cap=>eZ call (sh f) row s (s.mem.length-1) dst aH f (GB s.slots args++cap)
  |_=>none
def ja (s:Tr AV) (o:aY):Option Bool:=
 match o.gd with
 |none=>some true
 |some (g,b)=>match iJ s g with
  |.d (.sc (.bool t))=>some (t==b)
  |.gN _=>some false
  |_=>none
def aY.step (call:Call) (sh:Nat→Bool) (s:St) (aH:Nat) (o:aY):Option cR:=
 match ja s.slots o with
 |none=>none
 |some true=>o.op.run call sh s o.row (o.dst.getD 0) aH
 |some false=>eU.pure je
def ko (call:Call) (sh:Nat→Bool) (lW:Nat):Nat→List aY→St→Option St
 |_,[],s=>some s
 |i,o :: r,s=>match o.step call sh s (lW+i) with
  |none=>none
  |some e=>ko call sh lW (i+1) r (s.app o.dst e)
def meets (a b:List (Nat×Nat×Nat)):Bool:=a.any fun k=>b.contains k
def j9:cR→Bool
 |.bC e=>!(e.rd.isEmpty&&e.cv.isEmpty&&e.bR.isEmpty)
 |.all ..=>true
def uu:cR→cR→Bool
 |.bC a,.bC b=>meets a.rd b.wr||meets a.wr b.rd||meets a.wr b.wr
 |a,b=>j9 a&&j9 b
def clear (mJ:Nat) (e:cR):List (Nat×cR)→Bool
 |[]=>true
 |(i,x) :: r=>(mJ.testBit i || !uu x e)&&clear mJ e r
def jC (call:Call) (sh:Nat→Bool) (lW:Nat):Nat→List aY→List (Nat×cR)→St→Option St
 |_,[],_,s=>some s
 | i, o :: r, past, s => match o.step call sh s (lW + i) with
  |none=>none
  |some e=>match clear o.mJ e past with
   |true=>jC call sh lW (i+1) r ((i,e) :: past) (s.app o.dst e)
   |false=>none
def iw (call:Call) (sh:Nat→Bool) (ops:List aY) (draw:Bool) (s:St):Option St:=
 let s':={ s with nv:=s.nv+ops.length }
 match draw with
 |false=>ko call sh s.nv 0 ops s'
 |true=>jC call sh s.nv 0 ops [] s'
inductive AX where
 |normal
 |exit (id:Nat)
 |ret
 deriving Inhabited
def exec (call : Call) (sh : Nat → Bool) : Nat → AC → St → Option (AX × St)
 |0,_,_=>none
 | n + 1, c, s => match c with
  |.skip=>some (.normal,s)
  |.region ops draw=>(iw call sh ops draw s).map fun s'=>(.normal,s')
  |.seq a b=>match exec call sh n a s with
   |some (.normal,s')=>exec call sh n b s'
   |r=>r
  |.cond c a b=>match iu (c.ev s.slots) with
   |some true=>exec call sh n a s
   |some false=>exec call sh n b s
   |none=>none
  | .block id c => match exec call sh n c s with
   |some (.exit id',s')=>match Nat.beq id' id with
    |true=>some (.normal,s')
    |false=>some (.exit id',s')
   |r=>r
  |.loop c=>match exec call sh n c s with
   |some (.normal,s')=>exec call sh n (.loop c) s'
   |r=>r
  |.exit id=>some (.exit id,s)
  |.ret=>some (.ret,s)
def GF (s:St):zB→Option AV
 |.t n=>match eY (iJ s.slots n) with
  |true=>some (iJ s.slots n)
  |false=>none
 |.cell n sz agg=>(ql s.mem sz (iJ s.slots n)).bind (fO agg)
def kq (s:St):List zB→Option (List AV)
 |[]=>some []
 |x :: r=>match GF s x,kq s r with
  |some y,some ys=>some (y :: ys)
  |_,_=>none
def iH:List AV→AV
 |[v]=>v
 |vs=>.gN vs
def dm:Nat→List AV→Tr AV→Tr AV
 |_,[],t=>t
 |i,x :: r,t=>dm (i+1) r (t.set i (some x))
def TV (Fs : Nat → Option sQ) : Nat → Call
 |0,_,_,_,_,_=>none
 | n + 1, f, args, mem, aB, nv => match Fs f with
  |none=>none
  | some fn => match Nat.beq args.length fn.np with
   |false=>none
   |true=>match exec (TV Fs n) (fun g=>((Fs g).map (·.sh)).getD false) n fn.body { slots:=dm 0 args .lf,mem,aB,nv } with
    |some (.normal,s)|some (.ret,s)=>(kq s fn.res).map fun vs=>(iH vs,s.mem,s.aB,s.nv)
    |_=>none
end Go.bq
