/- An abstract machine over pure data: definitions. It mirrors what a cut of Go code computes, without addresses, capacities or the tape. -/
import Derived.Orders
set_option linter.unusedVariables false
set_option linter.unusedSimpArgs false
namespace Go.bI
open Go
inductive D where
 |sc (v:Value)
 |sl (els:List (List D))
 |er
 deriving Inhabited
inductive MZ where
 |full
 |cx (af sz:Nat)
 |aJ
 deriving Inhabited
inductive AV where
 |d (x:D)
 |own (els:List (List D)) (o:MZ)
 |agg (cs:List AV)
 |gZ (vs:List AV)
 |ref (lv sl af off len sz:Nat)
 |ptr (lv sl af i off:Nat)
 |eH (lv sl af off n sz:Nat)
 |fo (e:List D) (off:Nat)
 |fV (f:Nat) (cap:List AV)
 |mp (lv sl af:Nat)
 deriving Inhabited
inductive bH where
 |row (af:Nat) (els:List (List D))
 |box (af:Nat) (cells:List AV)
 |KT (af:Nat) (els:List (List D))
 |mp (af:Nat) (ks:List (List UInt8))
 deriving Inhabited
inductive Tr (α : Type) where
 |lf
 |nd (v:Option α) (l r:Tr α)
 deriving Inhabited
def Tr.get? {α : Type} : Tr α→Nat→Option α
 |.lf,_=>none
 | .nd v l r, n =>
  match Nat.beq n 0 with
  |true=>v
  |false=>match Nat.beq (n % 2) 1 with
   |true=>l.get? (n / 2)
   |false=>r.get? (n / 2-1)
def Tr.top {α : Type} : Tr α→Option α
 |.lf=>none
 |.nd v _ _=>v
def Tr.left {α : Type} : Tr α→Tr α
 |.lf=>.lf
 |.nd _ l _=>l
def Tr.right {α : Type} : Tr α→Tr α
 |.lf=>.lf
 |.nd _ _ r=>r
def Tr.M0 {α : Type} : Nat→Tr α→Nat→Option α→Tr α
 |0,t,_,_=>t
 | f + 1, t, n, x =>
  match Nat.beq n 0 with
  |true=>.nd x t.left t.right
  |false=>match Nat.beq (n % 2) 1 with
   |true=>.nd t.top (Tr.M0 f t.left (n / 2) x) t.right
   |false=>.nd t.top t.left (Tr.M0 f t.right (n / 2-1) x)
def Tr.set {α : Type} (t:Tr α) (n:Nat) (x:Option α):Tr α:=Tr.M0 (n+1) t n x
structure St where
 slots:Tr AV
 mem:List (Tr bH)
 aE:Tr Unit
 nv:Nat
 deriving Inhabited
inductive bR where
 |t (n:Nat)
 |c (v:AV)
 deriving Inhabited
def jr:AV:=.gZ []
def jC (s:Tr AV) (n:Nat):AV:=(s.get? n).getD jr
def bR.ev (s:Tr AV):bR→AV
 |.t n=>jC s n
 |.c v=>v
inductive bM where
 |ED (x:bR)
 |pick (c a b:bR)
 |alloc (zero:List AV)
 |box (x:bR)
 |build (zero:List AV) (parts:List (Nat×Nat×bR))
 |buildSlice (sz n:Nat) (zero:List D) (parts:List (Nat×bR))
 |load (sz:Nat) (agg:Bool) (x:bR)
 |store (sz:Nat) (x v:bR)
 |nilCheck (x:bR)
 |bin (op:BinOp) (x y:bR)
 |QT (neg:Bool) (x y:bR)
 |QU (neg:Bool) (sz:Nat) (cells:List (Nat×Nat)) (x y:bR)
 |wo (neg:Bool) (x:bR)
 |un (op:UnOp) (x:bR)
 |conv (k:IntKind) (x:bR)
 |field (off sz:Nat) (agg:Bool) (x:bR)
 |fieldAddr (off:Nat) (x:bR)
 |indexAddr (sz:Nat) (x i:bR)
 |jE (n sz:Nat) (x i:bR)
 |n8 (n sz:Nat) (agg:Bool) (x i:bR)
 |n9 (x i:bR)
 |slice (sz:Nat) (x:bR) (lo hi mx:Option bR)
 |oa (x:bR) (lo hi:Option bR)
 |extract (x:bR) (i:Nat)
 |len (x:bR)
 |C9 (x:bR)
 |EE (x:bR)
 |TY (x:bR)
 |TZ (x:bR)
 |mkSet
 |EF (m k:bR)
 |EG (m k:bR)
 |Bv (n:Nat)
 |Da (x y:bR)
 |Db (x y:bR)
 |append (sz bytes:Nat) (x y:bR)
 |mK (sz bytes:Nat) (z:List D) (x n:bR)
 |copy (sz:Nat) (x y:bR)
 |makeSlice (sz bytes:Nat) (zero:List D) (len cap:bR)
 |makeFunc (f:Nat) (cap:List bR)
 |sliceB (n sz:Nat) (x:bR)
 |pP (lo n sz:Nat) (x:bR)
 |clear (sz:Nat) (zero:List D) (x:bR)
 |grow (sz:Nat) (x n:bR)
 |clone (sz bytes:Nat) (x:bR)
 |sort (x:bR)
 |compact (x:bR)
 |bad
 |call (f:Nat) (args:List bR)
 |tB (f:Nat) (args:List bR)
 |yS (x:bR) (args:List bR)
 deriving Inhabited
structure bA where
 dst:Option Nat
 op:bM
 gd:Option (Nat×Bool)
 lY:Nat
 row:Nat
 deriving Inhabited
inductive AC where
 |skip
 |region (ops:List bA) (draw:Bool)
 |seq (a b:AC)
 |cond (c:bR) (a b:AC)
 |block (id:Nat) (c:AC)
 |loop (c:AC)
 |exit (id:Nat)
 |ret
 deriving Inhabited
inductive yT where
 |t (n:Nat)
 |cell (n sz:Nat) (agg:Bool)
 deriving Inhabited
structure cV where
 np:Nat
 nt:Nat
 res:List yT
 body:AC
 sh:Bool
 deriving Inhabited
def aN (m:List (Tr bH)) (lv sl:Nat):Option bH:=(m[lv]?).bind fun t=>t.get? sl
def bN (m:List (Tr bH)) (lv sl:Nat) (e:Option bH):List (Tr bH):=m.modify lv fun t=>t.set sl e
def rowAt (m:List (Tr bH)) (lv sl af:Nat):Option (List (List D)):=
 match aN m lv sl with
 |some (.row v els)=>match Nat.beq v af with|true=>some els|false=>none
 |_=>none
def fX (m:List (Tr bH)) (lv sl af:Nat):Option (List AV):=
 match aN m lv sl with
 |some (.box v cs)=>match Nat.beq v af with|true=>some cs|false=>none
 |_=>none
def setAt (m:List (Tr bH)) (lv sl af:Nat):Option (List (List UInt8)):=
 match aN m lv sl with
 |some (.mp v ks)=>match Nat.beq v af with|true=>some ks|false=>none
 |_=>none
def hasB (ks:List (List UInt8)) (k:List UInt8):Bool:=ks.any fun l=>decide (k=l)
def pQ (ks:List (List UInt8)) (k:List UInt8):List (List UInt8):=match hasB ks k with
 |true=>ks
 |false=>ks++[k]
def nj (m:List (Tr bH)) (lv sl af:Nat):Option (List (List D)):=
 match aN m lv sl with
 |some (.row v els)=>match Nat.beq v af with|true=>some els|false=>none
 |some (.KT v els)=>match Nat.beq v af with|true=>some els|false=>none
 |_=>none
def dK (m:List (Tr bH)):AV→Option (List (List D))
 |.d (.sl els)=>some els
 |.own els _=>some els
 |.ref lv sl af off len _=>(nj m lv sl af).bind fun els=>if off+len≤els.length then some ((els.drop off).take len) else none
 |_=>none
def cellsOf:AV→Option (List AV)
 |.agg cs=>some cs
 |.gZ _=>none
 |v=>some [v]
def xM (m:List (Tr bH)):AV→Option (D×List (Nat×Nat))
 |.d x=>some (x,[])
 |.own els .full=>some (.sl els,[])
 |.own els (.cx _ _)=>some (.sl els,[])
 |.ref lv sl af off len sz=>(dK m (.ref lv sl af off len sz)).map fun els=>(.sl els,[(lv,sl)])
 |_=>none
def yU (m:List (Tr bH)):List AV→Option (List D×List (Nat×Nat))
 |[]=>some ([],[])
 |x :: r=>match xM m x,yU m r with
  |some (y,k),some (ys,ks)=>some (y :: ys,k++ks)
  |_,_=>none
def BQ (m:List (Tr bH)) (x:AV):Option (List D×List (Nat×Nat)):=(cellsOf x).bind (yU m)
def splice {α : Type} (cs:List α) (off:Nat) (new:List α):List α:=cs.take off++new++cs.drop (off+new.length)
def BR (op:BinOp) (k:IntKind) (a b:Int):Option Int:=
 let x:=BitVec.ofInt k.bits a
 let y:=BitVec.ofInt k.bits b
 match op with
 |.and=>some (k.wrap (x &&& y).toNat)
 |.or=>some (k.wrap (x ||| y).toNat)
 |.xor=>some (k.wrap (x ^^^ y).toNat)
 |.andNot=>some (k.wrap (x &&& ~~~y).toNat)
 |_=>none
def Dc (op:BinOp) (k:IntKind) (a:Int) (k':IntKind) (b:Int):Option Value:=
 match op with
 |.shl=>if b<0 then none else some (.int k (k.wrap (a*2 ^ min b.toNat k.bits)))
 |.shr=>if b<0 then none else some (.int k (a.fdiv (2 ^ min b.toNat k.bits)))
 |op=>if k≠k' then none else
  match op with
  |.add=>some (.int k (k.wrap (a+b)))
  |.sub=>some (.int k (k.wrap (a-b)))
  |.mul=>some (.int k (k.wrap (a*b)))
  |.quo=>if b=0 then none else some (.int k (k.wrap (a.tdiv b)))
  |.rem=>if b=0 then none else some (.int k (a.tmod b))
  |.and|.or|.xor|.andNot=>(BR op k a b).map (.int k)
  |.eql=>some (.bool (a==b))
  |.neq=>some (.bool (a != b))
  |.lss=>some (.bool (a<b))
  |.leq=>some (.bool (a≤b))
  |.gtr=>some (.bool (a>b))
  |.geq=>some (.bool (a≥b))
  |_=>none
def HF (op:BinOp) (x y:ByteArray):Option Value:=
 match op with
 |.add=>if ((x.size+y.size:Nat):Int)>IntKind.i64.max then none else some (.string (x++y))
 |.eql=>some (.bool (x.toList==y.toList))
 |.neq=>some (.bool !(x.toList==y.toList))
 |.lss=>some (.bool (Op.bytesLess x.toList y.toList))
 |.leq=>some (.bool (Op.bytesLess x.toList y.toList||x.toList==y.toList))
 |.gtr=>some (.bool !(Op.bytesLess x.toList y.toList||x.toList==y.toList))
 |.geq=>some (.bool !(Op.bytesLess x.toList y.toList))
 |_=>none
def M1 (op:BinOp):AV→AV→Option Value
 |.d (.sc (.int k a)),.d (.sc (.int k' b))=>Dc op k a k' b
 |.d (.sc (.string a)),.d (.sc (.string b))=>HF op a b
 |_,_=>none
def EH (kd:Nat):AV→AV→Option Bool
 |.d (.sc (.bool a)),.d (.sc (.bool b))=>match kd with|0=>some (a==b)|_=>none
 |.d (.sc (.int k a)),.d (.sc (.int k' b))=>match kd with|1=>if k=k' then some (a==b) else none|_=>none
 |.d (.sc (.string a)),.d (.sc (.string b))=>match kd with|0=>none|1=>none|_=>some (a==b)
 |_,_=>none
def kK (xs ys:List AV):List (Nat×Nat)→Option Bool
 |[]=>some true
 | o :: r => match xs[o.1]?, ys[o.1]? with
  |some x,some y=>match EH o.2 x y with
   |some true=>kK xs ys r
   |some false=>some false
   |none=>none
  |_,_=>none
def Zv (op:UnOp):AV→Option Value
 |.d (.sc (.bool b))=>match op with|.not=>some (.bool !b)|_=>none
 |.d (.sc (.int k n))=>match op with
  |.neg=>some (.int k (k.wrap (0-n)))
  |.xor=>(BR .xor k (if k.signed then -1 else k.max) n).map (.int k)
  |_=>none
 |_=>none
def pR:AV→Option Int
 |.d (.sc (.int _ n))=>some n
 |_=>none
def fN (x:AV):Option Nat:=(pR x).bind fun n=>if 0≤n then some n.toNat else none
def iG:AV→Option Bool
 |.d (.sc (.bool b))=>some b
 |_=>none
def kL (v:Value):AV:=.d (.sc v)
def nq (n:Nat):AV:=.d (.sc (.int .i64 n))
def lK:AV→Bool
 |.agg _|.gZ _|.fV _ _=>false
 |_=>true
structure eX where
 val:AV
 cK:List (Nat×Nat×Option bH)
 cx:List (Nat×Bool)
 rd:List (Nat×Nat×Nat)
 deriving Inhabited
inductive fW where
 |bS (e:eX)
 |all (val:AV) (mem:List (Tr bH)) (aE:Tr Unit) (nv:Nat)
 deriving Inhabited
def eX.pure (v:AV):Option fW:=some (.bS { val:=v,cK:=[],cx:=[],rd:=[] })
def cg (lv sl:Nat):Nat×Nat×Nat:=(0,lv,sl)
def jF (v:Nat):Nat×Nat×Nat:=(1,v,0)
def eX.wr (e:eX):List (Nat×Nat×Nat):=e.cK.map (fun u=>cg u.1 u.2.1)++e.cx.map fun u=>jF u.1
def cW:AV→List (Nat×Nat×Nat)
 |.ref lv sl _ _ _ _=>[cg lv sl]
 |.ptr lv sl _ _ _=>[cg lv sl]
 |.eH lv sl _ _ _ _=>[cg lv sl]
 |.mp lv sl _=>[cg lv sl]
 |_=>[]
def dF:AV→List (Nat×Nat×Nat)
 |.agg cs=>cs.flatMap cW
 |v=>cW v
def bB (m:List (Tr bH)):List (Nat×Nat×Option bH)→List (Tr bH)
 |[]=>m
 |(lv,sl,e) :: r=>bB (bN m lv sl e) r
def dL (t:Tr Unit):List (Nat×Bool)→Tr Unit
 |[]=>t
 |(v,b) :: r=>dL (t.set v (if b then some () else none)) r
def tC (s:Tr AV) (dst:Option Nat) (v:AV):Tr AV:=
 match dst with
 |some n=>s.set n (some v)
 |none=>s
def St.app (s:St) (dst:Option Nat):fW→St
 |.bS e=>{ slots:=tC s.slots dst e.val,mem:=bB s.mem e.cK,aE:=dL s.aE e.cx,nv:=s.nv }
 |.all v m t n=>{ slots:=tC s.slots dst v,mem:=m,aE:=t,nv:=n }
abbrev Call:=Nat→List AV→List (Tr bH)→Tr Unit→Nat→Option (AV×List (Tr bH)×Tr Unit×Nat)
def cv (m:List (Tr bH)):AV→Option AV
 |.d x=>some (.d x)
 |.own els .aJ=>some (.own els .aJ)
 |.own els _=>some (.d (.sl els))
 |.ref lv sl af off len sz=>(dK m (.ref lv sl af off len sz)).map fun els=>.own els .aJ
 |.fV f []=>some (.fV f [])
 |_=>none
def dM (m:List (Tr bH)):AV→Option (AV×List (Nat×Nat))
 |.own els .aJ=>some (.own els .aJ,[])
 |.fV f []=>some (.fV f [],[])
 |x=>(xM m x).map fun (y,k)=>(.d y,k)
def dG (m:List (Tr bH)):List AV→Option (List AV×List (Nat×Nat))
 |[]=>some ([],[])
 |x :: r=>match dM m x,dG m r with
  |some (y,k),some (ys,ks)=>some (y :: ys,k++ks)
  |_,_=>none
def sr (m:List (Tr bH)):AV→Option (AV×List (Nat×Nat))
 |.agg cs=>(dG m cs).map fun (ys,ks)=>(.agg ys,ks)
 |x=>(cv m x).map fun y=>(y,[])
def lZ (m:List (Tr bH)):List AV→Option (List AV×List (Nat×Nat))
 |[]=>some ([],[])
 |x :: r=>match sr m x,lZ m r with
  |some (y,k),some (ys,ks)=>some (y :: ys,k++ks)
  |_,_=>none
def lM (top pk:Nat):Bool:=!Nat.beq pk 0 && !Nat.beq top 0
def bu (cm : List (Tr bH)) (top pk k : Nat) (lv sl af : Nat) : AV → Option (AV × List (List (List D)))
 |.d x=>some (.d x,[])
 | .own els .full => match !Nat.beq (pk / 65536) 0 && Nat.beq k (pk % 65536), els with
  |true,[]=>some (.ref lv sl af 0 0 (pk / 65536),[[]])
  |_,els=>match lM top pk||Nat.beq (pk % 65536) 65535 with
   |true=>some (.own els .full,[])
   |false=>some (.d (.sl els),[])
 |.own els (.cx v tz)=>match lM top pk with
  |true=>some (.own els (.cx v tz),[])
  |false=>some (.d (.sl els),[])
 | .ref cl cX eZ off len sz =>
  match Nat.ble top cl with
  |false=>some (.ref cl cX eZ off len sz,[])
  | true => match dK cm (.ref cl cX eZ off len sz) with
   |none=>none
   | some els => match Nat.beq pk 0 with
    |true=>some (.d (.sl els),[])
    | false => match Nat.beq k (pk % 65536) with
     |true=>match rowAt cm cl cX eZ with
      |some _=>some (.ref lv sl af 0 len sz,[els])
      |none=>none
     |false=>match rowAt cm cl cX eZ with
      |some _=>none
      |none=>some (.d (.sl els),[])
 |.fV f []=>some (.fV f [],[])
 |_=>none
def cA (cm:List (Tr bH)) (top pk lv sl af:Nat):Nat→List AV→Option (List AV×List (List (List D)))
 |_,[]=>some ([],[])
 |k,x :: r=>match bu cm top pk k lv sl af x,cA cm top pk lv sl af (k+1) r with
  |some (y,u),some (ys,us)=>some (y :: ys,u++us)
  |_,_=>none
def jG (cm:List (Tr bH)) (top pk lv sl af k:Nat):AV→Option (AV×List (List (List D)))
 |.agg cs=>(cA cm top pk lv sl af k cs).map fun (vs,u)=>(.agg vs,u)
 |x=>bu cm top pk k lv sl af x
def fc (cm:List (Tr bH)) (top pk lv sl af:Nat):Nat→List AV→Option (List AV×List (List (List D)))
 |_,[]=>some ([],[])
 |k,x :: r=>match jG cm top pk lv sl af k x,fc cm top pk lv sl af (k+64) r with
  |some (y,u),some (ys,us)=>some (y :: ys,u++us)
  |_,_=>none
def fI (cm:List (Tr bH)) (top pk lv sl af:Nat):AV→Option (AV×List (List (List D)))
 |.gZ vs=>(fc cm top pk lv sl af 1 vs).map fun (vs,u)=>(.gZ vs,u)
 |x=>jG cm top pk lv sl af 1 x
def gP (lv sl af:Nat):List (List (List D))→Option (List (Nat×Nat×Option bH))
 |[]=>some []
 |[els]=>some [(lv,sl,some (.row af els))]
 |_=>none
def bH.j5:bH→Option bH
 |.row v els=>some (.KT v els)
 |.box _ _=>none
 |.KT v els=>some (.KT v els)
 |.mp _ _=>none
def dy (m:List (Tr bH)) (ks:List (Nat×Nat)):List (Nat×Nat×Option bH):=ks.map fun k=>(k.1,k.2,(aN m k.1 k.2).bind bH.j5)
def gS (ks:List (Nat×Nat)):List (Nat×Nat×Nat):=ks.map fun k=>cg k.1 k.2
def fO:AV→Bool
 |.gZ _=>false
 |_=>true
def yV:AV→Bool
 |.d _=>true
 |_=>false
def vk:AV→Bool
 |.agg cs=>cs.all yV
 |x=>yV x
def Dd:AV→Bool
 |.gZ vs=>vs.all vk
 |x=>vk x
def pS (cs:List AV):List (Tr bH):=bN [.lf,.lf] 0 0 (some (.box 0 cs))
def jH:AV→Option AV
 |.d x=>some (.d x)
 |.own els .full=>some (.d (.sl els))
 |.own els (.cx _ _)=>some (.d (.sl els))
 |_=>none
def hD:List AV→Option (List AV)
 |[]=>some []
 |x :: r=>match jH x,hD r with
  |some y,some ys=>some (y :: ys)
  |_,_=>none
def yW:AV→Option AV
 |.agg cs=>(hD cs).map .agg
 |x=>jH x
def mL:List AV→Option (List AV)
 |[]=>some []
 |x :: r=>match yW x,mL r with
  |some y,some ys=>some (y :: ys)
  |_,_=>none
def pT (call : Call) (s : St) (f lb sb vb : Nat) (args : List AV) : Option fW :=
 match fX s.mem lb sb vb with
 |none=>none
 | some cs => match hD cs, mL args with
  | some cs0, some aK => match call f (.ptr 0 0 0 0 0 :: aK) (pS cs0) .lf 1 with
   |none=>none
   | some (r, cm, _, _) => match fX cm 0 0 0 with
    |none=>none
    | some cs' => match cA cm 1 0 0 0 0 0 cs', fI cm 1 0 0 0 0 r with
     |some (ds,[]),some (val,[])=>match ds.all yV&&Dd val with
      |true=>some (.bS { val,cK:=[(lb,sb,some (.box vb ds))],cx:=[],rd:=cg lb sb :: args.flatMap dF })
      |false=>none
     |_,_=>none
  |_,_=>none
def mM:List AV→Option (Nat×Nat×Nat×List AV)
 |.ptr lv sl af i off :: r=>match Nat.beq i 0&&Nat.beq off 0 with
  |true=>some (lv,sl,af,r)
  |false=>none
 |_=>none
def fe (call : Call) (shared : Bool) (row : Nat) (s : St) (lv sl aR : Nat) (f : Nat) (args : List AV) : Option fW :=
 match shared with
 | false =>
  match mM args with
  |some (lb,sb,vb,rest)=>pT call s f lb sb vb rest
  |none=>
  match lZ s.mem args with
  |none=>none
  | some (aK, ks) => match call f aK [.lf] .lf 0 with
   |none=>none
   | some (r, cm, _, _) => match fI cm 0 row lv sl aR r with
    |none=>none
    |some (v,us)=>match gP lv sl aR us with
     |none=>none
     |some u=>some (.bS { val:=v,cK:=dy s.mem ks++u,cx:=[],rd:=args.flatMap dF })
 | true =>
  match args.all fO with
  |false=>none
  |true=>
  match call f args (s.mem++[.lf]) s.aE s.nv with
  |none=>none
  | some (r, cm, ts, n) => match fI cm s.mem.length row lv sl aR r with
   |none=>none
   |some (v,us)=>match gP lv sl aR us with
    |none=>none
    |some u=>some (.all v (bB (cm.take s.mem.length) u) ts n)
def tD (m:List (Tr bH)):AV→Option (AV×List (Nat×Nat))
 |.agg cs=>(dG m cs).map fun (ys,ks)=>(.agg ys,ks)
 |x=>dM m x
def nu (m:List (Tr bH)):List AV→Option (List AV×List (Nat×Nat))
 |[]=>some ([],[])
 |x :: r=>match tD m x,nu m r with
  |some (y,k),some (ys,ks)=>some (y :: ys,k++ks)
  |_,_=>none
def l5 (call:Call) (s:St) (aR f:Nat) (args:List AV):Option fW:=
 match nu s.mem args with
 |none=>none
 | some (aK, ks) => match call f aK [.lf] .lf 0 with
  |none=>none
  |some (r,cm,_,_)=>match fI cm 0 0 0 0 aR r with
   |some (v,[])=>some (.bS { val:=v,cK:=dy s.mem ks,cx:=[],rd:=args.flatMap dF })
   |_=>none
def od (m:List (Tr bH)):List AV→Option (List AV)
 |[]=>some []
 |x :: r=>match cv m x,od m r with
  |some y,some ys=>some (y :: ys)
  |_,_=>none
def tE (m:List (Tr bH)):AV→Option AV
 |.agg cs=>(od m cs).map .agg
 |x=>cv m x
def pU (m:List (Tr bH)):List AV→Option (List AV)
 |[]=>some []
 |x :: r=>match tE m x,pU m r with
  |some y,some ys=>some (y :: ys)
  |_,_=>none
def oe (call:Call) (s:St) (aR f:Nat) (args:List AV):Option fW:=
 match pU s.mem args with
 |none=>none
 | some aK => match call f aK [.lf] .lf 0 with
  |none=>none
  |some (r,cm,_,_)=>match fI cm 0 0 0 0 aR r with
   |some (v,[])=>some (.bS { val:=v,cK:=[],cx:=[],rd:=args.flatMap dF })
   |_=>none
def og (call:Call) (s:St) (f:Nat) (args:List AV):Option fW:=
 match args.all fO with
 |false=>none
 |true=>match call f args (s.mem++[.lf]) s.aE s.nv with
  |none=>none
  |some (r,cm,ts,n)=>some (.all r cm ts n)
def fP (m:List (Tr bH)):AV→Option D
 |.d x=>some x
 |.own els _=>some (.sl els)
 |.ref lv sl af off len sz=>(dK m (.ref lv sl af off len sz)).map .sl
 |_=>none
def gh (m:List (Tr bH)):List AV→Option (List D)
 |[]=>some []
 |x :: r=>match fP m x,gh m r with
  |some y,some ys=>some (y :: ys)
  |_,_=>none
def chunk {α : Type} (sz:Nat):Nat→List α→List (List α)
 |0,_=>[]
 |n+1,l=>l.take sz :: chunk sz n (l.drop sz)
def jI (m:List (Tr bH)):AV→Option AV
 |.agg cs=>(gh m cs).map fun ds=>.agg (ds.map .d)
 |.fV f []=>some (.fV f [])
 |.eH lv sl af off n sz=>match fX m lv sl af with
  |some cs=>if off+n*sz≤cs.length then (gh m ((cs.drop off).take (n*sz))).map fun ds=>.d (.sl (chunk sz n ds)) else none
  |none=>none
 |x=>(fP m x).map .d
def rR (m:List (Tr bH)):List AV→Option (List AV)
 |[]=>some []
 |x :: r=>match jI m x,rR m r with
  |some y,some ys=>some (y :: ys)
  |_,_=>none
def pJ (m:List (Tr bH)):AV→List (Nat×Nat×Nat)
 |.eH lv sl af _ _ _=>cg lv sl :: (match fX m lv sl af with
  |some cs=>cs.flatMap cW
  |none=>[])
 |v=>dF v
def yX:AV→Bool
 |.d (.sc _)=>true
 |.d (.sl [])=>true
 |_=>false
def BS:AV→Bool
 |.agg cs=>cs.all yX
 |x=>yX x
def M3:AV→Bool
 |.gZ vs=>vs.all BS
 |x=>BS x
def jJ (call : Call) (s : St) (f : Nat) (args : List AV) : Option fW :=
 match rR s.mem args with
 |none=>none
 | some aK => match call f aK [.lf] .lf 0 with
  |none=>none
  | some (r, cm, _, _) => match fI cm 0 0 0 0 0 r with
   |some (v,[])=>match M3 v with
    |true=>some (.bS { val:=v,cK:=[],cx:=[],rd:=args.flatMap (pJ s.mem) })
    |false=>none
   |_=>none
def su (row top dst:Nat):Nat×Nat:=match Nat.beq (row % 65536) 5 with
 |true=>(0,1000000+row / 65536)
 |false=>(top,dst)
def Hw (s:Tr AV) (l:List bR):List AV:=l.map (·.ev s)
def mN (s:Tr AV):List AV→List (Nat×Nat×bR)→Option (List AV)
 |cs,[]=>some cs
 |cs,(off,sz,x) :: r=>match cellsOf (x.ev s) with
  |some new=>if new.length=sz∧off+sz≤cs.length then mN s (splice cs off new) r else none
  |none=>none
def mO (m : List (Tr bH)) (s : Tr AV) (sz : Nat) : List (List D) → List (Nat × bR) → Option (List (List D) × List (Nat × Nat))
 |els,[]=>some (els,[])
 | els, (i, x) :: r => match BQ m (x.ev s) with
  | some (e, ks) => if e.length = sz ∧ i < els.length then
    match mO m s sz (els.set i e) r with
    |some (els',ks')=>some (els',ks++ks')
    |none=>none
   else none
  |none=>none
def pq (m : List (Tr bH)) (sz : Nat) : AV → Option (List AV)
 | .ptr lv sl af i off => match aN m lv sl with
  |some (.box v cs)=>match Nat.beq v af,Nat.beq i 0 with
   |true,true=>if off+sz≤cs.length then some ((cs.drop off).take sz) else none
   |_,_=>none
  | some (.row v els) => match Nat.beq v af with
   |true=>match els[i]? with
    |some e=>if off+sz≤e.length then some (((e.drop off).take sz).map .d) else none
    |none=>none
   |false=>none
  | some (.KT v els) => match Nat.beq v af with
   |true=>match els[i]? with
    |some e=>if off+sz≤e.length then some (((e.drop off).take sz).map .d) else none
    |none=>none
   |false=>none
  |some (.mp _ _)=>none
  |none=>none
 |.fo e off=>if off+sz≤e.length then some (((e.drop off).take sz).map .d) else none
 |_=>none
def fq (agg:Bool) (cs:List AV):Option AV:=
 match agg with
 |true=>some (.agg cs)
 |false=>match cs with
  |[v]=>some v
  |_=>none
def oh (m : List (Tr bH)) (sz : Nat) (p v : AV) : Option eX :=
 match p,cellsOf v with
 | .ptr lv sl af i off, some new =>
  if new.length = sz then
   match aN m lv sl with
   |some (.box v cs)=>match Nat.beq v af,Nat.beq i 0 with
    |true,true=>if off+sz≤cs.length then some { val:=jr,cK:=[(lv,sl,some (.box v (splice cs off new)))],cx:=[],rd:=[cg lv sl] } else none
    |_,_=>none
   | some (.row v els) => match Nat.beq v af with
    |true=>match els[i]?,yU m new with
     | some e, some (ds, ks) => if off + sz ≤ e.length ∧ ¬ (lv, sl) ∈ ks then
       some { val:=jr,cK:=dy m ks++[(lv,sl,some (.row v (els.set i (splice e off ds))))],cx:=[],rd:=cg lv sl :: gS ks } else none
     |_,_=>none
    |false=>none
   |some (.KT _ _)=>none
   |some (.mp _ _)=>none
   |none=>none
  else none
 |_,_=>none
def gQ (m:List (Tr bH)):AV→Option (List (List D))
 |.d (.sc (.string b))=>some (b.data.toList.map fun c=>[.sc (.int .u8 c.toNat)])
 |x=>dK m x
def eU:Nat:=9223372036854775807
def j0:Nat:=140737488355328
def di (s : St) (row : Bool) (lv sl aR sz bytes : Nat) (x y : AV) : Option eX :=
 match gQ s.mem y with
 |none=>none
 | some news =>
  if news.all (fun e => e.length == sz) then
   match x with
   | .own els .full =>
    if els.all (fun e=>e.length==sz)∧els.length+news.length≤eU∧(els.length+news.length)*bytes≤j0 then
     match row with
     |false=>some { val:=.own (els++news) (.cx aR sz),cK:=[],cx:=[(aR,true)],rd:=cW y }
     |true=>if els.isEmpty=false∧news.isEmpty=true then none else some { val:=.ref lv sl aR 0 (els.length+news.length) sz,cK:=[(lv,sl,some (.row aR (els++news)))],cx:=[],rd:=cW y }
    else none
   | .own els (.cx v tz) =>
    if tz=sz∧els.length+news.length≤eU∧(els.length+news.length)*bytes≤j0∧(s.aE.get? v).isSome then
     some { val:=.own (els++news) (.cx aR sz),cK:=[],cx:=[(v,false),(aR,true)],rd:=jF v :: cW y }
    else none
   | .ref cl cX af off len sz' =>
    match rowAt s.mem cl cX af with
    | some els =>
     if sz'=sz∧off+len≤els.length∧len+news.length≤eU∧(len+news.length)*bytes≤j0 then
      some { val:=.ref cl cX aR 0 (len+news.length) sz,cK:=[(cl,cX,some (.row aR ((els.drop off).take len++news)))],cx:=[],rd:=cg cl cX :: cW y }
     else none
    |none=>none
   |_=>none
  else none
def bytesOf:List (List D)→Option (List UInt8)
 |[]=>some []
 |[.sc (.int .u8 n)] :: r=>(bytesOf r).map (UInt8.ofNat n.toNat :: ·)
 |_=>none
def js (l:List UInt8):ByteArray:=⟨l.toArray⟩
def EI (s : St) (aR sz : Nat) (x : AV) (l : Nat) (hi : Option Nat) : Option eX :=
 match x with
 | .ref lv sl af off len sz' => match rowAt s.mem lv sl af with
  | some els =>
   if sz'=sz∧l≤hi.getD len∧hi.getD len≤len∧off+len≤els.length then
    some { val:=.ref lv sl aR 0 (hi.getD len-l) sz,cK:=[(lv,sl,some (.row aR ((els.drop (off+l)).take (hi.getD len-l))))],cx:=[],rd:=[cg lv sl] }
   else none
  |none=>none
 |_=>none
def isRow:AV→Bool
 |.ref ..=>true
 |_=>false
def EJ (s:St) (lv dst aR:Nat) (x:AV):Option eX:=
 match x with
 | .ref cl cX af off len sz => match rowAt s.mem cl cX af with
  |some els=>match Nat.ble (off+len) els.length with
   |true=>some { val:=.ref lv dst aR 0 len sz,cK:=[(cl,cX,none),(lv,dst,some (.row aR ((els.drop off).take len)))],cx:=[],rd:=[cg cl cX] }
   |false=>none
  |none=>none
 |_=>none
def sw:List (List D)→Option (List Int)
 |[]=>some []
 |[.sc (.int .i64 z)] :: r=>(sw r).map (z :: ·)
 |_=>none
def gH (l:List Int):List (List D):=l.map fun z=>[.sc (.int .i64 z)]
def xN (x:Int):List Int→List Int
 |[]=>[x]
 |y :: r=>match decide (x≤y) with
  |true=>x :: y :: r
  |false=>y :: xN x r
def jc:List Int→List Int
 |[]=>[]
 |x :: r=>xN x (jc r)
def wq (s : St) (x : AV) : Option eX :=
 match x with
 |.own [] .full=>some { val:=jr,cK:=[],cx:=[],rd:=[] }
 | .ref lv sl af off len sz => match rowAt s.mem lv sl af with
  | some els => (sw els).bind fun zs =>
   if off=0∧len=els.length∧sz=1∧els.length<4611686018427387904 then
    some { val:=jr,cK:=[(lv,sl,some (.row af (gH (jc zs))))],cx:=[],rd:=[cg lv sl] }
   else none
  |none=>none
 |_=>none
def gT:List Int→List Int
 |[]=>[]
 | x :: r => match r with
  |[]=>[x]
  |y :: _=>match decide (x=y) with
   |true=>gT r
   |false=>x :: gT r
def kM (s : St) (aR : Nat) (x : AV) : Option eX :=
 match x with
 |.own [] .full=>some { val:=.own [] .full,cK:=[],cx:=[],rd:=[] }
 | .ref lv sl af off len sz => match rowAt s.mem lv sl af with
  | some els => (sw els).bind fun zs =>
   if off=0∧len=els.length∧sz=1∧els.length<4611686018427387904 then
    some { val:=.ref lv sl aR 0 (gT zs).length 1,cK:=[(lv,sl,some (.row aR (gH (gT zs))))],cx:=[],rd:=[cg lv sl] }
   else none
  |none=>none
 |_=>none
def M4 (row:Nat):Bool:=Nat.beq (row % 65536) 4||(Nat.beq (row % 65536) 6 && !Nat.beq (row / 65536) 0)
def xO (row lv dst aR:Nat) (x:AV):eX:=
 match M4 row,x with
 |true,.own [] .full=>{ val:=.ref lv dst aR 0 0 (row / 65536),cK:=[(lv,dst,some (.row aR []))],cx:=[],rd:=[] }
 |_,v=>{ val:=v,cK:=[],cx:=[],rd:=[] }
def eR (x:Option bR) (s:Tr AV) (dflt:Nat):Option Nat:=
 match x with
 |none=>some dflt
 |some o=>fN (o.ev s)
def dZ (sz : Nat) (x : AV) (lo : Nat) (hi mx : Option Nat) : Option AV :=
 match x with
 |.d (.sl els)=>
  let h:=hi.getD els.length
  match mx with
  |none=>if lo≤h∧h≤els.length∧els.all (fun e=>e.length==sz) then some (.d (.sl ((els.drop lo).take (h-lo)))) else none
  |some k=>if lo≤h∧h=k∧h≤els.length∧els.all (fun e=>e.length==sz) then some (.own ((els.drop lo).take (h-lo)) .full) else none
 | .own els o =>
  let h:=hi.getD els.length
  match mx with
  | none => if lo ≤ h ∧ h ≤ els.length ∧ els.all (fun e => e.length == sz) then
    match o with
    |.aJ=>some (.own ((els.drop lo).take (h-lo)) .aJ)
    |.full=>if h=els.length then some (.own (els.drop lo) .full) else some (.d (.sl ((els.drop lo).take (h-lo))))
    |.cx _ _=>some (.d (.sl ((els.drop lo).take (h-lo))))
   else none
  | some k => if lo ≤ h ∧ h = k ∧ h ≤ els.length ∧ els.all (fun e => e.length == sz) then
    match o with
    |.aJ=>if h=lo then some (.own [] .full) else none
    |_=>some (.own ((els.drop lo).take (h-lo)) .full)
   else none
 |.ref lv sl af off len sz'=>
  let h:=hi.getD len
  match mx with
  |none=>if lo≤h∧h≤len∧sz'=sz then some (.ref lv sl af (off+lo) (h-lo) sz) else none
  |some k=>if lo=h∧h=k∧h≤len then some (.own [] .full) else none
 |_=>none
def bM.run (call : Call) (sh : Nat → Bool) (s : St) (row : Nat) (dst aR : Nat) : bM → Option fW
 |.ED x=>match Nat.beq (row % 65536) 6&&isRow (x.ev s.slots) with
  |true=>(EJ s (s.mem.length-1) dst aR (x.ev s.slots)).map .bS
  |false=>some (.bS (xO row (s.mem.length-1) dst aR (x.ev s.slots)))
 |.pick c a b=>(iG (c.ev s.slots)).bind fun t=>eX.pure (if t then a.ev s.slots else b.ev s.slots)
 |.alloc z=>some (.bS { val:=.ptr (s.mem.length-1) dst aR 0 0,cK:=[(s.mem.length-1,dst,some (.box aR z))],cx:=[],rd:=[] })
 |.box x=>(cellsOf (x.ev s.slots)).map fun cs=>.bS { val:=.ptr (s.mem.length-1) dst aR 0 0,cK:=[(s.mem.length-1,dst,some (.box aR cs))],cx:=[],rd:=[] }
 |.build z ps=>(mN s.slots z ps).bind fun cs=>eX.pure (.agg cs)
 | .buildSlice sz n z ps =>
  match Nat.beq row 2 with
  | true => match Nat.beq n 0 with
   |true=>none
   |false=>(mN s.slots ((List.replicate n z).flatten.map .d) (ps.map fun p=>(p.1*sz,sz,p.2))).map fun cs=>
    .bS { val:=.eH (s.mem.length-1) dst aR 0 n sz,cK:=[(s.mem.length-1,dst,some (.box aR cs))],cx:=[],rd:=[] }
  |false=>
  match mO s.mem s.slots sz (List.replicate n z) ps with
  |none=>none
  | some (els, ks) =>
   match Nat.beq row 0 with
   |true=>some (.bS { val:=.own els .full,cK:=dy s.mem ks,cx:=[],rd:=gS ks })
   |false=>if (s.mem.length-1,dst)∈ks then none else
    some (.bS { val:=.ref (s.mem.length-1) dst aR 0 n sz,cK:=dy s.mem ks++[(s.mem.length-1,dst,some (.row aR els))],cx:=[],rd:=gS ks })
 |.load sz agg x=>(pq s.mem sz (x.ev s.slots)).bind fun cs=>(fq agg cs).map fun v=>.bS { val:=v,cK:=[],cx:=[],rd:=cW (x.ev s.slots) }
 |.store sz x v=>(oh s.mem sz (x.ev s.slots) (v.ev s.slots)).map .bS
 |.nilCheck x=>match x.ev s.slots with
  |.ptr lv sl af i off=>eX.pure (.ptr lv sl af i off)
  |.fo e off=>eX.pure (.fo e off)
  |.fV f cs=>eX.pure (.fV f cs)
  |_=>none
 |.bin op x y=>(M1 op (x.ev s.slots) (y.ev s.slots)).bind fun v=>eX.pure (kL v)
 |.QT neg x y=>match iG (x.ev s.slots),iG (y.ev s.slots) with
  |some a,some b=>eX.pure (kL (.bool (if neg then !(a==b) else a==b)))
  |_,_=>none
 |.QU neg sz cells x y=>match x.ev s.slots,y.ev s.slots with
  |.agg xs,.agg ys=>if xs.length≠sz∨ys.length≠sz then none else (kK xs ys cells).bind fun b=>eX.pure (kL (.bool (if neg then !b else b)))
  |_,_=>none
 |.wo neg x=>match x.ev s.slots with
  |.d .er=>eX.pure (kL (.bool neg))
  |.d (.sc .nilIface)=>eX.pure (kL (.bool !neg))
  |_=>none
 |.un op x=>(Zv op (x.ev s.slots)).bind fun v=>eX.pure (kL v)
 |.conv k x=>(pR (x.ev s.slots)).bind fun n=>eX.pure (kL (.int k (k.wrap n)))
 |.field off sz agg x=>match x.ev s.slots with
  |.agg cs=>if off+sz≤cs.length then (fq agg ((cs.drop off).take sz)).bind eX.pure else none
  |_=>none
 |.fieldAddr off x=>match x.ev s.slots with
  |.ptr lv sl af i o=>eX.pure (.ptr lv sl af i (o+off))
  |.fo e o=>eX.pure (.fo e (o+off))
  |_=>none
 | .indexAddr sz x i => (fN (i.ev s.slots)).bind fun n => match x.ev s.slots with
  |.d (.sl els)=>match els[n]? with
   |some e=>if e.length=sz then eX.pure (.fo e 0) else none
   |none=>none
  |.own els _=>match els[n]? with
   |some e=>if e.length=sz then eX.pure (.fo e 0) else none
   |none=>none
  |.ref lv sl af off ln sz'=>if n<ln∧sz'=sz then eX.pure (.ptr lv sl af (off+n) 0) else none
  |.eH lv sl af off ln sz'=>if n<ln∧sz'=sz then eX.pure (.ptr lv sl af 0 (off+n*sz)) else none
  |_=>none
 | .jE n sz x i => (fN (i.ev s.slots)).bind fun k => if k < n then
   match x.ev s.slots with
   |.ptr lv sl af j o=>eX.pure (.ptr lv sl af j (o+k*sz))
   |.fo e o=>eX.pure (.fo e (o+k*sz))
   |_=>none
  else none
 |.n8 n sz agg x i=>(fN (i.ev s.slots)).bind fun k=>match x.ev s.slots with
  |.agg cs=>if k<n∧k*sz+sz≤cs.length then (fq agg ((cs.drop (k*sz)).take sz)).bind eX.pure else none
  |_=>none
 | .n9 x i => (fN (i.ev s.slots)).bind fun k => match x.ev s.slots with
  |.d (.sc (.string b))=>match b.data.toList[k]? with
   |some c=>eX.pure (kL (.int .u8 c.toNat))
   |none=>none
  |_=>none
 | .slice sz x lo hi mx =>
  match eR lo s.slots 0,eR hi s.slots 0,eR mx s.slots 0 with
  |some l,some h,some k=>match Nat.beq row 3&&(mx.isNone&&isRow (x.ev s.slots)) with
   |true=>(EI s aR sz (x.ev s.slots) l (hi.map fun _=>h)).map .bS
   |false=>(dZ sz (x.ev s.slots) l (hi.map fun _=>h) (mx.map fun _=>k)).bind eX.pure
  |_,_,_=>none
 | .oa x lo hi => match x.ev s.slots with
  |.d (.sc (.string b))=>match eR lo s.slots 0,eR hi s.slots b.size with
   |some l,some h=>if l≤h∧h≤b.size then eX.pure (kL (.string (b.extract l h))) else none
   |_,_=>none
  |_=>none
 |.extract x i=>match x.ev s.slots with
  |.gZ vs=>(vs[i]?).bind eX.pure
  |_=>none
 |.len x=>match x.ev s.slots with
  |.d (.sl els)=>eX.pure (nq els.length)
  |.own els _=>eX.pure (nq els.length)
  |.ref _ _ _ _ n _=>eX.pure (nq n)
  |.eH _ _ _ _ n _=>eX.pure (nq n)
  |_=>none
 |.EE x=>match x.ev s.slots with
  |.own els .full=>eX.pure (nq els.length)
  |_=>none
 |.C9 x=>match x.ev s.slots with
  |.d (.sc (.string b))=>eX.pure (nq b.size)
  |_=>none
 |.Bv n=>eX.pure (nq n)
 |.TZ x=>match x.ev s.slots with
  |.d (.sc (.string b))=>eX.pure (.d (.sl (b.data.toList.map fun c=>[.sc (.int .u8 c.toNat)])))
  |_=>none
 |.TY x=>(dK s.mem (x.ev s.slots)).bind fun els=>(bytesOf els).map fun l=>.bS { val:=kL (.string (js l)),cK:=[],cx:=[],rd:=cW (x.ev s.slots) }
 |.Da x y=>match x.ev s.slots,y.ev s.slots with
  |.d (.sc (.int k a)),.d (.sc (.int k' b))=>if k=k' then eX.pure (kL (.int k (min a b))) else none
  |_,_=>none
 |.Db x y=>match x.ev s.slots,y.ev s.slots with
  |.d (.sc (.int k a)),.d (.sc (.int k' b))=>if k=k' then eX.pure (kL (.int k (max a b))) else none
  |_,_=>none
 |.append sz bytes x y=>(di s (!Nat.beq row 0) (su row (s.mem.length-1) dst).1 (su row (s.mem.length-1) dst).2 aR sz bytes (x.ev s.slots) (y.ev s.slots)).map .bS
 | .mK sz bytes z x n => (fN (n.ev s.slots)).bind fun k => if z.length = sz ∧ k ≤ eU ∧ k * bytes ≤ j0 then
   (di s (!Nat.beq row 0) (s.mem.length-1) dst aR sz bytes (x.ev s.slots) (.d (.sl (List.replicate k z)))).map .bS else none
 | .sliceB n sz x => match x.ev s.slots with
  |.ptr lv sl af i off=>match Nat.beq i 0 with
   |true=>eX.pure (.eH lv sl af off n sz)
   |false=>none
  |_=>none
 | .pP lo n sz x => match x.ev s.slots with
  |.ptr lv sl af i off=>match Nat.beq i 0&&Nat.blt lo n with
   |true=>eX.pure (.eH lv sl af (off+lo*sz) (n-lo) sz)
   |false=>none
  |_=>none
 | .clear sz z x => match x.ev s.slots with
  |.ref lv sl af off ln sz'=>match rowAt s.mem lv sl af with
   | some els => if sz' = sz ∧ off + ln ≤ els.length ∧ z.length = sz then
     some (.bS { val:=jr,cK:=[(lv,sl,some (.row af (splice els off (List.replicate ln z))))],cx:=[],rd:=[cg lv sl] }) else none
   |none=>none
  |_=>none
 |.grow sz x n=>match x.ev s.slots,fN (n.ev s.slots) with
  |.own [] .full,some _=>some (.bS { val:=.own [] (.cx aR sz),cK:=[],cx:=[(aR,true)],rd:=[] })
  |_,_=>none
 |.clone sz bytes x=>match dK s.mem (x.ev s.slots) with
  |some _=>(di s (!Nat.beq row 0) (s.mem.length-1) dst aR sz bytes (.own [] .full) (x.ev s.slots)).map .bS
  |none=>none
 |.mkSet=>some (.bS { val:=.mp (s.mem.length-1) dst aR,cK:=[(s.mem.length-1,dst,some (.mp aR []))],cx:=[],rd:=[] })
 |.EF m k=>match m.ev s.slots,k.ev s.slots with
  |.mp lv sl af,.d (.sc (.string b))=>(setAt s.mem lv sl af).map fun ks=>.bS { val:=kL (.bool (hasB ks b.data.toList)),cK:=[],cx:=[],rd:=[cg lv sl] }
  |_,_=>none
 |.EG m k=>match m.ev s.slots,k.ev s.slots with
  |.mp lv sl af,.d (.sc (.string b))=>(setAt s.mem lv sl af).map fun ks=>.bS { val:=jr,cK:=[(lv,sl,some (.mp af (pQ ks b.data.toList)))],cx:=[],rd:=[cg lv sl] }
  |_,_=>none
 |.sort x=>(wq s (x.ev s.slots)).map .bS
 |.compact x=>(kM s aR (x.ev s.slots)).map .bS
 |.bad=>none
 | .copy sz x y => match x.ev s.slots, gQ s.mem (y.ev s.slots) with
  |.eH lv sl af off n sz',some news=>match fX s.mem lv sl af with
   | some cs => if sz' = sz ∧ off + n * sz ≤ cs.length ∧ news.all (fun e => e.length == sz) then
     some (.bS { val:=nq (min news.length n),cK:=[(lv,sl,some (.box af (splice cs off ((news.take (min news.length n)).flatten.map .d))))],cx:=[],rd:=cg lv sl :: cW (y.ev s.slots) }) else none
   |none=>none
  |.ref lv sl af off ln sz',some news=>match rowAt s.mem lv sl af with
   | some els => if sz' = sz ∧ off + ln ≤ els.length ∧ news.all (fun e => e.length == sz) then
     some (.bS { val:=nq (min news.length ln),cK:=[(lv,sl,some (.row af (splice els off (news.take (min news.length ln)))))],cx:=[],rd:=cg lv sl :: cW (y.ev s.slots) }) else none
   |none=>none
  |_,_=>none
 |.makeSlice sz bytes z l c=>match fN (l.ev s.slots),fN (c.ev s.slots) with
  | some l, some c => if l ≤ c ∧ bytes * c ≤ j0 ∧ c ≤ eU ∧ z.length = sz then
    some (.bS { val:=.ref (s.mem.length-1) dst aR 0 l sz,cK:=[(s.mem.length-1,dst,some (.row aR (List.replicate l z)))],cx:=[],rd:=[] }) else none
  |_,_=>none
 |.makeFunc f cap=>if (Hw s.slots cap).all lK then eX.pure (.fV f (Hw s.slots cap)) else none
 |.call f args=>match Nat.beq row 7 with
  |true=>jJ call s f (Hw s.slots args)
  |false=>match Nat.beq row 8 with
  |true=>og call s f (Hw s.slots args)
  |false=>match Nat.beq row 9 with
  |true=>l5 call s aR f (Hw s.slots args)
  |false=>match Nat.beq row 10 with
  |true=>oe call s aR f (Hw s.slots args)
  |false=>fe call (sh f) row s (s.mem.length-1) dst aR f (Hw s.slots args)
 |.tB f args=>match sh f with
  |true=>fe call true row s (s.mem.length-1) dst aR f (Hw s.slots args)
  |false=>jJ call s f (Hw s.slots args)
 |.yS x args=>match x.ev s.slots with
  |.fV f cap=>fe call (sh f) row s (s.mem.length-1) dst aR f (Hw s.slots args++cap)
  |_=>none
def jl (s:Tr AV) (o:bA):Option Bool:=
 match o.gd with
 |none=>some true
 |some (g,b)=>match jC s g with
  |.d (.sc (.bool t))=>some (t==b)
  |.gZ _=>some false
  |_=>none
def bA.step (call:Call) (sh:Nat→Bool) (s:St) (aR:Nat) (o:bA):Option fW:=
 match jl s.slots o with
 |none=>none
 |some true=>o.op.run call sh s o.row (o.dst.getD 0) aR
 |some false=>eX.pure jr
def jK (call:Call) (sh:Nat→Bool) (lg:Nat):Nat→List bA→St→Option St
 |_,[],s=>some s
 |i,o :: r,s=>match o.step call sh s (lg+i) with
  |none=>none
  |some e=>jK call sh lg (i+1) r (s.app o.dst e)
def meets (a b:List (Nat×Nat×Nat)):Bool:=a.any fun k=>b.contains k
def lN:fW→Bool
 |.bS e=>!(e.rd.isEmpty&&e.cK.isEmpty&&e.cx.isEmpty)
 |.all ..=>true
def rS:fW→fW→Bool
 |.bS a,.bS b=>meets a.rd b.wr||meets a.wr b.rd||meets a.wr b.wr
 |a,b=>lN a&&lN b
def clear (lY:Nat) (e:fW):List (Nat×fW)→Bool
 |[]=>true
 |(i,x) :: r=>(lY.testBit i || !rS x e)&&clear lY e r
def jL (call:Call) (sh:Nat→Bool) (lg:Nat):Nat→List bA→List (Nat×fW)→St→Option St
 |_,[],_,s=>some s
 | i, o :: r, past, s => match o.step call sh s (lg + i) with
  |none=>none
  |some e=>match clear o.lY e past with
   |true=>jL call sh lg (i+1) r ((i,e) :: past) (s.app o.dst e)
   |false=>none
def fk (call:Call) (sh:Nat→Bool) (ops:List bA) (draw:Bool) (s:St):Option St:=
 let s':={ s with nv:=s.nv+ops.length }
 match draw with
 |false=>jK call sh s.nv 0 ops s'
 |true=>jL call sh s.nv 0 ops [] s'
inductive AX where
 |normal
 |exit (id:Nat)
 |ret
 deriving Inhabited
def exec (call : Call) (sh : Nat → Bool) : Nat → AC → St → Option (AX × St)
 |0,_,_=>none
 | n + 1, c, s => match c with
  |.skip=>some (.normal,s)
  |.region ops draw=>(fk call sh ops draw s).map fun s'=>(.normal,s')
  |.seq a b=>match exec call sh n a s with
   |some (.normal,s')=>exec call sh n b s'
   |r=>r
  |.cond c a b=>match iG (c.ev s.slots) with
   |some true=>exec call sh n a s
   |some false=>exec call sh n b s
   |none=>none
  | .block id c => match exec call sh n c s with
   |some (.exit id',s')=>match Nat.beq id' id with
    |true=>some (.normal,s')
    |false=>some (.exit id',s')
   |r=>r
  |.loop c=>match exec call sh n c s with
   |some (.normal,s')=>exec call sh n (.loop c) s'
   |r=>r
  |.exit id=>some (.exit id,s)
  |.ret=>some (.ret,s)
def De (s:St):yT→Option AV
 |.t n=>match fO (jC s.slots n) with
  |true=>some (jC s.slots n)
  |false=>none
 |.cell n sz agg=>(pq s.mem sz (jC s.slots n)).bind (fq agg)
def j6 (s:St):List yT→Option (List AV)
 |[]=>some []
 |x :: r=>match De s x,j6 s r with
  |some y,some ys=>some (y :: ys)
  |_,_=>none
def gU:List AV→AV
 |[v]=>v
 |vs=>.gZ vs
def dN:Nat→List AV→Tr AV→Tr AV
 |_,[],t=>t
 |i,x :: r,t=>dN (i+1) r (t.set i (some x))
def QV (Fs : Nat → Option cV) : Nat → Call
 |0,_,_,_,_,_=>none
 | n + 1, f, args, mem, aE, nv => match Fs f with
  |none=>none
  | some fn => match Nat.beq args.length fn.np with
   |false=>none
   |true=>match exec (QV Fs n) (fun g=>((Fs g).map (·.sh)).getD false) n fn.body { slots:=dN 0 args .lf,mem,aE,nv } with
    |some (.normal,s)|some (.ret,s)=>(j6 s fn.res).map fun vs=>(gU vs,s.mem,s.aE,s.nv)
    |_=>none
end Go.bI
