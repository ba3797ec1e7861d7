/- From the model's code to the abstract machine's code: a function that the kernel runs. -/
import Derived.Test.YtokjmkblnafppaaGreatDoorEngA
set_option linter.unusedVariables false
set_option linter.unusedSimpArgs false
namespace Go.bI
open Go
def gK : Value → Option AV
  |.slice none 0 0=>some (.own [] .full)
  |.slice _ _ _=>none
  |.agg _=>none
  |.tuple _=>none
  | .func fn first cap => match fn with
    |.func f=>if first.size=0∧cap.size=0 then some (.fV f []) else none
    |_=>none
  |v=>some (.d (.sc v))
def eS : List Value → Option (List AV)
  |[]=>some []
  | v :: r => match gK v, eS r with
    |some x,some xs=>some (x :: xs)
    |_,_=>none
def sx:Value→Option AV
  |.agg cs=>(eS cs.toList).map .agg
  |.tuple vs=>if vs.size=0 then some (.gZ []) else none
  |v=>gK v
def sy:Value→Option D
  |.slice none 0 0=>some (.sl [])
  |.slice _ _ _=>none
  |.agg _=>none
  |.tuple _=>none
  |.func _ _ _=>none
  |v=>some (.sc v)
def iH : List Value → Option (List D)
  |[]=>some []
  | v :: r => match sy v, iH r with
    |some x,some xs=>some (x :: xs)
    |_,_=>none
def cL:Operand→Option bR
  |.tmp t=>some (.t t)
  |.const v=>(sx v).map .c
  |.func f=>some (.c (.fV f []))
  |.global _=>none
def iX : List Operand → Option (List bR)
  |[]=>some []
  | x :: r => match cL x, iX r with
    |some y,some ys=>some (y :: ys)
    |_,_=>none
def om:Option Operand→Option (Option bR)
  |none=>some none
  |some x=>(cL x).map some
def l6 (P:Program) (t:TypeId):Option Bool:=
  match P.underlying t with
  |some (.struct _)|some (.array _ _)=>some true
  |some _=>some false
  |none=>none
def l7 (P:Program) (t:TypeId):Option (List Value):=(P.info? t).bind fun i=>i.zero.map fun v=>v.cells.toList
def cY (P:Program) (t:TypeId):Option Nat:=(P.info? t).map (·.size)
def mP (P : Program) : Nat → TypeId → Nat → Option (List (Nat × Nat))
  |0,_,_=>none
  | n + 1, t, off =>
    match cY P t,P.underlying t with
    |some 1,some .bool=>some [(off,0)]
    |some 1,some (.int _)=>some [(off,1)]
    |some 1,some .string=>some [(off,2)]
    |some sz,some (.struct fs)=>if P.stoodInHeld t then none else
        fs.toList.foldr (fun f acc=>match acc,cY P f.type with
          |some l,some fz=>if f.name = "_" ∨ sz<f.offset+fz then none else (mP P n f.type (off+f.offset)).map (· ++ l)
          |_,_=>none) (some [])
    |_,_=>none
def oo (place : Nat → Option (Nat × Nat)) : List (Nat × Operand) → Option (List (Nat × Nat × bR))
  |[]=>some []
  | (i, x) :: r => match place i, cL x, oo place r with
    |some (off,sz),some y,some ys=>some ((off,sz,y) :: ys)
    |_,_,_=>none
def Df (P:Program) (fs:Array Field):Option (List (Nat×Nat)):=fs.toList.mapM fun f=>(P.info? f.type).map fun i=>(f.offset,i.size)
def kE : List (Nat × Operand) → Option (List (Nat × bR))
  |[]=>some []
  | (i, x) :: r => match cL x, kE r with
    |some y,some ys=>some ((i,y) :: ys)
    |_,_=>none
def JF (P : Program) (op : BinOp) (neg : Bool) (t : TypeId) (x y : bR) : Option bM :=
  match P.underlying t with
  |some .bool=>some (.QT neg x y)
  |some (.int _)|some .string=>some (.bin op x y)
  |some (.slice _)=>some .bad
  | some (.interface _) => match y with
    |.c (.d (.sc .nilIface))=>some (.wo neg x)
    |_=>none
  | some (.struct _) => if P.eqGuardType P.depth t then none else match mP P 20 t 0, cY P t with
    |some l,some sz=>some (.QU neg sz l x y)
    |_,_=>none
  |_=>none
def tF (P : Program) (t : TypeId) : Option (Nat × Nat) :=
  match P.underlying t with
  | some (.slice e) => match P.info? e, l7 P e with
    |some i,some z=>if 0<i.size∧z.length=i.size then some (i.size,i.bytes) else none
    |_,_=>none
  |_=>none
def M5 (P : Program) : Nat → TypeId → Bool
  |0,_=>false
  | n + 1, t => match P.underlying t with
    |some .bool|some (.int _)|some .string=>true
    |some (.struct fs)=>fs.toList.all fun f=>M5 P n f.type
    |some (.array _ e)=>M5 P n e
    |_=>false
def Zw (P:Program) (f:Nat):Bool:=
  match P.funcs[f]? with
  |some fn=>fn.resultTypes.toList.all (M5 P 20)
  |none=>false
def adR (P : Program) (f : Nat) : Bool :=
  match P.funcs[f]? with
  | some fn => match fn.params.toList with
    | t :: _ => match P.underlying t with
      |some (.pointer _)=>true
      |_=>false
    |[]=>false
  |none=>false
def M6 (P : Program) (bq : Nat → Option TypeId) (c : Go.Call) : Option bM :=
  match c.callee with
  | .value (.func f) =>
    match bq f,c.args.toList with
    | some t, [x] => match Nat.beq t 1000000 with
      |true=>(cL x).map .sort
      | false => match Nat.beq t 1000001 with
       |true=>(cL x).map .compact
       |false=>match tF P t,cL x with
        |some (sz,ye),some x=>some (.clone sz ye x)
        |_,_=>none
    |some _,_=>none
    | none, _ => match Zw P f && !adR P f with
      |true=>(iX c.args.toList).map (.tB f)
      |false=>(iX c.args.toList).map (.call f)
  |.value (.tmp t)=>(iX c.args.toList).map (.yS (.t t))
  |.value _=>none
  |.invoke _ _=>none
  | .builtin b =>
    match b,c.args.toList,c.argTypes.toList with
    | .len, [x], [t] => match P.underlying t with
      |some (.slice _)=>(cL x).map .len
      |some .string=>(cL x).map .C9
      |some (.array n _)=>some (.Bv n)
      | some (.pointer e) => match P.underlying e with
        |some (.array n _)=>some (.Bv n)
        |_=>none
      |_=>none
    | .append, [x, y], [t, u] => match P.underlying t, P.underlying u with
      | some (.slice e), some (.int _) => (match tF P t, (l7 P e).bind iH, cL x, cL y with
        |some (sz,ye),some z,some x,some y=>if z.length=sz then some (.mK sz ye z x y) else none
        |_,_,_,_=>none)
      |_,some (.int _)=>none
      | _, some (.slice _) => (match tF P t, cL x, cL y with
        |some (sz,ye),some x,some y=>some (.append sz ye x y)
        |_,_,_=>none)
      | _, some .string => (match tF P t, cL x, cL y with
        |some (sz,ye),some x,some y=>some (.append sz ye x y)
        |_,_,_=>none)
      |_,_=>none
    | .copy, [x, y], [t, _] => match P.underlying t with
      | some (.slice e) => match P.info? e, cL x, cL y with
        |some i,some x,some y=>if 0<i.size then some (.copy i.size x y) else none
        |_,_,_=>none
      |_=>none
    | .clear, [x], [t] => match P.underlying t with
      | some (.slice e) => match cY P e, (l7 P e).bind iH, cL x with
        |some sz,some z,some x=>if z.length=sz∧0<sz then some (.clear sz z x) else none
        |_,_,_=>none
      |_=>none
    | .cap, [x], [t] => match P.underlying t with
      |some (.slice _)=>(cL x).map .EE
      |_=>none
    | .min, [x, y], _ => match cL x, cL y with
      |some x,some y=>some (.Da x y)
      |_,_=>none
    | .max, [x, y], _ => match cL x, cL y with
      |some x,some y=>some (.Db x y)
      |_,_=>none
    |_,_,_=>none
def tu (P : Program) (bq : Nat → Option TypeId) : Go.Op → Option bM
  |.move x|.assign x=>(cL x).map .ED
  | .pick c a b => match cL c, cL a, cL b with
    |some c,some a,some b=>some (.pick c a b)
    |_,_,_=>none
  |.alloc t=>(l7 P t).bind fun z=>(eS z).map .alloc
  |.box _ x=>(cL x).map .box
  | .build t ps => match l7 P t, P.underlying t with
    | some z, some (.struct fs) => match eS z, Df P fs with
      |some z,some pl=>(oo (pl.toArray[·]?) ps.toList).map (.build z)
      |_,_=>none
    | some z, some (.array _ e) => match eS z, cY P e with
      |some z,some sz=>(oo (fun i=>some (i*sz,sz)) ps.toList).map (.build z)
      |_,_=>none
    |_,_=>none
  | .buildSlice t n ps => match P.underlying t with
    | some (.slice e) => match cY P e, (l7 P e).bind iH, kE ps.toList with
      |some sz,some z,some l=>if n*sz≤16777216∧z.length=sz∧0<sz then some (.buildSlice sz n z l) else none
      |_,_,_=>none
    |_=>none
  | .load t x => match cY P t, l6 P t, cL x with
    |some sz,some agg,some x=>if agg∨sz=1 then some (.load sz agg x) else none
    |_,_,_=>none
  | .store t x v => match cY P t, cL x, cL v with
    |some sz,some x,some v=>some (.store sz x v)
    |_,_,_=>none
  |.nilCheck x=>(cL x).map .nilCheck
  | .binOp op t x y _ => match cL x, cL y with
    | some x, some y => match op with
      |.eql=>JF P op false t x y
      |.neq=>JF P op true t x y
      |op=>some (.bin op x y)
    |_,_=>none
  |.unOp op _ x=>(cL x).map (.un op)
  | .convert src dst x => match P.underlying src, P.underlying dst with
    |some _,some (.int k)=>(cL x).map (.conv k)
    | some (.slice e), some .string => match P.underlying e with
      |some (.int .u8)=>(cL x).map .TY
      |_=>none
    | some .string, some (.slice e) => match P.underlying e with
      |some (.int .u8)=>(cL x).map .TZ
      |_=>none
    |_,_=>none
  | .field t x f => match P.underlying t with
    | some (.struct fs) => match fs[f]? with
      | some f => match cY P f.type, l6 P f.type, cL x with
        |some sz,some agg,some x=>if agg∨sz=1 then some (.field f.offset sz agg x) else none
        |_,_,_=>none
      |none=>none
    |_=>none
  | .fieldAddr t x f => match P.underlying t with
    | some (.struct fs) => match fs[f]? with
      | some f => match cY P f.type, cL x with
        |some sz,some x=>if sz=0 then none else some (.fieldAddr f.offset x)
        |_,_=>none
      |none=>none
    |_=>none
  | .indexAddr t x i => match P.underlying t with
    | some (.slice e) => match cY P e, cL x, cL i with
      |some sz,some x,some i=>if sz=0 then none else some (.indexAddr sz x i)
      |_,_,_=>none
    | some (.array n e) => match cY P e, cL x, cL i with
      |some sz,some x,some i=>some (.jE n sz x i)
      |_,_,_=>none
    |_=>none
  | .index t x i => match P.underlying t with
    | some (.array n e) => match cY P e, l6 P e, cL x, cL i with
      |some sz,some agg,some x,some i=>if agg∨sz=1 then some (.n8 n sz agg x i) else none
      |_,_,_,_=>none
    | some .string => match cL x, cL i with
      |some x,some i=>some (.n9 x i)
      |_,_=>none
    |_=>none
  | .slice t x lo hi mx => match P.underlying t with
    | some (.slice e) => match cY P e, cL x, om lo, om hi, om mx with
      |some sz,some x,some lo,some hi,some mx=>if sz=0∨(mx.isSome∧hi.isNone) then none else some (.slice sz x lo hi mx)
      |_,_,_,_,_=>none
    | some (.array n e) => match lo, hi, mx, cY P e, cL x with
      |none,none,none,some sz,some x=>if n=0 then none else some (.sliceB n sz x)
      |some (.const (.int .i64 k)),none,none,some sz,some x=>if 0≤k then some (.pP k.toNat n sz x) else none
      |_,_,_,_,_=>none
    | some .string => match cL x, om lo, om hi, mx with
      |some x,some lo,some hi,none=>some (.oa x lo hi)
      |_,_,_,_=>none
    |_=>none
  |.extract x i=>(cL x).map fun x=>.extract x i
  | .makeFunc fn first cap => match fn with
    |.func f=>if first.size=0 then (iX cap.toList).map (.makeFunc f) else none
    |_=>none
  | .makeSlice t l c => match P.underlying t with
    | some (.slice e) => match P.info? e, (l7 P e).bind iH, cL l, cL c with
      |some i,some z,some l,some c=>if 0<i.size then some (.makeSlice i.size i.bytes z l c) else none
      |_,_,_,_=>none
    |_=>none
  | .makeMap t none => match P.underlying t with
    | some (.map k e) => match P.underlying k, P.underlying e with
      |some .string,some .bool=>some .mkSet
      |_,_=>none
    |_=>none
  | .lookup t m x false => match P.underlying t with
    | some (.map k e) => match P.underlying k, (P.info? e).bind (·.zero), cL m, cL x with
      |some .string,some (.bool false),some m,some x=>some (.EF m x)
      |_,_,_,_=>none
    |_=>none
  | .mapUpdate t m x v => match v, P.underlying t with
    | .const (.bool true), some (.map k _) => match P.underlying k, cL m, cL x with
      |some .string,some m,some x=>some (.EG m x)
      |_,_,_=>none
    |_,_=>none
  |.call c=>M6 P bq c
  |.panic _=>some .bad
  |.makeInterface _ _=>some .bad
  |_=>none
def UP (ops:Array Oper):Option (Nat×Bool)→Option (Option (Nat×Bool))
  |none=>some none
  |some (j,b)=>((ops[j]?).bind (·.dst)).map fun d=>some (d,b)
def T0 (P:Program) (bq:Nat→Option TypeId) (nt:Nat) (rows:List (Nat×Nat)) (ops:Array Oper) (lY:Nat) (o:Oper):Option bA:=
  match tu P bq o.op,UP ops o.guard with
  |some a,some g=>if (o.dst.getD 0)<nt then some { dst:=o.dst,op:=a,gd:=g,lY:=lY,row:=(rows.lookup (o.dst.getD 0)).getD 0 } else none
  |_,_=>none
def sA (P : Program) (bq : Nat → Option TypeId) (nt : Nat) (rows : List (Nat × Nat)) (ops : Array Oper) : List (Oper × Nat) → Option (List bA)
  |[]=>some []
  | (o, b) :: r => match T0 P bq nt rows ops b o, sA P bq nt rows ops r with
    |some a,some aK=>some (a :: aK)
    |_,_=>none
def bM.iX:bM→List bR
  |.ED x|.box x|.wo _ x|.nilCheck x|.un _ x|.conv _ x|.field _ _ _ x|.fieldAddr _ x|.extract x _|.len x|.C9 x|.EE x|.TY x|.TZ x|.sliceB _ _ x|.pP _ _ _ x|.clear _ _ x|.clone _ _ x|.sort x|.compact x|.load _ _ x=>[x]
  |.pick a b c=>[a,b,c]
  |.build _ ps=>ps.map (·.2.2)
  |.buildSlice _ _ _ ps=>ps.map (·.2)
  |.store _ x y|.bin _ x y|.QT _ x y|.QU _ _ _ x y|.indexAddr _ x y|.jE _ _ x y|.n8 _ _ _ x y|.n9 x y|.Da x y|.Db x y|.append _ _ x y|.mK _ _ _ x y|.copy _ x y|.makeSlice _ _ _ x y|.grow _ x y|.EF x y|.EG x y=>[x,y]
  |.slice _ x a b c=>x :: (a.toList++b.toList++c.toList)
  |.oa x a b=>x :: (a.toList++b.toList)
  |.makeFunc _ l|.call _ l|.tB _ l=>l
  |.yS x l=>x :: l
  |.alloc _|.Bv _|.mkSet|.bad=>[]
def bR.slot:bR→List Nat
  |.t n=>[n]
  |.c _=>[]
def bA.looks (o:bA):List Nat:=o.op.iX.flatMap bR.slot++(match o.gd with|some (g,_)=>[g]|none=>[])
def HG (l:List Nat) (n:Nat):Bool:=l.any fun m=>Nat.beq m n
def Dg (d:Option Nat) (y:bA):Bool:=
  match d with
  |some d=>!HG y.looks d
  |none=>true
def JG (d e:Option Nat):Bool:=
  match d,e with
  |some d,some e=>!Nat.beq d e
  |_,_=>true
def bA.apart (x y:bA):Bool:=Dg x.dst y&&Dg y.dst x&&JG x.dst y.dst
def yf (y:bA):Nat→List bA→Bool
  |_,[]=>true
  |i,x :: r=>(y.lY.testBit i||x.apart y)&&yf y (i+1) r
def kN (past:List bA):List bA→Bool
  |[]=>true
  |y :: r=>yf y 0 past&&kN (past++[y]) r
def Edge.Dh (e:Edge):Bool:=Region.binds .any e
def Zx (past:List Nat) (o:Oper):Nat:=
  o.after.toList.foldl (fun b e=>if Edge.Dh e then (b ||| (1 <<< e.on)) ||| past.getD e.on 0 else b) 0
def Zy (past:List Nat):List Oper→List Nat
  |[]=>past
  |o :: r=>Zy (past++[Zx past o]) r
def Di (lY:List Nat) (i:Nat) (o:Oper) (b:Nat):Bool:=
  (o.after.toList.all fun e=>!Edge.Dh e||Nat.blt e.on i) &&
  (List.range i).all fun j=>!b.testBit j||o.after.toList.any fun e=>Edge.Dh e&&(Nat.beq e.on j||(Nat.blt j e.on&&(lY.getD e.on 0).testBit j))
def BT (lY:List Nat):Nat→List Oper→List Nat→Bool
  |_,[],_=>true
  |i,o :: r,b :: bs=>Di lY i o b&&BT lY (i+1) r bs
  |_,_ :: _,[]=>false
def QW (P : Program) (bq : Nat → Option TypeId) (nt : Nat) (rows : List (Nat × Nat)) (ops : Array Oper) (draw : Bool) : Option AC :=
  match draw with
  |false=>(sA P bq nt rows ops (ops.toList.map fun o=>(o,0))).map fun l=>.region l false
  | true =>
    let b:=Zy [] ops.toList
    match b.length==ops.size&&BT b 0 ops.toList b,sA P bq nt rows ops (ops.toList.zip b) with
    |true,some l=>if kN [] l then some (.region l true) else none
    |_,_=>none
def gb:Nat:=4294967296
def gid (l:Nat):Nat:=gb+2*l
def xP (l:Nat):Nat:=gb+2*l+1
def leaves (p:Nat→Bool):AC→Bool
  |.seq a b=>leaves p a&&leaves p b
  |.cond _ a b=>leaves p a&&leaves p b
  |.block _ c=>leaves p c
  |.loop c=>leaves p c
  |.exit id=>p id
  |_=>true
def UQ:Code→Option Nat
  |.label l=>some l
  |_=>none
def T3 : Code → Option Nat
  | .seq a b => match UQ a with
    |some l=>some l
    |none=>T3 b
  |_=>none
def M7 (l:Nat) (c:AC):Option AC:=
  match leaves (fun id=>Nat.blt id gb||Nat.beq id (gid l)) c with
  |true=>some (.block (xP l) (.loop (.block (gid l) (.seq c (.exit (xP l))))))
  |false=>none
def cT (P : Program) (bq : Nat → Option TypeId) (nt : Nat) (rows : List (Nat × Nat)) : Code → Option Nat → Option AC
  | .seq a b, some l => match UQ a with
    | some l' => match Nat.beq l' l, cT P bq nt rows b none with
      |true,some c=>M7 l c
      |_,_=>none
    | none => match findLabel a l, cT P bq nt rows a none, cT P bq nt rows b (some l) with
      |none,some a,some b=>if leaves (fun id=>Nat.blt id gb) a then some (.seq a b) else none
      |_,_,_=>none
  |.skip,none=>some .skip
  |.region _ ops draw,none=>QW P bq nt rows ops draw
  | .seq a b, none => match cT P bq nt rows a none, cT P bq nt rows b none with
    |some a,some b=>some (.seq a b)
    |_,_=>none
  | .cond c a b, none => match cL c, cT P bq nt rows a none, cT P bq nt rows b none with
    |some c,some a,some b=>some (.cond c a b)
    |_,_,_=>none
  | .block id c, none => match Nat.blt id gb with
    |true=>(cT P bq nt rows c none).map (.block id)
    |false=>none
  |.loop c,none=>(cT P bq nt rows c none).map .loop
  | .exit id, none => match Nat.blt id gb with
    |true=>some (.exit id)
    |false=>none
  |.goto l,none=>some (.exit (gid l))
  | .scope c, none => match T3 c with
    |some l=>cT P bq nt rows c (some l)
    |none=>none
  |.ret,none=>some .ret
  |_,_=>none
def JH (P:Program) (bq:Nat→Option TypeId) (nt:Nat) (rows:List (Nat×Nat)) (c:Code):Option AC:=cT P bq nt rows c none
def QX (P : Program) : ResultVar → Option yT
  |.tmp t=>some (.t t)
  | .cell a t => match cY P t, l6 P t with
    |some sz,some agg=>if agg∨sz=1 then some (.cell a sz agg) else none
    |_,_=>none
def EK (P : Program) : List ResultVar → Option (List yT)
  |[]=>some []
  | x :: r => match QX P x, EK P r with
    |some y,some ys=>some (y :: ys)
    |_,_=>none
structure Mode where
  rows:List (Nat×Nat)
  sh:Bool
  deriving Inhabited
def bL (P : Program) (bq : Nat → Option TypeId) (md : Nat → Mode) (f : Nat) : Option cV :=
  match P.funcs[f]? with
  |none=>none
  | some fn => match fn.body with
    |none=>none
    | some c =>
      if fn.name == "runtime.NumGoroutine" then none
      else match JH P bq fn.ntmps (md f).rows c,EK P fn.results.toList with
        | some b, some rs =>
          let np:=fn.params.size+fn.nfree
          if np≤fn.ntmps then some { np,nt:=fn.ntmps,res:=rs,body:=b,sh:=(md f).sh } else none
        |_,_=>none
end Go.bI
