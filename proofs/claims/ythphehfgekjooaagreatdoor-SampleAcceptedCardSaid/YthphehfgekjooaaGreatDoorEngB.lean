/- From the model's code to the abstract machine's code: a function that the kernel runs. -/
import Derived.Test.YthphehfgekjooaaGreatDoorEngA
set_option linter.unusedVariables false
set_option linter.unusedSimpArgs false
namespace Go.bq
open Go
def gz : Value → Option AV
  |.slice none 0 0=>some (.own [] .full)
  |.slice _ _ _=>none
  |.agg _=>none
  |.tuple _=>none
  | .func fn first cap => match fn with
    |.func f=>if first.size=0∧cap.size=0 then some (.fB f []) else none
    |_=>none
  |v=>some (.d (.sc v))
def eH : List Value → Option (List AV)
  |[]=>some []
  | v :: r => match gz v, eH r with
    |some x,some xs=>some (x :: xs)
    |_,_=>none
def tu:Value→Option AV
  |.agg cs=>(eH cs.toList).map .agg
  |.tuple vs=>if vs.size=0 then some (.gN []) else none
  |v=>gz v
def tv:Value→Option D
  |.slice none 0 0=>some (.sl [])
  |.slice _ _ _=>none
  |.agg _=>none
  |.tuple _=>none
  |.func _ _ _=>none
  |v=>some (.sc v)
def iy : List Value → Option (List D)
  |[]=>some []
  | v :: r => match tv v, iy r with
    |some x,some xs=>some (x :: xs)
    |_,_=>none
def cr:Operand→Option bA
  |.tmp t=>some (.t t)
  |.const v=>(tu v).map .c
  |.func f=>some (.c (.fB f []))
  |.global _=>none
def iK : List Operand → Option (List bA)
  |[]=>some []
  | x :: r => match cr x, iK r with
    |some y,some ys=>some (y :: ys)
    |_,_=>none
def pq:Option Operand→Option (Option bA)
  |none=>some none
  |some x=>(cr x).map some
def mL (P:Program) (t:TypeId):Option Bool:=
  match P.underlying t with
  |some (.struct _)|some (.array _ _)=>some true
  |some _=>some false
  |none=>none
def mM (P:Program) (t:TypeId):Option (List Value):=(P.info? t).bind fun i=>i.zero.map fun v=>v.cells.toList
def cC (P:Program) (t:TypeId):Option Nat:=(P.info? t).map (·.size)
def nE (P : Program) : Nat → TypeId → Nat → Option (List (Nat × Nat))
  |0,_,_=>none
  | n + 1, t, off =>
    match cC P t,P.underlying t with
    |some 1,some .bool=>some [(off,0)]
    |some 1,some (.int _)=>some [(off,1)]
    |some 1,some .string=>some [(off,2)]
    |some sz,some (.struct fs)=>if P.stoodInHeld t then none else
        fs.toList.foldr (fun f acc=>match acc,cC P f.type with
          |some l,some fz=>if f.name = "_" ∨ sz<f.offset+fz then none else (nE P n f.type (off+f.offset)).map (· ++ l)
          |_,_=>none) (some [])
    |_,_=>none
def qH (place : Nat → Option (Nat × Nat)) : List (Nat × Operand) → Option (List (Nat × Nat × bA))
  |[]=>some []
  | (i, x) :: r => match place i, cr x, qH place r with
    |some (off,sz),some y,some ys=>some ((off,sz,y) :: ys)
    |_,_,_=>none
def Em (P:Program) (fs:Array Field):Option (List (Nat×Nat)):=fs.toList.mapM fun f=>(P.info? f.type).map fun i=>(f.offset,i.size)
def nF : List (Nat × Operand) → Option (List (Nat × bA))
  |[]=>some []
  | (i, x) :: r => match cr x, nF r with
    |some y,some ys=>some ((i,y) :: ys)
    |_,_=>none
def LV (P : Program) (op : BinOp) (neg : Bool) (t : TypeId) (x y : bA) : Option bL :=
  match P.underlying t with
  |some .bool=>some (.TT neg x y)
  |some (.int _)|some .string=>some (.bin op x y)
  |some (.slice _)=>some .bad
  | some (.interface _) => match y with
    |.c (.d (.sc .nilIface))=>some (.xe neg x)
    |_=>none
  | some (.struct _) => if P.eqGuardType P.depth t then none else match nE P 20 t 0, cC P t with
    |some l,some sz=>some (.TU neg sz l x y)
    |_,_=>none
  |_=>none
def uv (P : Program) (t : TypeId) : Option (Nat × Nat) :=
  match P.underlying t with
  | some (.slice e) => match P.info? e, mM P e with
    |some i,some z=>if 0<i.size∧z.length=i.size then some (i.size,i.bytes) else none
    |_,_=>none
  |_=>none
def PR (P : Program) : Nat → TypeId → Bool
  |0,_=>false
  | n + 1, t => match P.underlying t with
    |some .bool|some (.int _)|some .string=>true
    |some (.struct fs)=>fs.toList.all fun f=>PR P n f.type
    |some (.array _ e)=>PR P n e
    |_=>false
def acL (P:Program) (f:Nat):Bool:=
  match P.funcs[f]? with
  |some fn=>fn.resultTypes.toList.all (PR P 20)
  |none=>false
def agQ (P : Program) (f : Nat) : Bool :=
  match P.funcs[f]? with
  | some fn => match fn.params.toList with
    | t :: _ => match P.underlying t with
      |some (.pointer _)=>true
      |_=>false
    |[]=>false
  |none=>false
def PS (P : Program) (dP : Nat → Option TypeId) (c : Go.Call) : Option bL :=
  match c.callee with
  | .value (.func f) =>
    match dP f,c.args.toList with
    | some t, [x] => match Nat.beq t 1000000 with
      |true=>(cr x).map .sort
      | false => match Nat.beq t 1000001 with
       |true=>(cr x).map .compact
       |false=>match uv P t,cr x with
        |some (sz,yV),some x=>some (.clone sz yV x)
        |_,_=>none
    |some _,_=>none
    | none, _ => match acL P f && !agQ P f with
      |true=>(iK c.args.toList).map (.um f)
      |false=>(iK c.args.toList).map (.call f)
  |.value (.tmp t)=>(iK c.args.toList).map (.zA (.t t))
  |.value _=>none
  |.invoke _ _=>none
  | .builtin b =>
    match b,c.args.toList,c.argTypes.toList with
    | .len, [x], [t] => match P.underlying t with
      |some (.slice _)=>(cr x).map .len
      |some .string=>(cr x).map .Eg
      |some (.array n _)=>some (.Cf n)
      | some (.pointer e) => match P.underlying e with
        |some (.array n _)=>some (.Cf n)
        |_=>none
      |_=>none
    | .append, [x, y], [t, u] => match P.underlying t, P.underlying u with
      | some (.slice e), some (.int _) => (match uv P t, (mM P e).bind iy, cr x, cr y with
        |some (sz,yV),some z,some x,some y=>if z.length=sz then some (.ny sz yV z x y) else none
        |_,_,_,_=>none)
      |_,some (.int _)=>none
      | _, some (.slice _) => (match uv P t, cr x, cr y with
        |some (sz,yV),some x,some y=>some (.append sz yV x y)
        |_,_,_=>none)
      | _, some .string => (match uv P t, cr x, cr y with
        |some (sz,yV),some x,some y=>some (.append sz yV x y)
        |_,_,_=>none)
      |_,_=>none
    | .copy, [x, y], [t, _] => match P.underlying t with
      | some (.slice e) => match P.info? e, cr x, cr y with
        |some i,some x,some y=>if 0<i.size then some (.copy i.size x y) else none
        |_,_,_=>none
      |_=>none
    | .clear, [x], [t] => match P.underlying t with
      | some (.slice e) => match cC P e, (mM P e).bind iy, cr x with
        |some sz,some z,some x=>if z.length=sz∧0<sz then some (.clear sz z x) else none
        |_,_,_=>none
      |_=>none
    | .cap, [x], [t] => match P.underlying t with
      |some (.slice _)=>(cr x).map .Gw
      |_=>none
    | .min, [x, y], _ => match cr x, cr y with
      |some x,some y=>some (.Eh x y)
      |_,_=>none
    | .max, [x, y], _ => match cr x, cr y with
      |some x,some y=>some (.Ei x y)
      |_,_=>none
    |_,_,_=>none
def Ca (P : Program) (dP : Nat → Option TypeId) : Go.Op → Option bL
  |.move x|.assign x=>(cr x).map .Gv
  | .pick c a b => match cr c, cr a, cr b with
    |some c,some a,some b=>some (.pick c a b)
    |_,_,_=>none
  |.alloc t=>(mM P t).bind fun z=>(eH z).map .alloc
  |.box _ x=>(cr x).map .box
  | .build t ps => match mM P t, P.underlying t with
    | some z, some (.struct fs) => match eH z, Em P fs with
      |some z,some pl=>(qH (pl.toArray[·]?) ps.toList).map (.build z)
      |_,_=>none
    | some z, some (.array _ e) => match eH z, cC P e with
      |some z,some sz=>(qH (fun i=>some (i*sz,sz)) ps.toList).map (.build z)
      |_,_=>none
    |_,_=>none
  | .buildSlice t n ps => match P.underlying t with
    | some (.slice e) => match cC P e, (mM P e).bind iy, nF ps.toList with
      |some sz,some z,some l=>if n*sz≤16777216∧z.length=sz∧0<sz then some (.buildSlice sz n z l) else none
      |_,_,_=>none
    |_=>none
  | .load t x => match cC P t, mL P t, cr x with
    |some sz,some agg,some x=>if agg∨sz=1 then some (.load sz agg x) else none
    |_,_,_=>none
  | .store t x v => match cC P t, cr x, cr v with
    |some sz,some x,some v=>some (.store sz x v)
    |_,_,_=>none
  |.nilCheck x=>(cr x).map .nilCheck
  | .binOp op t x y _ => match cr x, cr y with
    | some x, some y => match op with
      |.eql=>LV P op false t x y
      |.neq=>LV P op true t x y
      |op=>some (.bin op x y)
    |_,_=>none
  |.unOp op _ x=>(cr x).map (.un op)
  | .convert src dst x => match P.underlying src, P.underlying dst with
    |some _,some (.int k)=>(cr x).map (.conv k)
    | some (.slice e), some .string => match P.underlying e with
      |some (.int .u8)=>(cr x).map .W1
      |_=>none
    | some .string, some (.slice e) => match P.underlying e with
      |some (.int .u8)=>(cr x).map .W2
      |_=>none
    |_,_=>none
  | .field t x f => match P.underlying t with
    | some (.struct fs) => match fs[f]? with
      | some f => match cC P f.type, mL P f.type, cr x with
        |some sz,some agg,some x=>if agg∨sz=1 then some (.field f.offset sz agg x) else none
        |_,_,_=>none
      |none=>none
    |_=>none
  | .fieldAddr t x f => match P.underlying t with
    | some (.struct fs) => match fs[f]? with
      | some f => match cC P f.type, cr x with
        |some sz,some x=>if sz=0 then none else some (.fieldAddr f.offset x)
        |_,_=>none
      |none=>none
    |_=>none
  | .indexAddr t x i => match P.underlying t with
    | some (.slice e) => match cC P e, cr x, cr i with
      |some sz,some x,some i=>if sz=0 then none else some (.indexAddr sz x i)
      |_,_,_=>none
    | some (.array n e) => match cC P e, cr x, cr i with
      |some sz,some x,some i=>some (.jz n sz x i)
      |_,_,_=>none
    |_=>none
  | .index t x i => match P.underlying t with
    | some (.array n e) => match cC P e, mL P e, cr x, cr i with
      |some sz,some agg,some x,some i=>if agg∨sz=1 then some (.oY n sz agg x i) else none
      |_,_,_,_=>none
    | some .string => match cr x, cr i with
      |some x,some i=>some (.oZ x i)
      |_,_=>none
    |_=>none
  | .slice t x lo hi mx => match P.underlying t with
    | some (.slice e) => match cC P e, cr x, pq lo, pq hi, pq mx with
      |some sz,some x,some lo,some hi,some mx=>if sz=0∨(mx.isSome∧hi.isNone) then none else some (.slice sz x lo hi mx)
      |_,_,_,_,_=>none
    | some (.array n e) => match lo, hi, mx, cC P e, cr x with
      |none,none,none,some sz,some x=>if n=0 then none else some (.sliceB n sz x)
      |some (.const (.int .i64 k)),none,none,some sz,some x=>if 0≤k then some (.qA k.toNat n sz x) else none
      |_,_,_,_,_=>none
    | some .string => match cr x, pq lo, pq hi, mx with
      |some x,some lo,some hi,none=>some (.o6 x lo hi)
      |_,_,_,_=>none
    |_=>none
  |.extract x i=>(cr x).map fun x=>.extract x i
  | .makeFunc fn first cap => match fn with
    |.func f=>if first.size=0 then (iK cap.toList).map (.makeFunc f) else none
    |_=>none
  | .makeSlice t l c => match P.underlying t with
    | some (.slice e) => match P.info? e, (mM P e).bind iy, cr l, cr c with
      |some i,some z,some l,some c=>if 0<i.size then some (.makeSlice i.size i.bytes z l c) else none
      |_,_,_,_=>none
    |_=>none
  | .makeMap t none => match P.underlying t with
    | some (.map k e) => match P.underlying k, P.underlying e with
      |some .string,some .bool=>some .mkSet
      |_,_=>none
    |_=>none
  | .lookup t m x false => match P.underlying t with
    | some (.map k e) => match P.underlying k, (P.info? e).bind (·.zero), cr m, cr x with
      |some .string,some (.bool false),some m,some x=>some (.Gx m x)
      |_,_,_,_=>none
    |_=>none
  | .mapUpdate t m x v => match v, P.underlying t with
    | .const (.bool true), some (.map k _) => match P.underlying k, cr m, cr x with
      |some .string,some m,some x=>some (.Gy m x)
      |_,_,_=>none
    |_,_=>none
  |.call c=>PS P dP c
  |.panic _=>some .bad
  |.makeInterface _ _=>some .bad
  |_=>none
def gdP (ops:Array Oper):Option (Nat×Bool)→Option (Option (Nat×Bool))
  |none=>some none
  |some (j,b)=>((ops[j]?).bind (·.dst)).map fun d=>some (d,b)
def W3 (P:Program) (dP:Nat→Option TypeId) (nt:Nat) (rows:List (Nat×Nat)) (ops:Array Oper) (mJ:Nat) (o:Oper):Option aY:=
  match Ca P dP o.op,gdP ops o.guard with
  |some a,some g=>if (o.dst.getD 0)<nt then some { dst:=o.dst,op:=a,gd:=g,mJ:=mJ,row:=(rows.lookup (o.dst.getD 0)).getD 0 } else none
  |_,_=>none
def vX (P : Program) (dP : Nat → Option TypeId) (nt : Nat) (rows : List (Nat × Nat)) (ops : Array Oper) : List (Oper × Nat) → Option (List aY)
  |[]=>some []
  | (o, b) :: r => match W3 P dP nt rows ops b o, vX P dP nt rows ops r with
    |some a,some aD=>some (a :: aD)
    |_,_=>none
def bL.iK:bL→List bA
  |.Gv x|.box x|.xe _ x|.nilCheck x|.un _ x|.conv _ x|.field _ _ _ x|.fieldAddr _ x|.extract x _|.len x|.Eg x|.Gw x|.W1 x|.W2 x|.sliceB _ _ x|.qA _ _ _ x|.clear _ _ x|.clone _ _ x|.sort x|.compact x|.load _ _ x=>[x]
  |.pick a b c=>[a,b,c]
  |.build _ ps=>ps.map (·.2.2)
  |.buildSlice _ _ _ ps=>ps.map (·.2)
  |.store _ x y|.bin _ x y|.TT _ x y|.TU _ _ _ x y|.indexAddr _ x y|.jz _ _ x y|.oY _ _ _ x y|.oZ x y|.Eh x y|.Ei x y|.append _ _ x y|.ny _ _ _ x y|.copy _ x y|.makeSlice _ _ _ x y|.grow _ x y|.Gx x y|.Gy x y=>[x,y]
  |.slice _ x a b c=>x :: (a.toList++b.toList++c.toList)
  |.o6 x a b=>x :: (a.toList++b.toList)
  |.makeFunc _ l|.call _ l|.um _ l=>l
  |.zA x l=>x :: l
  |.alloc _|.Cf _|.mkSet|.bad=>[]
def bA.slot:bA→List Nat
  |.t n=>[n]
  |.c _=>[]
def aY.looks (o:aY):List Nat:=o.op.iK.flatMap bA.slot++(match o.gd with|some (g,_)=>[g]|none=>[])
def JF (l:List Nat) (n:Nat):Bool:=l.any fun m=>Nat.beq m n
def zE (d:Option Nat) (y:aY):Bool:=
  match d with
  |some d=>!JF y.looks d
  |none=>true
def LW (d e:Option Nat):Bool:=
  match d,e with
  |some d,some e=>!Nat.beq d e
  |_,_=>true
def aY.apart (x y:aY):Bool:=zE x.dst y&&zE y.dst x&&LW x.dst y.dst
def yW (y:aY):Nat→List aY→Bool
  |_,[]=>true
  |i,x :: r=>(y.mJ.testBit i||x.apart y)&&yW y (i+1) r
def lC (past:List aY):List aY→Bool
  |[]=>true
  |y :: r=>yW y 0 past&&lC (past++[y]) r
def Edge.En (e:Edge):Bool:=Region.binds .any e
def acM (past:List Nat) (o:Oper):Nat:=
  o.after.toList.foldl (fun b e=>if Edge.En e then (b ||| (1 <<< e.on)) ||| past.getD e.on 0 else b) 0
def acN (past:List Nat):List Oper→List Nat
  |[]=>past
  |o :: r=>acN (past++[acM past o]) r
def Eo (mJ:List Nat) (i:Nat) (o:Oper) (b:Nat):Bool:=
  (o.after.toList.all fun e=>!Edge.En e||Nat.blt e.on i) &&
  (List.range i).all fun j=>!b.testBit j||o.after.toList.any fun e=>Edge.En e&&(Nat.beq e.on j||(Nat.blt j e.on&&(mJ.getD e.on 0).testBit j))
def CE (mJ:List Nat):Nat→List Oper→List Nat→Bool
  |_,[],_=>true
  |i,o :: r,b :: bs=>Eo mJ i o b&&CE mJ (i+1) r bs
  |_,_ :: _,[]=>false
def TX (P : Program) (dP : Nat → Option TypeId) (nt : Nat) (rows : List (Nat × Nat)) (ops : Array Oper) (draw : Bool) : Option AC :=
  match draw with
  |false=>(vX P dP nt rows ops (ops.toList.map fun o=>(o,0))).map fun l=>.region l false
  | true =>
    let b:=acN [] ops.toList
    match b.length==ops.size&&CE b 0 ops.toList b,vX P dP nt rows ops (ops.toList.zip b) with
    |true,some l=>if lC [] l then some (.region l true) else none
    |_,_=>none
def gb:Nat:=4294967296
def gid (l:Nat):Nat:=gb+2*l
def yE (l:Nat):Nat:=gb+2*l+1
def leaves (p:Nat→Bool):AC→Bool
  |.seq a b=>leaves p a&&leaves p b
  |.cond _ a b=>leaves p a&&leaves p b
  |.block _ c=>leaves p c
  |.loop c=>leaves p c
  |.exit id=>p id
  |_=>true
def Y1:Code→Option Nat
  |.label l=>some l
  |_=>none
def W4 : Code → Option Nat
  | .seq a b => match Y1 a with
    |some l=>some l
    |none=>W4 b
  |_=>none
def PT (l:Nat) (c:AC):Option AC:=
  match leaves (fun id=>Nat.blt id gb||Nat.beq id (gid l)) c with
  |true=>some (.block (yE l) (.loop (.block (gid l) (.seq c (.exit (yE l))))))
  |false=>none
def cT (P : Program) (dP : Nat → Option TypeId) (nt : Nat) (rows : List (Nat × Nat)) : Code → Option Nat → Option AC
  | .seq a b, some l => match Y1 a with
    | some l' => match Nat.beq l' l, cT P dP nt rows b none with
      |true,some c=>PT l c
      |_,_=>none
    | none => match findLabel a l, cT P dP nt rows a none, cT P dP nt rows b (some l) with
      |none,some a,some b=>if leaves (fun id=>Nat.blt id gb) a then some (.seq a b) else none
      |_,_,_=>none
  |.skip,none=>some .skip
  |.region _ ops draw,none=>TX P dP nt rows ops draw
  | .seq a b, none => match cT P dP nt rows a none, cT P dP nt rows b none with
    |some a,some b=>some (.seq a b)
    |_,_=>none
  | .cond c a b, none => match cr c, cT P dP nt rows a none, cT P dP nt rows b none with
    |some c,some a,some b=>some (.cond c a b)
    |_,_,_=>none
  | .block id c, none => match Nat.blt id gb with
    |true=>(cT P dP nt rows c none).map (.block id)
    |false=>none
  |.loop c,none=>(cT P dP nt rows c none).map .loop
  | .exit id, none => match Nat.blt id gb with
    |true=>some (.exit id)
    |false=>none
  |.goto l,none=>some (.exit (gid l))
  | .scope c, none => match W4 c with
    |some l=>cT P dP nt rows c (some l)
    |none=>none
  |.ret,none=>some .ret
  |_,_=>none
def LX (P:Program) (dP:Nat→Option TypeId) (nt:Nat) (rows:List (Nat×Nat)) (c:Code):Option AC:=cT P dP nt rows c none
def Y2 (P : Program) : ResultVar → Option zB
  |.tmp t=>some (.t t)
  | .cell a t => match cC P t, mL P t with
    |some sz,some agg=>if agg∨sz=1 then some (.cell a sz agg) else none
    |_,_=>none
def GG (P : Program) : List ResultVar → Option (List zB)
  |[]=>some []
  | x :: r => match Y2 P x, GG P r with
    |some y,some ys=>some (y :: ys)
    |_,_=>none
structure Mode where
  rows:List (Nat×Nat)
  sh:Bool
  deriving Inhabited
def Ch (P : Program) (dP : Nat → Option TypeId) (md : Nat → Mode) (f : Nat) : Option sQ :=
  match P.funcs[f]? with
  |none=>none
  | some fn => match fn.body with
    |none=>none
    | some c =>
      if fn.name == "runtime.NumGoroutine" then none
      else match LX P dP fn.ntmps (md f).rows c,GG P fn.results.toList with
        | some b, some rs =>
          let np:=fn.params.size+fn.nfree
          if np≤fn.ntmps then some { np,nt:=fn.ntmps,res:=rs,body:=b,sh:=(md f).sh } else none
        |_,_=>none
end Go.bq
