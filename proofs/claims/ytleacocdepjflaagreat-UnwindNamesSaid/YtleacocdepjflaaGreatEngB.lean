/- From the model's code to the abstract machine's code: a function that the kernel runs. -/
import Derived.Test.YtleacocdepjflaaGreatEngA
namespace Go.Eng
open Go
def constCell : Value → Option AV
  |.slice none 0 0=>some (.own [] .full)
  |.slice _ _ _=>none
  |.agg _=>none
  |.tuple _=>none
  | .func fn first cap => match fn with
    |.func f=>if first.size=0∧cap.size=0 then some (.clo f []) else none
    |_=>none
  |v=>some (.d (.sc v))
def constCells : List Value → Option (List AV)
  |[]=>some []
  | v :: r => match constCell v, constCells r with
    |some x,some xs=>some (x :: xs)
    |_,_=>none
def constA:Value→Option AV
  |.agg cs=>(constCells cs.toList).map .agg
  |.tuple vs=>if vs.size=0 then some (.tup []) else none
  |v=>constCell v
def constD:Value→Option D
  |.slice none 0 0=>some (.sl [])
  |.slice _ _ _=>none
  |.agg _=>none
  |.tuple _=>none
  |.func _ _ _=>none
  |v=>some (.sc v)
def constDs : List Value → Option (List D)
  |[]=>some []
  | v :: r => match constD v, constDs r with
    |some x,some xs=>some (x :: xs)
    |_,_=>none
def opd:Operand→Option Opd
  |.tmp t=>some (.t t)
  |.const v=>(constA v).map .c
  |.func f=>some (.c (.clo f []))
  |.global _=>none
def opds : List Operand → Option (List Opd)
  |[]=>some []
  | x :: r => match opd x, opds r with
    |some y,some ys=>some (y :: ys)
    |_,_=>none
def opdO:Option Operand→Option (Option Opd)
  |none=>some none
  |some x=>(opd x).map some
def isAggP (P:Program) (t:TypeId):Option Bool:=
  match P.underlying t with
  |some (.struct _)|some (.array _ _)=>some true
  |some _=>some false
  |none=>none
def zeroP (P:Program) (t:TypeId):Option (List Value):=(P.info? t).bind fun i=>i.zero.map fun v=>v.cells.toList
def sizeP (P:Program) (t:TypeId):Option Nat:=(P.info? t).map (·.size)
def eqCells (P : Program) : Nat → TypeId → Nat → Option (List (Nat × Nat))
  |0,_,_=>none
  | n + 1, t, off =>
    match sizeP P t,P.underlying t with
    |some 1,some .bool=>some [(off,0)]
    |some 1,some (.int _)=>some [(off,1)]
    |some 1,some .string=>some [(off,2)]
    |some sz,some (.struct fs)=>if P.stoodInHeld t then none else
        fs.toList.foldr (fun f acc=>match acc,sizeP P f.type with
          |some l,some fz=>if f.name = "_" ∨ sz<f.offset+fz then none else (eqCells P n f.type (off+f.offset)).map (· ++ l)
          |_,_=>none) (some [])
    |_,_=>none
def partsP (place : Nat → Option (Nat × Nat)) : List (Nat × Operand) → Option (List (Nat × Nat × Opd))
  |[]=>some []
  | (i, x) :: r => match place i, opd x, partsP place r with
    |some (off,sz),some y,some ys=>some ((off,sz,y) :: ys)
    |_,_,_=>none
def placesP (P:Program) (fs:Array Field):Option (List (Nat×Nat)):=fs.toList.mapM fun f=>(P.info? f.type).map fun i=>(f.offset,i.size)
def partsSl : List (Nat × Operand) → Option (List (Nat × Opd))
  |[]=>some []
  | (i, x) :: r => match opd x, partsSl r with
    |some y,some ys=>some ((i,y) :: ys)
    |_,_=>none
def cmpOp (P : Program) (op : BinOp) (neg : Bool) (t : TypeId) (x y : Opd) : Option AOp :=
  match P.underlying t with
  |some .bool=>some (.eqb neg x y)
  |some (.int _)|some .string=>some (.bin op x y)
  |some (.slice _)=>some .bad
  | some (.interface _) => match y with
    |.c (.d (.sc .nilIface))=>some (.isErr neg x)
    |_=>none
  | some (.struct _) => if P.eqGuardType P.depth t then none else match eqCells P 20 t 0, sizeP P t with
    |some l,some sz=>some (.eqA neg sz l x y)
    |_,_=>none
  |_=>none
def elemP (P : Program) (t : TypeId) : Option (Nat × Nat) :=
  match P.underlying t with
  | some (.slice e) => match P.info? e, zeroP P e with
    |some i,some z=>if 0<i.size∧z.length=i.size then some (i.size,i.bytes) else none
    |_,_=>none
  |_=>none
def flatT (P : Program) : Nat → TypeId → Bool
  |0,_=>false
  | n + 1, t => match P.underlying t with
    |some .bool|some (.int _)|some .string=>true
    |some (.struct fs)=>fs.toList.all fun f=>flatT P n f.type
    |some (.array _ e)=>flatT P n e
    |_=>false
def flatF (P:Program) (f:Nat):Bool:=
  match P.funcs[f]? with
  |some fn=>fn.resultTypes.toList.all (flatT P 20)
  |none=>false
def ptrF (P : Program) (f : Nat) : Bool :=
  match P.funcs[f]? with
  | some fn => match fn.params.toList with
    | t :: _ => match P.underlying t with
      |some (.pointer _)=>true
      |_=>false
    |[]=>false
  |none=>false
def callP (P : Program) (lib : Nat → Option TypeId) (c : Go.Call) : Option AOp :=
  match c.callee with
  | .value (.func f) =>
    match lib f,c.args.toList with
    | some t, [x] => match Nat.beq t 1000000 with
      |true=>(opd x).map .sort
      | false => match Nat.beq t 1000001 with
       |true=>(opd x).map .compact
       |false=>match elemP P t,opd x with
        |some (sz,by_),some x=>some (.clone sz by_ x)
        |_,_=>none
    |some _,_=>none
    | none, _ => match flatF P f && !ptrF P f with
      |true=>(opds c.args.toList).map (.callF f)
      |false=>(opds c.args.toList).map (.call f)
  |.value (.tmp t)=>(opds c.args.toList).map (.callv (.t t))
  |.value _=>none
  |.invoke _ _=>none
  | .builtin b =>
    match b,c.args.toList,c.argTypes.toList with
    | .len, [x], [t] => match P.underlying t with
      |some (.slice _)=>(opd x).map .len
      |some .string=>(opd x).map .lenS
      |some (.array n _)=>some (.lenC n)
      | some (.pointer e) => match P.underlying e with
        |some (.array n _)=>some (.lenC n)
        |_=>none
      |_=>none
    | .append, [x, y], [t, u] => match P.underlying t, P.underlying u with
      | some (.slice e), some (.int _) => (match elemP P t, (zeroP P e).bind constDs, opd x, opd y with
        |some (sz,by_),some z,some x,some y=>if z.length=sz then some (.appendZ sz by_ z x y) else none
        |_,_,_,_=>none)
      |_,some (.int _)=>none
      | _, some (.slice _) => (match elemP P t, opd x, opd y with
        |some (sz,by_),some x,some y=>some (.append sz by_ x y)
        |_,_,_=>none)
      | _, some .string => (match elemP P t, opd x, opd y with
        |some (sz,by_),some x,some y=>some (.append sz by_ x y)
        |_,_,_=>none)
      |_,_=>none
    | .copy, [x, y], [t, _] => match P.underlying t with
      | some (.slice e) => match P.info? e, opd x, opd y with
        |some i,some x,some y=>if 0<i.size then some (.copy i.size x y) else none
        |_,_,_=>none
      |_=>none
    | .clear, [x], [t] => match P.underlying t with
      | some (.slice e) => match sizeP P e, (zeroP P e).bind constDs, opd x with
        |some sz,some z,some x=>if z.length=sz∧0<sz then some (.clear sz z x) else none
        |_,_,_=>none
      |_=>none
    | .cap, [x], [t] => match P.underlying t with
      |some (.slice _)=>(opd x).map .capF
      |_=>none
    | .min, [x, y], _ => match opd x, opd y with
      |some x,some y=>some (.mini x y)
      |_,_=>none
    | .max, [x, y], _ => match opd x, opd y with
      |some x,some y=>some (.maxi x y)
      |_,_=>none
    |_,_,_=>none
def opP (P : Program) (lib : Nat → Option TypeId) : Go.Op → Option AOp
  |.move x|.assign x=>(opd x).map .mov
  | .pick c a b => match opd c, opd a, opd b with
    |some c,some a,some b=>some (.pick c a b)
    |_,_,_=>none
  |.alloc t=>(zeroP P t).bind fun z=>(constCells z).map .alloc
  |.box _ x=>(opd x).map .box
  | .build t ps => match zeroP P t, P.underlying t with
    | some z, some (.struct fs) => match constCells z, placesP P fs with
      |some z,some pl=>(partsP (pl.toArray[·]?) ps.toList).map (.build z)
      |_,_=>none
    | some z, some (.array _ e) => match constCells z, sizeP P e with
      |some z,some sz=>(partsP (fun i=>some (i*sz,sz)) ps.toList).map (.build z)
      |_,_=>none
    |_,_=>none
  | .buildSlice t n ps => match P.underlying t with
    | some (.slice e) => match sizeP P e, (zeroP P e).bind constDs, partsSl ps.toList with
      |some sz,some z,some l=>if n*sz≤16777216∧z.length=sz∧0<sz then some (.buildSlice sz n z l) else none
      |_,_,_=>none
    |_=>none
  | .load t x => match sizeP P t, isAggP P t, opd x with
    |some sz,some agg,some x=>if agg∨sz=1 then some (.load sz agg x) else none
    |_,_,_=>none
  | .store t x v => match sizeP P t, opd x, opd v with
    |some sz,some x,some v=>some (.store sz x v)
    |_,_,_=>none
  |.nilCheck x=>(opd x).map .nilCheck
  | .binOp op t x y _ => match opd x, opd y with
    | some x, some y => match op with
      |.eql=>cmpOp P op false t x y
      |.neq=>cmpOp P op true t x y
      |op=>some (.bin op x y)
    |_,_=>none
  |.unOp op _ x=>(opd x).map (.un op)
  | .convert src dst x => match P.underlying src, P.underlying dst with
    |some _,some (.int k)=>(opd x).map (.conv k)
    | some (.slice e), some .string => match P.underlying e with
      |some (.int .u8)=>(opd x).map .b2s
      |_=>none
    | some .string, some (.slice e) => match P.underlying e with
      |some (.int .u8)=>(opd x).map .s2b
      |_=>none
    |_,_=>none
  | .field t x f => match P.underlying t with
    | some (.struct fs) => match fs[f]? with
      | some f => match sizeP P f.type, isAggP P f.type, opd x with
        |some sz,some agg,some x=>if agg∨sz=1 then some (.field f.offset sz agg x) else none
        |_,_,_=>none
      |none=>none
    |_=>none
  | .fieldAddr t x f => match P.underlying t with
    | some (.struct fs) => match fs[f]? with
      | some f => match sizeP P f.type, opd x with
        |some sz,some x=>if sz=0 then none else some (.fieldAddr f.offset x)
        |_,_=>none
      |none=>none
    |_=>none
  | .indexAddr t x i => match P.underlying t with
    | some (.slice e) => match sizeP P e, opd x, opd i with
      |some sz,some x,some i=>if sz=0 then none else some (.indexAddr sz x i)
      |_,_,_=>none
    | some (.array n e) => match sizeP P e, opd x, opd i with
      |some sz,some x,some i=>some (.indexArr n sz x i)
      |_,_,_=>none
    |_=>none
  | .index t x i => match P.underlying t with
    | some (.array n e) => match sizeP P e, isAggP P e, opd x, opd i with
      |some sz,some agg,some x,some i=>if agg∨sz=1 then some (.indexA n sz agg x i) else none
      |_,_,_,_=>none
    | some .string => match opd x, opd i with
      |some x,some i=>some (.indexS x i)
      |_,_=>none
    |_=>none
  | .slice t x lo hi mx => match P.underlying t with
    | some (.slice e) => match sizeP P e, opd x, opdO lo, opdO hi, opdO mx with
      |some sz,some x,some lo,some hi,some mx=>if sz=0∨(mx.isSome∧hi.isNone) then none else some (.slice sz x lo hi mx)
      |_,_,_,_,_=>none
    | some (.array n e) => match lo, hi, mx, sizeP P e, opd x with
      |none,none,none,some sz,some x=>if n=0 then none else some (.sliceB n sz x)
      |some (.const (.int .i64 k)),none,none,some sz,some x=>if 0≤k then some (.sliceL k.toNat n sz x) else none
      |_,_,_,_,_=>none
    | some .string => match opd x, opdO lo, opdO hi, mx with
      |some x,some lo,some hi,none=>some (.sliceS x lo hi)
      |_,_,_,_=>none
    |_=>none
  |.extract x i=>(opd x).map fun x=>.extract x i
  | .makeFunc fn first cap => match fn with
    |.func f=>if first.size=0 then (opds cap.toList).map (.makeFunc f) else none
    |_=>none
  | .makeSlice t l c => match P.underlying t with
    | some (.slice e) => match P.info? e, (zeroP P e).bind constDs, opd l, opd c with
      |some i,some z,some l,some c=>if 0<i.size then some (.makeSlice i.size i.bytes z l c) else none
      |_,_,_,_=>none
    |_=>none
  | .makeMap t none => match P.underlying t with
    | some (.map k e) => match P.underlying k, P.underlying e with
      |some .string,some .bool=>some .mkSet
      |_,_=>none
    |_=>none
  | .lookup t m x false => match P.underlying t with
    | some (.map k e) => match P.underlying k, (P.info? e).bind (·.zero), opd m, opd x with
      |some .string,some (.bool false),some m,some x=>some (.hasK m x)
      |_,_,_,_=>none
    |_=>none
  | .mapUpdate t m x v => match v, P.underlying t with
    | .const (.bool true), some (.map k _) => match P.underlying k, opd m, opd x with
      |some .string,some m,some x=>some (.addK m x)
      |_,_,_=>none
    |_,_=>none
  |.call c=>callP P lib c
  |.panic _=>some .bad
  |.makeInterface _ _=>some .bad
  |_=>none
def gdP (ops:Array Oper):Option (Nat×Bool)→Option (Option (Nat×Bool))
  |none=>some none
  |some (j,b)=>((ops[j]?).bind (·.dst)).map fun d=>some (d,b)
def operP (P:Program) (lib:Nat→Option TypeId) (nt:Nat) (rows:List (Nat×Nat)) (ops:Array Oper) (bef:Nat) (o:Oper):Option AOper:=
  match opP P lib o.op,gdP ops o.guard with
  |some a,some g=>if (o.dst.getD 0)<nt then some { dst:=o.dst,op:=a,gd:=g,bef:=bef,row:=(rows.lookup (o.dst.getD 0)).getD 0 } else none
  |_,_=>none
def opersP (P : Program) (lib : Nat → Option TypeId) (nt : Nat) (rows : List (Nat × Nat)) (ops : Array Oper) : List (Oper × Nat) → Option (List AOper)
  |[]=>some []
  | (o, b) :: r => match operP P lib nt rows ops b o, opersP P lib nt rows ops r with
    |some a,some as=>some (a :: as)
    |_,_=>none
def AOp.opds:AOp→List Opd
  |.mov x|.box x|.isErr _ x|.nilCheck x|.un _ x|.conv _ x|.field _ _ _ x|.fieldAddr _ x|.extract x _|.len x|.lenS x|.capF x|.b2s x|.s2b x|.sliceB _ _ x|.sliceL _ _ _ x|.clear _ _ x|.clone _ _ x|.sort x|.compact x|.load _ _ x=>[x]
  |.pick a b c=>[a,b,c]
  |.build _ ps=>ps.map (·.2.2)
  |.buildSlice _ _ _ ps=>ps.map (·.2)
  |.store _ x y|.bin _ x y|.eqb _ x y|.eqA _ _ _ x y|.indexAddr _ x y|.indexArr _ _ x y|.indexA _ _ _ x y|.indexS x y|.mini x y|.maxi x y|.append _ _ x y|.appendZ _ _ _ x y|.copy _ x y|.makeSlice _ _ _ x y|.grow _ x y|.hasK x y|.addK x y=>[x,y]
  |.slice _ x a b c=>x :: (a.toList++b.toList++c.toList)
  |.sliceS x a b=>x :: (a.toList++b.toList)
  |.makeFunc _ l|.call _ l|.callF _ l=>l
  |.callv x l=>x :: l
  |.alloc _|.lenC _|.mkSet|.bad=>[]
def Opd.slot:Opd→List Nat
  |.t n=>[n]
  |.c _=>[]
def AOper.looks (o:AOper):List Nat:=o.op.opds.flatMap Opd.slot++(match o.gd with|some (g,_)=>[g]|none=>[])
def hasNat (l:List Nat) (n:Nat):Bool:=l.any fun m=>Nat.beq m n
def dstOff (d:Option Nat) (y:AOper):Bool:=
  match d with
  |some d=>!hasNat y.looks d
  |none=>true
def dstsOff (d e:Option Nat):Bool:=
  match d,e with
  |some d,some e=>!Nat.beq d e
  |_,_=>true
def AOper.apart (x y:AOper):Bool:=dstOff x.dst y&&dstOff y.dst x&&dstsOff x.dst y.dst
def apartTo (y:AOper):Nat→List AOper→Bool
  |_,[]=>true
  |i,x :: r=>(y.bef.testBit i||x.apart y)&&apartTo y (i+1) r
def apartAll (past:List AOper):List AOper→Bool
  |[]=>true
  |y :: r=>apartTo y 0 past&&apartAll (past++[y]) r
def Edge.binds' (e:Edge):Bool:=Region.binds .any e
def befOf (past:List Nat) (o:Oper):Nat:=
  o.after.toList.foldl (fun b e=>if Edge.binds' e then (b ||| (1 <<< e.on)) ||| past.getD e.on 0 else b) 0
def befs (past:List Nat):List Oper→List Nat
  |[]=>past
  |o :: r=>befs (past++[befOf past o]) r
def befOK1 (bef:List Nat) (i:Nat) (o:Oper) (b:Nat):Bool:=
  (o.after.toList.all fun e=>!Edge.binds' e||Nat.blt e.on i) &&
  (List.range i).all fun j=>!b.testBit j||o.after.toList.any fun e=>Edge.binds' e&&(Nat.beq e.on j||(Nat.blt j e.on&&(bef.getD e.on 0).testBit j))
def befOK (bef:List Nat):Nat→List Oper→List Nat→Bool
  |_,[],_=>true
  |i,o :: r,b :: bs=>befOK1 bef i o b&&befOK bef (i+1) r bs
  |_,_ :: _,[]=>false
def regP (P : Program) (lib : Nat → Option TypeId) (nt : Nat) (rows : List (Nat × Nat)) (ops : Array Oper) (draw : Bool) : Option AC :=
  match draw with
  |false=>(opersP P lib nt rows ops (ops.toList.map fun o=>(o,0))).map fun l=>.region l false
  | true =>
    let b:=befs [] ops.toList
    match b.length==ops.size&&befOK b 0 ops.toList b,opersP P lib nt rows ops (ops.toList.zip b) with
    |true,some l=>if apartAll [] l then some (.region l true) else none
    |_,_=>none
def gb:Nat:=4294967296
def gid (l:Nat):Nat:=gb+2*l
def kid (l:Nat):Nat:=gb+2*l+1
def leaves (p:Nat→Bool):AC→Bool
  |.seq a b=>leaves p a&&leaves p b
  |.cond _ a b=>leaves p a&&leaves p b
  |.block _ c=>leaves p c
  |.loop c=>leaves p c
  |.exit id=>p id
  |_=>true
def lab1:Code→Option Nat
  |.label l=>some l
  |_=>none
def labOf : Code → Option Nat
  | .seq a b => match lab1 a with
    |some l=>some l
    |none=>labOf b
  |_=>none
def scopeA (l:Nat) (c:AC):Option AC:=
  match leaves (fun id=>Nat.blt id gb||Nat.beq id (gid l)) c with
  |true=>some (.block (kid l) (.loop (.block (gid l) (.seq c (.exit (kid l))))))
  |false=>none
def codeG (P : Program) (lib : Nat → Option TypeId) (nt : Nat) (rows : List (Nat × Nat)) : Code → Option Nat → Option AC
  | .seq a b, some l => match lab1 a with
    | some l' => match Nat.beq l' l, codeG P lib nt rows b none with
      |true,some c=>scopeA l c
      |_,_=>none
    | none => match findLabel a l, codeG P lib nt rows a none, codeG P lib nt rows b (some l) with
      |none,some a,some b=>if leaves (fun id=>Nat.blt id gb) a then some (.seq a b) else none
      |_,_,_=>none
  |.skip,none=>some .skip
  |.region _ ops draw,none=>regP P lib nt rows ops draw
  | .seq a b, none => match codeG P lib nt rows a none, codeG P lib nt rows b none with
    |some a,some b=>some (.seq a b)
    |_,_=>none
  | .cond c a b, none => match opd c, codeG P lib nt rows a none, codeG P lib nt rows b none with
    |some c,some a,some b=>some (.cond c a b)
    |_,_,_=>none
  | .block id c, none => match Nat.blt id gb with
    |true=>(codeG P lib nt rows c none).map (.block id)
    |false=>none
  |.loop c,none=>(codeG P lib nt rows c none).map .loop
  | .exit id, none => match Nat.blt id gb with
    |true=>some (.exit id)
    |false=>none
  |.goto l,none=>some (.exit (gid l))
  | .scope c, none => match labOf c with
    |some l=>codeG P lib nt rows c (some l)
    |none=>none
  |.ret,none=>some .ret
  |_,_=>none
def codeP (P:Program) (lib:Nat→Option TypeId) (nt:Nat) (rows:List (Nat×Nat)) (c:Code):Option AC:=codeG P lib nt rows c none
def resP (P : Program) : ResultVar → Option ARes
  |.tmp t=>some (.t t)
  | .cell a t => match sizeP P t, isAggP P t with
    |some sz,some agg=>if agg∨sz=1 then some (.cell a sz agg) else none
    |_,_=>none
def ressP (P : Program) : List ResultVar → Option (List ARes)
  |[]=>some []
  | x :: r => match resP P x, ressP P r with
    |some y,some ys=>some (y :: ys)
    |_,_=>none
structure Mode where
  rows:List (Nat×Nat)
  sh:Bool
  deriving Inhabited
def fnP (P : Program) (lib : Nat → Option TypeId) (md : Nat → Mode) (f : Nat) : Option AFn :=
  match P.funcs[f]? with
  |none=>none
  | some fn => match fn.body with
    |none=>none
    | some c =>
      if fn.name == "runtime.NumGoroutine" then none
      else match codeP P lib fn.ntmps (md f).rows c,ressP P fn.results.toList with
        | some b, some rs =>
          let np:=fn.params.size+fn.nfree
          if np≤fn.ntmps then some { np,nt:=fn.ntmps,res:=rs,body:=b,sh:=(md f).sh } else none
        |_,_=>none
end Go.Eng
