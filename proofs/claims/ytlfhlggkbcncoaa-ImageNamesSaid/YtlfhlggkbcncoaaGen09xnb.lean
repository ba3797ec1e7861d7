/- What the functions compute. -/
import Derived.Test.YtlfhlggkbcncoaaTab09xnb
namespace Go.Proofs.Ytlfhlggkbcncoaa
set_option linter.unusedVariables false
open Go Go.Eng Go.Sym
noncomputable section
@[reducible] def TRun:Ty:=(.prod (.int .i64) (.int .u64))
abbrev Run:Type:=(Int)×(Int)
@[reducible] def TField:Ty:=(.prod .str (.int .i64))
abbrev Field:Type:=(List UInt8)×(Int)
@[reducible] def TerrorAddressString:Ty:=(.prod .str (.int .u64))
abbrev errorAddressString:Type:=(List UInt8)×(Int)
@[reducible] def Textent:Ty:=(.prod (.int .i64) (.int .i64))
abbrev extent:Type:=(Int)×(Int)
@[reducible] def TCursor:Ty:=(.prod (.sl (.int .u8)) (.int .i64))
abbrev Cursor:Type:=(List (Int))×(Int)
@[reducible] def Treader:Ty:=(.prod TCursor (.int .i64))
abbrev reader:Type:=(Cursor)×(Int)
@[reducible] def Tuse:Ty:=(.prod (.int .i64) (.prod (.int .i64) (.prod .bool .bool)))
abbrev use:Type:=(Int)×((Int)×((Bool)×(Bool)))
@[reducible] def TboundsError:Ty:=(.prod (.int .i64) (.prod (.int .i64) (.prod .bool (.int .u8))))
abbrev boundsError:Type:=(Int)×((Int)×((Bool)×(Int)))
@[reducible] def TInstr:Ty:=(.prod (.int .u8) (.prod (.int .i64) Textent))
abbrev Instr:Type:=(Int)×((Int)×(extent))
@[reducible] def TGType:Ty:=(.prod (.int .u8) (.prod (.int .i64) (.prod (.int .i64) (.sl TField))))
abbrev GType:Type:=(Int)×((Int)×((Int)×(List (Field))))
@[reducible] def TFunc:Ty:=(.prod .str (.prod (.int .i64) (.prod (.int .i64) (.prod (.sl TField) (.prod (.sl TInstr) (.prod (.sl TRun) (.sl TRun)))))))
abbrev Func:Type:=(List UInt8)×((Int)×((Int)×((List (Field))×((List (Instr))×((List (Run))×(List (Run)))))))
@[reducible] def TImage:Ty:=(.prod (.sl TGType) (.prod (.sl .str) (.sl TFunc)))
abbrev Image:Type:=(List (GType))×((List (List UInt8))×(List (Func)))
def cuts:Nat→Nat→Option Outs:=fun _ _=>none
def ccut:Nat→Nat→Option Outs:=fun _ _=>none
def bcut:Nat→Nat→Option (Nat×Ty):=fun _ _=>none
def unr:Nat→Nat→Bool:=fun _ _=>false
def ety:Nat→Nat→Option Ty:=fun _ _=>none
namespace f98
def bcut:Nat→Nat→Option (Nat×Ty):=fun c i=>match c,i with
 |0,1=>some (4,.bool)
 |_,_=>none
def args:List PSh:=[.c (.int .i64),.c (.int .i64)]
def ta:List Ty:=[(.int .i64),(.int .i64)]
def res:List (Bool×List CSh):=[(false,[.bool])]
def tr:List Ty:=[.bool]
def E0 (N:Nat):SEnv:=SEnv.base tab cuts ccut bcut unr ety
theorem ok0 (N:Nat):EnvOK tab (E0 N):=base_ok tab cuts ccut bcut unr ety
end f98
def F98 (N:Nat) (x:(Int)×Int):Option (Bool):=fnRun (f98.E0 N) fuelW 98 f98.args f98.ta f98.res f98.tr 0 x
open f98 in
theorem F98_eq (N:Nat) (p0:Int) (p1:Int):F98 N (p0,p1) =
 (Option.bind ((bif (decide (p0≥(0:Int)))
 then some (decide (p0<p1))
 else some false)) fun b0=>
 some b0):=by kernel_rfl
def c98 (N:Nat):Sym.Callee:=⟨f98.args,f98.ta,f98.res,f98.tr,0,F98 N⟩
theorem ok98 (N:Nat):CalOK tab 98 (c98 N):=fn_ok (f98.ok0 N) fuelW 98 f98.args f98.ta f98.res f98.tr 0
namespace f116
def args:List PSh:=[.c (.int .i64)]
def ta:List Ty:=[(.int .i64)]
def res:List (Bool×List CSh):=[(false,[.bool])]
def tr:List Ty:=[.bool]
def E0 (N:Nat):SEnv:=SEnv.base tab cuts ccut bcut unr ety
theorem ok0 (N:Nat):EnvOK tab (E0 N):=base_ok tab cuts ccut bcut unr ety
end f116
def F116 (N:Nat) (x:Int):Option (Bool):=fnRun (f116.E0 N) fuelW 116 f116.args f116.ta f116.res f116.tr 0 x
open f116 in
theorem F116_eq (N:Nat) (p0:Int):F116 N p0 =
 some (p0 != (0:Int)):=by kernel_rfl
def c116 (N:Nat):Sym.Callee:=⟨f116.args,f116.ta,f116.res,f116.tr,0,F116 N⟩
theorem ok116 (N:Nat):CalOK tab 116 (c116 N):=fn_ok (f116.ok0 N) fuelW 116 f116.args f116.ta f116.res f116.tr 0
namespace f99
def args:List PSh:=[.c (.sl (.int .i64) .bor)]
def ta:List Ty:=[(.sl (.int .i64))]
def res:List (Bool×List CSh):=[(false,[.bool])]
def tr:List Ty:=[.bool]
def E0 (N:Nat):SEnv:=(SEnv.base tab cuts ccut bcut unr ety).addCal 116 (c116 N)
theorem ok0 (N:Nat):EnvOK tab (E0 N):=(base_ok tab cuts ccut bcut unr ety).addCal (ok116 N)
def T1004001007000_3:Tmpl:=⟨[(0,.c (.sl (.int .i64) .bor)),(1,.clo 116 []),(7,.c (.int .i64)),(8,.c (.int .i64))],[[],[]],[],3,[],0,[(.sl (.int .i64)),(.int .i64),(.int .i64)]⟩
def O1004001007000_3:Outs:=[(.ret,⟨[(4,.c (.int .i64))],[[],[]],[],3,[],0,[(.int .i64)]⟩),(.exit 0,⟨[],[[],[]],[],3,[],0,[]⟩)]
def L1004001007000_3 (N:Nat) (k:Nat) (x:(List (Int))×(Int)×Int):Option ((Int)⊕(Unit)):=loopF (loopStep (E0 N) fuelW 1004001007000 3 (bodyAt t119 3) T1004001007000_3 O1004001007000_3) k x
theorem L1004001007000_3_succ (N:Nat) (k:Nat) (v0:List (Int)) (v1:Int) (v2:Int):L1004001007000_3 N (k+1) (v0,v1,v2) =
 (bif (decide (v2<v1))
 then (Option.bind (idx v0 v2) fun x3=>
 (Option.bind (F116 N x3) fun y4=>
 (bif y4
 then some (Sum.inl v2)
 else L1004001007000_3 N k (v0,v1,(wi64 (v2+(1:Int)))))))
 else some (Sum.inr ())):=by kernel_rfl
def E1 (N:Nat):SEnv:=(E0 N).addLoop N 1004001007000 3 T1004001007000_3 O1004001007000_3
theorem ok1 (N:Nat):EnvOK tab (E1 N):=(ok0 N).addLoop N 1004001007000 3 T1004001007000_3 O1004001007000_3
end f99
def F99 (N:Nat) (x:List (Int)):Option (Bool):=fnRun (f99.E1 N) fuelW 99 f99.args f99.ta f99.res f99.tr 0 x
open f99 in
theorem F99_eq (N:Nat) (p0:List (Int)):F99 N p0 =
 (Option.bind (L1004001007000_3 N N (p0,(p0.length:Int),(0:Int))) fun y5=>
 (match y5 with
 |.inl a6=>some (!(decide (a6≥(0:Int))))
 |.inr b7=>some (!(decide ((-1:Int)≥(0:Int)))))):=by kernel_rfl
def c99 (N:Nat):Sym.Callee:=⟨f99.args,f99.ta,f99.res,f99.tr,0,F99 N⟩
theorem ok99 (N:Nat):CalOK tab 99 (c99 N):=fn_ok (f99.ok1 N) fuelW 99 f99.args f99.ta f99.res f99.tr 0
namespace f78
def bcut:Nat→Nat→Option (Nat×Ty):=fun c i=>match c,i with
 |0,1=>some (17,.bool)
 |0,11=>some (45,.bool)
 |_,_=>none
def args:List PSh:=[.c (.str)]
def ta:List Ty:=[.str]
def res:List (Bool×List CSh):=[(false,[.bool])]
def tr:List Ty:=[.bool]
def E0 (N:Nat):SEnv:=SEnv.base tab cuts ccut bcut unr ety
theorem ok0 (N:Nat):EnvOK tab (E0 N):=base_ok tab cuts ccut bcut unr ety
def T0_6:Tmpl:=⟨[(19,.c (.sl (.int .u8) .d)),(20,.c (.int .i64)),(21,.c (.int .i64))],[],[],1,[],0,[(.sl (.int .u8)),(.int .i64),(.int .i64)]⟩
def O0_6:Outs:=[(.ret,⟨[(2,.c (.bool))],[],[],1,[],0,[.bool]⟩),(.exit 0,⟨[],[],[],1,[],0,[]⟩)]
def L0_6 (N:Nat) (k:Nat) (x:(List (Int))×(Int)×Int):Option ((Bool)⊕(Unit)):=loopF (loopStep (E0 N) fuelW 0 6 (bodyAt t78 6) T0_6 O0_6) k x
theorem L0_6_succ (N:Nat) (k:Nat) (v2:List (Int)) (v3:Int) (v4:Int):L0_6 N (k+1) (v2,v3,v4) =
 (bif (decide (v4<v3))
 then (Option.bind (idx v2 v4) fun x5=>
 (Option.bind ((bif (decide ((ior .u8 x5 (32:Int))<(97:Int)))
 then (bif (decide (x5<(48:Int)))
 then some true
 else some (decide (x5>(57:Int))))
 else (bif (decide ((ior .u8 x5 (32:Int))>(122:Int)))
 then (bif (decide (x5<(48:Int)))
 then some true
 else some (decide (x5>(57:Int))))
 else (bif ((iand .u8 x5 (64:Int))==(0:Int))
 then (bif (decide (x5<(48:Int)))
 then some true
 else some (decide (x5>(57:Int))))
 else some false)))) fun b6=>
 (bif b6
 then some (Sum.inl false)
 else L0_6 N k (v2,v3,(wi64 (v4+(1:Int)))))))
 else some (Sum.inr ())):=by kernel_rfl
def E1 (N:Nat):SEnv:=(E0 N).addLoop N 0 6 T0_6 O0_6
theorem ok1 (N:Nat):EnvOK tab (E1 N):=(ok0 N).addLoop N 0 6 T0_6 O0_6
end f78
def F78 (N:Nat) (x:List UInt8):Option (Bool):=fnRun (f78.E1 N) fuelW 78 f78.args f78.ta f78.res f78.tr 0 x
open f78 in
theorem F78_eq (N:Nat) (p0:List UInt8):F78 N p0 =
 (Option.bind ((bif ((p0.length:Int)==(0:Int))
 then some true
 else (bif (decide ((p0.length:Int)>(16:Int)))
 then some true
 else (Option.bind (idx p0 (0:Int)) fun c0=>
 some (decide ((c0.toNat:Int)≤(57:Int))))))) fun b1=>
 (bif b1
 then some false
 else (Option.bind (L0_6 N N ((bytesL p0),((bytesL p0).length:Int),(0:Int))) fun y7=>
 (match y7 with
 |.inl a8=>some a8
 |.inr b9=>some true)))):=by kernel_rfl
def c78 (N:Nat):Sym.Callee:=⟨f78.args,f78.ta,f78.res,f78.tr,0,F78 N⟩
theorem ok78 (N:Nat):CalOK tab 78 (c78 N):=fn_ok (f78.ok1 N) fuelW 78 f78.args f78.ta f78.res f78.tr 0
namespace f75
def bcut:Nat→Nat→Option (Nat×Ty):=fun c i=>match c,i with
 |0,8=>some (16,.bool)
 |0,6=>some (16,.bool)
 |0,13=>some (29,.bool)
 |_,_=>none
def args:List PSh:=[.c (.sl TGType .bor),.c (.int .i64)]
def ta:List Ty:=[(.sl TGType),(.int .i64)]
def res:List (Bool×List CSh):=[(false,[.bool])]
def tr:List Ty:=[.bool]
def E0 (N:Nat):SEnv:=(((SEnv.base tab cuts ccut bcut unr ety).addCal 99 (c99 N)).addCal 98 (c98 N)).addCal 78 (c78 N)
theorem ok0 (N:Nat):EnvOK tab (E0 N):=(((base_ok tab cuts ccut bcut unr ety).addCal (ok99 N)).addCal (ok98 N)).addCal (ok78 N)
def T0_25:Tmpl:=⟨[(1,.c (.int .i64)),(5,.c (.ptr 0 5 0 0 0)),(6,.clo 98 []),(7,.c (.mp 0 70 1)),(72,.c (.sl TField .d)),(73,.c (.int .i64)),(74,.c (.int .i64))],[],[(0,5,.box 0 [.int .u8,.int .i64,.int .i64,.sl TField .d]),(0,70,.set 1)],1,[],2,[(.int .i64),(.sl TField),(.int .i64),(.int .i64),(.int .u8),(.int .i64),(.int .i64),(.sl TField),(.sl .str)]⟩
def O0_25:Outs:=[(.ret,⟨[(4,.c (.bool))],[],[],1,[],0,[.bool]⟩),(.exit 1,⟨[(5,.c (.ptr 0 5 0 0 0))],[],[(0,5,.box 0 [.int .u8,.int .i64,.int .i64,.sl TField .d])],1,[],1,[(.int .u8),(.int .i64),(.int .i64),(.sl TField)]⟩)]
def L0_25 (N:Nat) (k:Nat) (x:(Int)×(List (Field))×(Int)×(Int)×(Int)×(Int)×(Int)×(List (Field))×List (List UInt8)):Option ((Bool)⊕((Int)×(Int)×(Int)×List (Field))):=loopF (loopStep (E0 N) fuelW 0 25 (bodyAt t75 25) T0_25 O0_25) k x
theorem L0_25_succ (N:Nat) (k:Nat) (v10:Int) (v11:List (Field)) (v12:Int) (v13:Int) (v14:Int) (v15:Int) (v16:Int) (v17:List (Field)) (v18:List (List UInt8)):L0_25 N (k+1) (v10,v11,v12,v13,v14,v15,v16,v17,v18) =
 (bif (decide (v13<v12))
 then (Option.bind (idx v11 v13) fun x19=>
 (Option.bind (F78 N x19.1) fun y20=>
 (bif (!y20)
 then some (Sum.inl false)
 else (bif (hasB v18 x19.1)
 then some (Sum.inl false)
 else (Option.bind (F98 N (x19.2,v10)) fun y21=>
 (bif (!y21)
 then some (Sum.inl false)
 else L0_25 N k (v10,v11,v12,(wi64 (v13+(1:Int))),v14,v15,v16,v17,(addB v18 x19.1))))))))
 else some (Sum.inr (v14,v15,v16,v17))):=by kernel_rfl
def E1 (N:Nat):SEnv:=(E0 N).addLoop N 0 25 T0_25 O0_25
theorem ok1 (N:Nat):EnvOK tab (E1 N):=(ok0 N).addLoop N 0 25 T0_25 O0_25
end f75
def F75 (N:Nat) (x:(List (GType))×Int):Option (Bool):=fnRun (f75.E1 N) fuelW 75 f75.args f75.ta f75.res f75.tr 0 x
open f75 in
theorem F75_eq (N:Nat) (p0:List (GType)) (p1:Int):F75 N (p0,p1) =
 (Option.bind (idx p0 p1) fun x0=>
 (Option.bind ((bif (x0.1==(1:Int))
 then some true
 else (Option.bind ((bif (x0.1==(2:Int))
 then some true
 else some (x0.1==(3:Int)))) fun b1=>
 some b1))) fun b2=>
 (bif b2
 then (Option.bind (F99 N [x0.2.1,x0.2.2.1,(x0.2.2.2.length:Int)]) fun y3=>
 some y3)
 else (Option.bind ((bif (x0.1==(4:Int))
 then some true
 else some (x0.1==(7:Int)))) fun b4=>
 (bif b4
 then (Option.bind (F98 N (x0.2.1,(p0.length:Int))) fun y5=>
 (bif y5
 then (Option.bind (F99 N [x0.2.2.1,(x0.2.2.2.length:Int)]) fun y6=>
 some y6)
 else some false))
 else (bif (x0.1==(6:Int))
 then (Option.bind (F98 N (x0.2.1,p1)) fun y7=>
 (bif y7
 then (Option.bind (F98 N ((wi64 (x0.2.2.1-(1:Int))),(16:Int))) fun y8=>
 (bif y8
 then (Option.bind (F99 N [(x0.2.2.2.length:Int)]) fun y9=>
 some y9)
 else some false))
 else some false))
 else (bif (x0.1==(5:Int))
 then (Option.bind (L0_25 N N (p1,x0.2.2.2,(x0.2.2.2.length:Int),(0:Int),x0.1,x0.2.1,x0.2.2.1,x0.2.2.2,([]:List (List UInt8)))) fun y22=>
 (match y22 with
 |.inl a23=>some a23
 |.inr b24=>(Option.bind (F99 N [b24.2.1,b24.2.2.1]) fun y25=>
 (bif y25
 then (bif (decide ((b24.2.2.2.length:Int)>(0:Int)))
 then some (decide ((b24.2.2.2.length:Int)≤(8:Int)))
 else some false)
 else some false))))
 else some false))))))):=by kernel_rfl
def c75 (N:Nat):Sym.Callee:=⟨f75.args,f75.ta,f75.res,f75.tr,0,F75 N⟩
theorem ok75 (N:Nat):CalOK tab 75 (c75 N):=fn_ok (f75.ok1 N) fuelW 75 f75.args f75.ta f75.res f75.tr 0
namespace f76
def bcut:Nat→Nat→Option (Nat×Ty):=fun c i=>match c,i with
 |0,26=>some (7,(.int .i64))
 |0,23=>some (7,(.int .i64))
 |0,20=>some (7,(.int .i64))
 |_,_=>none
def ety:Nat→Nat→Option Ty:=fun c d=>match c,d with
 |0,12=>some (.int .i64)
 |0,17=>some (.int .i64)
 |_,_=>none
def args:List PSh:=[.c (.sl TGType .bor)]
def ta:List Ty:=[(.sl TGType)]
def res:List (Bool×List CSh):=[(false,[.sl (.int .i64) .d])]
def tr:List Ty:=[(.sl (.int .i64))]
def E0 (N:Nat):SEnv:=SEnv.base tab cuts ccut bcut unr ety
theorem ok0 (N:Nat):EnvOK tab (E0 N):=base_ok tab cuts ccut bcut unr ety
def T0_30:Tmpl:=⟨[(0,.c (.sl TGType .bor)),(3,.c (.ref 0 3 0 (.int .i64))),(4,.c (.ref 0 17 1 (.int .i64))),(5,.c (.int .i64)),(7,.c (.int .i64)),(13,.c (.int .i64)),(18,.c (.sl TGType .bor)),(19,.c (.int .i64)),(20,.c (.int .i64)),(59,.c (.sl TField .d)),(60,.c (.int .i64)),(61,.c (.int .i64))],[],[(0,3,.row 0 (.int .i64)),(0,17,.row 1 (.int .i64))],1,[],2,[(.sl TGType),(.int .i64),(.int .i64),(.int .i64),(.sl TGType),(.int .i64),(.int .i64),(.sl TField),(.int .i64),(.int .i64),(.sl (.int .i64)),(.sl (.int .i64))]⟩
def O0_30:Outs:=[(.exit 5,⟨[(0,.c (.sl TGType .bor)),(3,.c (.ref 0 3 0 (.int .i64))),(4,.c (.ref 0 17 1 (.int .i64))),(5,.c (.int .i64)),(7,.c (.int .i64)),(13,.c (.int .i64)),(18,.c (.sl TGType .bor)),(19,.c (.int .i64)),(20,.c (.int .i64))],[],[(0,3,.row 0 (.int .i64)),(0,17,.row 1 (.int .i64))],1,[],2,[(.sl TGType),(.int .i64),(.int .i64),(.int .i64),(.sl TGType),(.int .i64),(.int .i64),(.sl (.int .i64)),(.sl (.int .i64))]⟩)]
def L0_30 (N:Nat) (k:Nat) (x:(List (GType))×(Int)×(Int)×(Int)×(List (GType))×(Int)×(Int)×(List (Field))×(Int)×(Int)×(List (Int))×List (Int)):Option (((List (GType))×(Int)×(Int)×(Int)×(List (GType))×(Int)×(Int)×(List (Int))×List (Int))):=loopF (loopStep (E0 N) fuelW 0 30 (bodyAt t76 30) T0_30 O0_30) k x
theorem L0_30_succ (N:Nat) (k:Nat) (v17:List (GType)) (v18:Int) (v19:Int) (v20:Int) (v21:List (GType)) (v22:Int) (v23:Int) (v24:List (Field)) (v25:Int) (v26:Int) (v27:List (Int)) (v28:List (Int)):L0_30 N (k+1) (v17,v18,v19,v20,v21,v22,v23,v24,v25,v26,v27,v28) =
 (bif (decide (v26<v25))
 then (Option.bind (idx v24 v26) fun x29=>
 (chk (inR x29.2 v28.length)
 ((Option.bind (v28[(Int.toNat x29.2)]?) fun x30=>
 L0_30 N k (v17,v18,(wi64 (v19+x30)),v20,v21,v22,v23,v24,v25,(wi64 (v26+(1:Int))),v27,v28)))))
 else some (v17,v18,v19,v20,v21,v22,v23,v27,v28)):=by kernel_rfl
def E1 (N:Nat):SEnv:=(E0 N).addLoop N 0 30 T0_30 O0_30
theorem ok1 (N:Nat):EnvOK tab (E1 N):=(ok0 N).addLoop N 0 30 T0_30 O0_30
def T0_11:Tmpl:=⟨[(0,.c (.sl TGType .bor)),(3,.c (.ref 0 3 0 (.int .i64))),(4,.c (.ref 0 17 1 (.int .i64))),(13,.c (.int .i64)),(18,.c (.sl TGType .bor)),(19,.c (.int .i64)),(20,.c (.int .i64))],[],[(0,3,.row 0 (.int .i64)),(0,17,.row 1 (.int .i64))],1,[],2,[(.sl TGType),(.int .i64),(.sl TGType),(.int .i64),(.int .i64),(.sl (.int .i64)),(.sl (.int .i64))]⟩
def O0_11:Outs:=[(.exit 2,⟨[(0,.c (.sl TGType .bor)),(4,.c (.ref 0 17 0 (.int .i64))),(13,.c (.int .i64))],[],[(0,17,.row 0 (.int .i64))],1,[],1,[(.sl TGType),(.int .i64),(.sl (.int .i64))]⟩)]
def L0_11 (N:Nat) (k:Nat) (x:(List (GType))×(Int)×(List (GType))×(Int)×(Int)×(List (Int))×List (Int)):Option (((List (GType))×(Int)×List (Int))):=loopF (loopStep (E1 N) fuelW 0 11 (bodyAt t76 11) T0_11 O0_11) k x
theorem L0_11_succ (N:Nat) (k:Nat) (v3:List (GType)) (v4:Int) (v5:List (GType)) (v6:Int) (v7:Int) (v8:List (Int)) (v9:List (Int)):L0_11 N (k+1) (v3,v4,v5,v6,v7,v8,v9) =
 (bif (decide (v7<v6))
 then (Option.bind (idx v5 v7) fun x10=>
 (Option.bind ((bif (x10.1==(4:Int))
 then (chk (inR x10.2.1 v8.length)
 ((Option.bind (v8[(Int.toNat x10.2.1)]?) fun x11=>
 some (wi64 ((1:Int)+x11)))))
 else (Option.bind ((bif (x10.1==(7:Int))
 then (chk (inR x10.2.1 v8.length)
 ((Option.bind (v8[(Int.toNat x10.2.1)]?) fun x12=>
 some (wi64 ((1:Int)+(wi64 ((16:Int)*x12)))))))
 else (Option.bind ((bif (x10.1==(6:Int))
 then (chk (inR x10.2.1 v9.length)
 ((Option.bind (v9[(Int.toNat x10.2.1)]?) fun x13=>
 some (wi64 ((1:Int)+(wi64 (x10.2.2.1*x13)))))))
 else some (1:Int))) fun b14=>
 some b14))) fun b15=>
 some b15))) fun b16=>
 (Option.bind (L0_30 N N (v3,v7,b16,v4,v5,v6,v7,x10.2.2.2,(x10.2.2.2.length:Int),(0:Int),v8,v9)) fun y31=>
 (chk (inR y31.2.1 y31.2.2.2.2.2.2.2.2.length)
 ((Option.bind (y31.2.2.2.2.2.2.2.2[(Int.toNat y31.2.1)]?) fun x32=>
 L0_11 N k (y31.1,y31.2.2.2.1,y31.2.2.2.2.1,y31.2.2.2.2.2.1,(wi64 (y31.2.2.2.2.2.2.1+(1:Int))),y31.2.2.2.2.2.2.2.1,(y31.2.2.2.2.2.2.2.2.set (Int.toNat y31.2.1) (min y31.2.2.1 (5001:Int))))))))))
 else some (v3,v4,v9)):=by kernel_rfl
def E2 (N:Nat):SEnv:=(E1 N).addLoop N 0 11 T0_11 O0_11
theorem ok2 (N:Nat):EnvOK tab (E2 N):=(ok1 N).addLoop N 0 11 T0_11 O0_11
def T0_4:Tmpl:=⟨[(0,.c (.sl TGType .bor)),(3,.c (.ref 0 3 0 (.int .i64))),(13,.c (.int .i64))],[],[(0,3,.row 0 (.int .i64))],1,[],1,[(.sl TGType),(.int .i64),(.sl (.int .i64))]⟩
def O0_4:Outs:=[(.exit 0,⟨[(3,.c (.ref 0 3 0 (.int .i64)))],[],[(0,3,.row 0 (.int .i64))],1,[],1,[(.sl (.int .i64))]⟩)]
def L0_4 (N:Nat) (k:Nat) (x:(List (GType))×(Int)×List (Int)):Option ((List (Int))):=loopF (loopStep (E2 N) fuelW 0 4 (bodyAt t76 4) T0_4 O0_4) k x
theorem L0_4_succ (N:Nat) (k:Nat) (v0:List (GType)) (v1:Int) (v2:List (Int)):L0_4 N (k+1) (v0,v1,v2) =
 (bif (decide (v1<(4:Int)))
 then (chk (decide (0≤(v0.length:Int)))
 ((chk (decide (0≤(v0.length:Int)))
 ((chk (decide ((Int.toNat (v0.length:Int))≤(Int.toNat (v0.length:Int)))&&room (Int.toNat (v0.length:Int)) 8)
 ((Option.bind (L0_11 N N (v0,v1,v0,(v0.length:Int),(0:Int),v2,(List.replicate (Int.toNat (v0.length:Int)) (0:Int)))) fun y33=>
 L0_4 N k (y33.1,(wi64 (y33.2.1+(1:Int))),y33.2.2))))))))
 else some v2):=by kernel_rfl
def E3 (N:Nat):SEnv:=(E2 N).addLoop N 0 4 T0_4 O0_4
theorem ok3 (N:Nat):EnvOK tab (E3 N):=(ok2 N).addLoop N 0 4 T0_4 O0_4
end f76
def F76 (N:Nat) (x:List (GType)):Option (List (Int)):=fnRun (f76.E3 N) fuelW 76 f76.args f76.ta f76.res f76.tr 0 x
open f76 in
theorem F76_eq (N:Nat) (p0:List (GType)):F76 N p0 =
 (chk (decide (0≤(p0.length:Int)))
 ((chk (decide (0≤(p0.length:Int)))
 ((chk (decide ((Int.toNat (p0.length:Int))≤(Int.toNat (p0.length:Int)))&&room (Int.toNat (p0.length:Int)) 8)
 ((Option.bind (L0_4 N N (p0,(0:Int),(List.replicate (Int.toNat (p0.length:Int)) (0:Int)))) fun y34=>
 some y34))))))):=by kernel_rfl
def c76 (N:Nat):Sym.Callee:=⟨f76.args,f76.ta,f76.res,f76.tr,0,F76 N⟩
theorem ok76 (N:Nat):CalOK tab 76 (c76 N):=fn_ok (f76.ok3 N) fuelW 76 f76.args f76.ta f76.res f76.tr 0
namespace f51
def args:List PSh:=[.c (.sl TGType .bor)]
def ta:List Ty:=[(.sl TGType)]
def res:List (Bool×List CSh):=[(false,[.int .i64])]
def tr:List Ty:=[(.int .i64)]
def E0 (N:Nat):SEnv:=((SEnv.base tab cuts ccut bcut unr ety).addCal 75 (c75 N)).addCal 76 (c76 N)
theorem ok0 (N:Nat):EnvOK tab (E0 N):=((base_ok tab cuts ccut bcut unr ety).addCal (ok75 N)).addCal (ok76 N)
def T0_6:Tmpl:=⟨[(0,.c (.sl TGType .bor)),(10,.c (.int .i64)),(11,.c (.int .i64))],[],[],1,[],0,[(.sl TGType),(.int .i64),(.int .i64)]⟩
def O0_6:Outs:=[(.ret,⟨[(2,.c (.int .i64))],[],[],1,[],0,[(.int .i64)]⟩),(.exit 0,⟨[(0,.c (.sl TGType .bor))],[],[],1,[],0,[(.sl TGType)]⟩)]
def L0_6 (N:Nat) (k:Nat) (x:(List (GType))×(Int)×Int):Option ((Int)⊕(List (GType))):=loopF (loopStep (E0 N) fuelW 0 6 (bodyAt t51 6) T0_6 O0_6) k x
theorem L0_6_succ (N:Nat) (k:Nat) (v0:List (GType)) (v1:Int) (v2:Int):L0_6 N (k+1) (v0,v1,v2) =
 (bif (decide (v2<v1))
 then (Option.bind (F75 N (v0,v2)) fun y3=>
 (bif (!y3)
 then some (Sum.inl (8:Int))
 else L0_6 N k (v0,v1,(wi64 (v2+(1:Int))))))
 else some (Sum.inr v0)):=by kernel_rfl
def E1 (N:Nat):SEnv:=(E0 N).addLoop N 0 6 T0_6 O0_6
theorem ok1 (N:Nat):EnvOK tab (E1 N):=(ok0 N).addLoop N 0 6 T0_6 O0_6
def T0_17:Tmpl:=⟨[(20,.c (.sl (.int .i64) .d)),(21,.c (.int .i64)),(22,.c (.int .i64))],[],[],1,[],0,[(.sl (.int .i64)),(.int .i64),(.int .i64)]⟩
def O0_17:Outs:=[(.ret,⟨[(2,.c (.int .i64))],[],[],1,[],0,[(.int .i64)]⟩),(.exit 2,⟨[],[],[],1,[],0,[]⟩)]
def L0_17 (N:Nat) (k:Nat) (x:(List (Int))×(Int)×Int):Option ((Int)⊕(Unit)):=loopF (loopStep (E1 N) fuelW 0 17 (bodyAt t51 17) T0_17 O0_17) k x
theorem L0_17_succ (N:Nat) (k:Nat) (v8:List (Int)) (v9:Int) (v10:Int):L0_17 N (k+1) (v8,v9,v10) =
 (bif (decide (v10<v9))
 then (Option.bind (idx v8 v10) fun x11=>
 (bif (decide (x11>(5000:Int)))
 then some (Sum.inl (8:Int))
 else L0_17 N k (v8,v9,(wi64 (v10+(1:Int))))))
 else some (Sum.inr ())):=by kernel_rfl
def E2 (N:Nat):SEnv:=(E1 N).addLoop N 0 17 T0_17 O0_17
theorem ok2 (N:Nat):EnvOK tab (E2 N):=(ok1 N).addLoop N 0 17 T0_17 O0_17
end f51
def F51 (N:Nat) (x:List (GType)):Option (Int):=fnRun (f51.E2 N) fuelW 51 f51.args f51.ta f51.res f51.tr 0 x
open f51 in
theorem F51_eq (N:Nat) (p0:List (GType)):F51 N p0 =
 (bif (decide ((p0.length:Int)>(32:Int)))
 then some (8:Int)
 else (Option.bind (L0_6 N N (p0,(p0.length:Int),(0:Int))) fun y4=>
 (match y4 with
 |.inl a5=>some a5
 |.inr b6=>(Option.bind (F76 N b6) fun y7=>
 (Option.bind (L0_17 N N (y7,(y7.length:Int),(0:Int))) fun y12=>
 (match y12 with
 |.inl a13=>some a13
 |.inr b14=>some (0:Int))))))):=by kernel_rfl
def c51 (N:Nat):Sym.Callee:=⟨f51.args,f51.ta,f51.res,f51.tr,0,F51 N⟩
theorem ok51 (N:Nat):CalOK tab 51 (c51 N):=fn_ok (f51.ok2 N) fuelW 51 f51.args f51.ta f51.res f51.tr 0
namespace f117
def ety:Nat→Nat→Option Ty:=fun c d=>match c,d with
 |0,13=>some (.int .i64)
 |_,_=>none
def args:List PSh:=[.c (.sl Textent .bor),.c (.sl TField .bor)]
def ta:List Ty:=[(.sl Textent),(.sl TField)]
def res:List (Bool×List CSh):=[(false,[.sl (.int .i64) .d]),(true,[.int .i64,.int .i64])]
def tr:List Ty:=[(.sl (.int .i64)),(.int .i64),(.int .i64)]
def E0 (N:Nat):SEnv:=SEnv.base tab cuts ccut bcut unr ety
theorem ok0 (N:Nat):EnvOK tab (E0 N):=base_ok tab cuts ccut bcut unr ety
def T0_4:Tmpl:=⟨[(0,.c (.sl Textent .bor)),(5,.c (.ptr 0 5 0 0 0)),(6,.c (.ref 0 13 1 (.int .i64))),(7,.c (.ptr 0 7 2 0 0)),(15,.c (.sl TField .bor)),(16,.c (.int .i64)),(17,.c (.int .i64))],[],[(0,5,.box 0 [.int .i64,.int .i64]),(0,13,.row 1 (.int .i64)),(0,7,.box 2 [.int .i64,.int .i64])],1,[],3,[(.sl Textent),(.sl TField),(.int .i64),(.int .i64),(.int .i64),(.int .i64),(.sl (.int .i64)),(.int .i64),(.int .i64)]⟩
def O0_4:Outs:=[(.exit 0,⟨[(5,.c (.ptr 0 5 0 0 0)),(6,.c (.ref 0 13 1 (.int .i64))),(7,.c (.ptr 0 7 2 0 0))],[],[(0,5,.box 0 [.int .i64,.int .i64]),(0,13,.row 1 (.int .i64)),(0,7,.box 2 [.int .i64,.int .i64])],1,[],3,[(.int .i64),(.int .i64),(.sl (.int .i64)),(.int .i64),(.int .i64)]⟩)]
def L0_4 (N:Nat) (k:Nat) (x:(List (extent))×(List (Field))×(Int)×(Int)×(Int)×(Int)×(List (Int))×(Int)×Int):Option (((Int)×(Int)×(List (Int))×(Int)×Int)):=loopF (loopStep (E0 N) fuelW 0 4 (bodyAt t117 4) T0_4 O0_4) k x
theorem L0_4_succ (N:Nat) (k:Nat) (v0:List (extent)) (v1:List (Field)) (v2:Int) (v3:Int) (v4:Int) (v5:Int) (v6:List (Int)) (v7:Int) (v8:Int):L0_4 N (k+1) (v0,v1,v2,v3,v4,v5,v6,v7,v8) =
 (bif (decide (v3<v2))
 then (Option.bind (idx v1 v3) fun x9=>
 (Option.bind (idx v0 x9.2) fun x10=>
 (chk (inR v3 v6.length)
 ((Option.bind (v6[(Int.toNat v3)]?) fun x11=>
 (chk (inR v3 (v6.set (Int.toNat v3) (iandnot .i64 (wi64 ((wi64 (v7+x10.2))-(1:Int))) (wi64 (x10.2-(1:Int))))).length)
 ((Option.bind ((v6.set (Int.toNat v3) (iandnot .i64 (wi64 ((wi64 (v7+x10.2))-(1:Int))) (wi64 (x10.2-(1:Int)))))[(Int.toNat v3)]?) fun x12=>
 L0_4 N k (v0,v1,v2,(wi64 (v3+(1:Int))),v4,v5,(v6.set (Int.toNat v3) (iandnot .i64 (wi64 ((wi64 (v7+x10.2))-(1:Int))) (wi64 (x10.2-(1:Int))))),(min (1048576:Int) (wi64 (x12+x10.1))),(max v8 x10.2))))))))))
 else some (v4,v5,v6,v7,v8)):=by kernel_rfl
def E1 (N:Nat):SEnv:=(E0 N).addLoop N 0 4 T0_4 O0_4
theorem ok1 (N:Nat):EnvOK tab (E1 N):=(ok0 N).addLoop N 0 4 T0_4 O0_4
end f117
def F117 (N:Nat) (x:(List (extent))×List (Field)):Option ((List (Int))×(Int)×Int):=fnRun (f117.E1 N) fuelW 117 f117.args f117.ta f117.res f117.tr 0 x
open f117 in
theorem F117_eq (N:Nat) (p0:List (extent)) (p1:List (Field)):F117 N (p0,p1) =
 (chk (decide (0≤(p1.length:Int)))
 ((chk (decide (0≤(p1.length:Int)))
 ((chk (decide ((Int.toNat (p1.length:Int))≤(Int.toNat (p1.length:Int)))&&room (Int.toNat (p1.length:Int)) 8)
 ((Option.bind (L0_4 N N (p0,p1,(p1.length:Int),(0:Int),(0:Int),(0:Int),(List.replicate (Int.toNat (p1.length:Int)) (0:Int)),(0:Int),(1:Int))) fun y13=>
 some (y13.2.2.1,(iandnot .i64 (wi64 ((wi64 (y13.2.2.2.1+y13.2.2.2.2))-(1:Int))) (wi64 (y13.2.2.2.2-(1:Int)))),y13.2.2.2.2)))))))):=by kernel_rfl
def c117 (N:Nat):Sym.Callee:=⟨f117.args,f117.ta,f117.res,f117.tr,0,F117 N⟩
theorem ok117 (N:Nat):CalOK tab 117 (c117 N):=fn_ok (f117.ok1 N) fuelW 117 f117.args f117.ta f117.res f117.tr 0
namespace f100
def bcut:Nat→Nat→Option (Nat×Ty):=fun c i=>match c,i with
 |0,15=>some (25,.bool)
 |_,_=>none
def ety:Nat→Nat→Option Ty:=fun c d=>match c,d with
 |0,9=>some Textent
 |_,_=>none
def args:List PSh:=[.c (.sl TGType .bor)]
def ta:List Ty:=[(.sl TGType)]
def res:List (Bool×List CSh):=[(false,[.sl Textent .d])]
def tr:List Ty:=[(.sl Textent)]
def E0 (N:Nat):SEnv:=(SEnv.base tab cuts ccut bcut unr ety).addCal 117 (c117 N)
theorem ok0 (N:Nat):EnvOK tab (E0 N):=(base_ok tab cuts ccut bcut unr ety).addCal (ok117 N)
def T0_4:Tmpl:=⟨[(3,.c (.ref 0 9 0 Textent)),(10,.c (.sl TGType .bor)),(11,.c (.int .i64)),(12,.c (.int .i64))],[],[(0,9,.row 0 Textent)],1,[],1,[(.sl TGType),(.int .i64),(.int .i64),(.sl Textent)]⟩
def O0_4:Outs:=[(.exit 0,⟨[(3,.c (.ref 0 9 0 Textent))],[],[(0,9,.row 0 Textent)],1,[],1,[(.sl Textent)]⟩)]
def L0_4 (N:Nat) (k:Nat) (x:(List (GType))×(Int)×(Int)×List (extent)):Option ((List (extent))):=loopF (loopStep (E0 N) fuelW 0 4 (bodyAt t100 4) T0_4 O0_4) k x
theorem L0_4_succ (N:Nat) (k:Nat) (v0:List (GType)) (v1:Int) (v2:Int) (v3:List (extent)):L0_4 N (k+1) (v0,v1,v2,v3) =
 (bif (decide (v2<v1))
 then (Option.bind (idx v0 v2) fun x4=>
 (bif (x4.1==(1:Int))
 then (chk (inR v2 v3.length)
 ((Option.bind (v3[(Int.toNat v2)]?) fun x5=>
 L0_4 N k (v0,v1,(wi64 (v2+(1:Int))),(v3.set (Int.toNat v2) ((1:Int),(1:Int)))))))
 else (Option.bind ((bif (x4.1==(2:Int))
 then some true
 else some (x4.1==(4:Int)))) fun b6=>
 (bif b6
 then (chk (inR v2 v3.length)
 ((Option.bind (v3[(Int.toNat v2)]?) fun x7=>
 L0_4 N k (v0,v1,(wi64 (v2+(1:Int))),(v3.set (Int.toNat v2) ((8:Int),(8:Int)))))))
 else (bif (x4.1==(3:Int))
 then (chk (inR v2 v3.length)
 ((Option.bind (v3[(Int.toNat v2)]?) fun x8=>
 L0_4 N k (v0,v1,(wi64 (v2+(1:Int))),(v3.set (Int.toNat v2) ((16:Int),(8:Int)))))))
 else (bif (x4.1==(7:Int))
 then (chk (inR v2 v3.length)
 ((Option.bind (v3[(Int.toNat v2)]?) fun x9=>
 L0_4 N k (v0,v1,(wi64 (v2+(1:Int))),(v3.set (Int.toNat v2) ((24:Int),(8:Int)))))))
 else (bif (x4.1==(6:Int))
 then (chk (inR x4.2.1 v3.length)
 ((Option.bind (v3[(Int.toNat x4.2.1)]?) fun x10=>
 (chk (inR v2 v3.length)
 ((Option.bind (v3[(Int.toNat v2)]?) fun x11=>
 L0_4 N k (v0,v1,(wi64 (v2+(1:Int))),(v3.set (Int.toNat v2) ((min (1048576:Int) (wi64 (x4.2.2.1*x10.1))),x10.2)))))))))
 else (bif (x4.1==(5:Int))
 then (Option.bind (F117 N (v3,x4.2.2.2)) fun y12=>
 (chk (inR v2 v3.length)
 ((Option.bind (v3[(Int.toNat v2)]?) fun x13=>
 L0_4 N k (v0,v1,(wi64 (v2+(1:Int))),(v3.set (Int.toNat v2) y12.2))))))
 else L0_4 N k (v0,v1,(wi64 (v2+(1:Int))),v3)))))))))
 else some v3):=by kernel_rfl
def E1 (N:Nat):SEnv:=(E0 N).addLoop N 0 4 T0_4 O0_4
theorem ok1 (N:Nat):EnvOK tab (E1 N):=(ok0 N).addLoop N 0 4 T0_4 O0_4
end f100
def F100 (N:Nat) (x:List (GType)):Option (List (extent)):=fnRun (f100.E1 N) fuelW 100 f100.args f100.ta f100.res f100.tr 0 x
open f100 in
theorem F100_eq (N:Nat) (p0:List (GType)):F100 N p0 =
 (chk (decide (0≤(p0.length:Int)))
 ((chk (decide (0≤(p0.length:Int)))
 ((chk (decide ((Int.toNat (p0.length:Int))≤(Int.toNat (p0.length:Int)))&&room (Int.toNat (p0.length:Int)) 16)
 ((Option.bind (L0_4 N N (p0,(p0.length:Int),(0:Int),(List.replicate (Int.toNat (p0.length:Int)) ((0:Int),(0:Int))))) fun y14=>
 some y14))))))):=by kernel_rfl
def c100 (N:Nat):Sym.Callee:=⟨f100.args,f100.ta,f100.res,f100.tr,0,F100 N⟩
theorem ok100 (N:Nat):CalOK tab 100 (c100 N):=fn_ok (f100.ok1 N) fuelW 100 f100.args f100.ta f100.res f100.tr 0
namespace f77
def bcut:Nat→Nat→Option (Nat×Ty):=fun c i=>match c,i with
 |0,5=>some (20,.bool)
 |_,_=>none
def args:List PSh:=[.c (.sl TGType .bor),.c (.int .i64)]
def ta:List Ty:=[(.sl TGType),(.int .i64)]
def res:List (Bool×List CSh):=[(false,[.sl Textent .d]),(false,[.int .i64])]
def tr:List Ty:=[(.sl Textent),(.int .i64)]
def E0 (N:Nat):SEnv:=((SEnv.base tab cuts ccut bcut unr ety).addCal 51 (c51 N)).addCal 100 (c100 N)
theorem ok0 (N:Nat):EnvOK tab (E0 N):=((base_ok tab cuts ccut bcut unr ety).addCal (ok51 N)).addCal (ok100 N)
end f77
def F77 (N:Nat) (x:(List (GType))×Int):Option ((List (extent))×Int):=fnRun (f77.E0 N) fuelW 77 f77.args f77.ta f77.res f77.tr 0 x
open f77 in
theorem F77_eq (N:Nat) (p0:List (GType)) (p1:Int):F77 N (p0,p1) =
 (Option.bind (F51 N p0) fun y0=>
 (bif (y0 != (0:Int))
 then some ([],y0)
 else (Option.bind ((bif (decide (p1<(0:Int)))
 then some true
 else some (decide (p1≥(p0.length:Int))))) fun b1=>
 (bif b1
 then some ([],(2:Int))
 else (Option.bind (F100 N p0) fun y2=>
 (Option.bind (idx y2 p1) fun x3=>
 (bif (decide (x3.1>(256:Int)))
 then some ([],(16:Int))
 else some (y2,(0:Int))))))))):=by kernel_rfl
def c77 (N:Nat):Sym.Callee:=⟨f77.args,f77.ta,f77.res,f77.tr,0,F77 N⟩
theorem ok77 (N:Nat):CalOK tab 77 (c77 N):=fn_ok (f77.ok0 N) fuelW 77 f77.args f77.ta f77.res f77.tr 0
namespace f52
def args:List PSh:=[.c (.sl TGType .bor),.c (.int .i64)]
def ta:List Ty:=[(.sl TGType),(.int .i64)]
def res:List (Bool×List CSh):=[(false,[.int .i64]),(false,[.int .i64]),(false,[.int .i64])]
def tr:List Ty:=[(.int .i64),(.int .i64),(.int .i64)]
def E0 (N:Nat):SEnv:=(SEnv.base tab cuts ccut bcut unr ety).addCal 77 (c77 N)
theorem ok0 (N:Nat):EnvOK tab (E0 N):=(base_ok tab cuts ccut bcut unr ety).addCal (ok77 N)
end f52
def F52 (N:Nat) (x:(List (GType))×Int):Option ((Int)×(Int)×Int):=fnRun (f52.E0 N) fuelW 52 f52.args f52.ta f52.res f52.tr 0 x
open f52 in
theorem F52_eq (N:Nat) (p0:List (GType)) (p1:Int):F52 N (p0,p1) =
 (Option.bind (F77 N (p0,p1)) fun y0=>
 (bif (y0.2 != (0:Int))
 then some ((0:Int),(0:Int),y0.2)
 else (Option.bind (idx y0.1 p1) fun x1=>
 (Option.bind (idx y0.1 p1) fun x2=>
 some (x1.1,x2.2,(0:Int)))))):=by kernel_rfl
def c52 (N:Nat):Sym.Callee:=⟨f52.args,f52.ta,f52.res,f52.tr,0,F52 N⟩
theorem ok52 (N:Nat):CalOK tab 52 (c52 N):=fn_ok (f52.ok0 N) fuelW 52 f52.args f52.ta f52.res f52.tr 0
namespace f79
def args:List PSh:=[.c (.sl TField .bor)]
def ta:List Ty:=[(.sl TField)]
def res:List (Bool×List CSh):=[(false,[.bool])]
def tr:List Ty:=[.bool]
def E0 (N:Nat):SEnv:=(SEnv.base tab cuts ccut bcut unr ety).addCal 78 (c78 N)
theorem ok0 (N:Nat):EnvOK tab (E0 N):=(base_ok tab cuts ccut bcut unr ety).addCal (ok78 N)
def T1021001007000_3:Tmpl:=⟨[(0,.c (.sl TField .bor)),(1,.clo 102 [.ptr 0 4 0 0 0]),(7,.c (.int .i64)),(8,.c (.int .i64))],[[],[]],[(0,4,.box 0 [.str,.int .i64])],3,[],1,[(.sl TField),(.int .i64),(.int .i64),.str,(.int .i64)]⟩
def O1021001007000_3:Outs:=[(.ret,⟨[(4,.c (.int .i64))],[[],[]],[],3,[],0,[(.int .i64)]⟩),(.exit 0,⟨[],[[],[]],[],3,[],0,[]⟩)]
def L1021001007000_3 (N:Nat) (k:Nat) (x:(List (Field))×(Int)×(Int)×(List UInt8)×Int):Option ((Int)⊕(Unit)):=loopF (loopStep (E0 N) fuelW 1021001007000 3 (bodyAt t118 3) T1021001007000_3 O1021001007000_3) k x
theorem L1021001007000_3_succ (N:Nat) (k:Nat) (v6:List (Field)) (v7:Int) (v8:Int) (v9:List UInt8) (v10:Int):L1021001007000_3 N (k+1) (v6,v7,v8,v9,v10) =
 (bif (decide (v8<v7))
 then (Option.bind (idx v6 v8) fun x11=>
 (bif (x11.1==v9)
 then some (Sum.inl v8)
 else L1021001007000_3 N k (v6,v7,(wi64 (v8+(1:Int))),v9,v10)))
 else some (Sum.inr ())):=by kernel_rfl
def E1 (N:Nat):SEnv:=(E0 N).addLoop N 1021001007000 3 T1021001007000_3 O1021001007000_3
theorem ok1 (N:Nat):EnvOK tab (E1 N):=(ok0 N).addLoop N 1021001007000 3 T1021001007000_3 O1021001007000_3
def T0_3:Tmpl:=⟨[(0,.c (.sl TField .bor)),(5,.c (.sl TField .bor)),(6,.c (.int .i64)),(7,.c (.int .i64))],[],[],1,[],0,[(.sl TField),(.sl TField),(.int .i64),(.int .i64)]⟩
def O0_3:Outs:=[(.ret,⟨[(2,.c (.bool))],[],[],1,[],0,[.bool]⟩),(.exit 0,⟨[],[],[],1,[],0,[]⟩)]
def L0_3 (N:Nat) (k:Nat) (x:(List (Field))×(List (Field))×(Int)×Int):Option ((Bool)⊕(Unit)):=loopF (loopStep (E1 N) fuelW 0 3 (bodyAt t79 3) T0_3 O0_3) k x
theorem L0_3_succ (N:Nat) (k:Nat) (v0:List (Field)) (v1:List (Field)) (v2:Int) (v3:Int):L0_3 N (k+1) (v0,v1,v2,v3) =
 (bif (decide (v3<v2))
 then (Option.bind (idx v1 v3) fun x4=>
 (Option.bind (F78 N x4.1) fun y5=>
 (bif (!y5)
 then some (Sum.inl false)
 else (chk (decide (0≤v3))
 ((chk (decide ((Int.toNat v3)≤v0.length))
 ((Option.bind (L1021001007000_3 N N ((v0.take (Int.toNat v3)),((v0.take (Int.toNat v3)).length:Int),(0:Int),x4.1,x4.2)) fun y12=>
 (match y12 with
 |.inl a13=>(bif (decide (a13≥(0:Int)))
 then some (Sum.inl false)
 else L0_3 N k (v0,v1,v2,(wi64 (v3+(1:Int)))))
 |.inr b14=>L0_3 N k (v0,v1,v2,(wi64 (v3+(1:Int)))))))))))))
 else some (Sum.inr ())):=by kernel_rfl
def E2 (N:Nat):SEnv:=(E1 N).addLoop N 0 3 T0_3 O0_3
theorem ok2 (N:Nat):EnvOK tab (E2 N):=(ok1 N).addLoop N 0 3 T0_3 O0_3
end f79
def F79 (N:Nat) (x:List (Field)):Option (Bool):=fnRun (f79.E2 N) fuelW 79 f79.args f79.ta f79.res f79.tr 0 x
open f79 in
theorem F79_eq (N:Nat) (p0:List (Field)):F79 N p0 =
 (Option.bind (L0_3 N N (p0,p0,(p0.length:Int),(0:Int))) fun y15=>
 (match y15 with
 |.inl a16=>some a16
 |.inr b17=>some true)):=by kernel_rfl
def c79 (N:Nat):Sym.Callee:=⟨f79.args,f79.ta,f79.res,f79.tr,0,F79 N⟩
theorem ok79 (N:Nat):CalOK tab 79 (c79 N):=fn_ok (f79.ok2 N) fuelW 79 f79.args f79.ta f79.res f79.tr 0
namespace f106
def args:List PSh:=[]
def ta:List Ty:=[]
def res:List (Bool×List CSh):=[(true,[.int .i64,.int .i64,.bool,.bool])]
def tr:List Ty:=[(.int .i64),(.int .i64),.bool,.bool]
def E0 (N:Nat):SEnv:=SEnv.base tab cuts ccut bcut unr ety
theorem ok0 (N:Nat):EnvOK tab (E0 N):=base_ok tab cuts ccut bcut unr ety
end f106
def F106 (N:Nat) (x:Unit):Option ((Int)×(Int)×(Bool)×Bool):=fnRun (f106.E0 N) fuelW 106 f106.args f106.ta f106.res f106.tr 0 x
open f106 in
theorem F106_eq (N:Nat):F106 N () =
 some ((0:Int),(15:Int),false,true):=by kernel_rfl
def c106 (N:Nat):Sym.Callee:=⟨f106.args,f106.ta,f106.res,f106.tr,0,F106 N⟩
theorem ok106 (N:Nat):CalOK tab 106 (c106 N):=fn_ok (f106.ok0 N) fuelW 106 f106.args f106.ta f106.res f106.tr 0
namespace f107
def args:List PSh:=[]
def ta:List Ty:=[]
def res:List (Bool×List CSh):=[(true,[.int .i64,.int .i64,.bool,.bool])]
def tr:List Ty:=[(.int .i64),(.int .i64),.bool,.bool]
def E0 (N:Nat):SEnv:=SEnv.base tab cuts ccut bcut unr ety
theorem ok0 (N:Nat):EnvOK tab (E0 N):=base_ok tab cuts ccut bcut unr ety
end f107
def F107 (N:Nat) (x:Unit):Option ((Int)×(Int)×(Bool)×Bool):=fnRun (f107.E0 N) fuelW 107 f107.args f107.ta f107.res f107.tr 0 x
open f107 in
theorem F107_eq (N:Nat):F107 N () =
 some ((-9223372036854775808:Int),(9223372036854775807:Int),false,false):=by kernel_rfl
def c107 (N:Nat):Sym.Callee:=⟨f107.args,f107.ta,f107.res,f107.tr,0,F107 N⟩
theorem ok107 (N:Nat):CalOK tab 107 (c107 N):=fn_ok (f107.ok0 N) fuelW 107 f107.args f107.ta f107.res f107.tr 0
namespace f108
def args:List PSh:=[.c (.int .i64)]
def ta:List Ty:=[(.int .i64)]
def res:List (Bool×List CSh):=[(true,[.int .i64,.int .i64,.bool,.bool])]
def tr:List Ty:=[(.int .i64),(.int .i64),.bool,.bool]
def E0 (N:Nat):SEnv:=SEnv.base tab cuts ccut bcut unr ety
theorem ok0 (N:Nat):EnvOK tab (E0 N):=base_ok tab cuts ccut bcut unr ety
end f108
def F108 (N:Nat) (x:Int):Option ((Int)×(Int)×(Bool)×Bool):=fnRun (f108.E0 N) fuelW 108 f108.args f108.ta f108.res f108.tr 0 x
open f108 in
theorem F108_eq (N:Nat) (p0:Int):F108 N p0 =
 some ((0:Int),(wi64 (p0-(1:Int))),false,false):=by kernel_rfl
def c108 (N:Nat):Sym.Callee:=⟨f108.args,f108.ta,f108.res,f108.tr,0,F108 N⟩
theorem ok108 (N:Nat):CalOK tab 108 (c108 N):=fn_ok (f108.ok0 N) fuelW 108 f108.args f108.ta f108.res f108.tr 0
namespace f109
def args:List PSh:=[]
def ta:List Ty:=[]
def res:List (Bool×List CSh):=[(true,[.int .i64,.int .i64,.bool,.bool])]
def tr:List Ty:=[(.int .i64),(.int .i64),.bool,.bool]
def E0 (N:Nat):SEnv:=SEnv.base tab cuts ccut bcut unr ety
theorem ok0 (N:Nat):EnvOK tab (E0 N):=base_ok tab cuts ccut bcut unr ety
end f109
def F109 (N:Nat) (x:Unit):Option ((Int)×(Int)×(Bool)×Bool):=fnRun (f109.E0 N) fuelW 109 f109.args f109.ta f109.res f109.tr 0 x
open f109 in
theorem F109_eq (N:Nat):F109 N () =
 some ((0:Int),(15:Int),true,false):=by kernel_rfl
def c109 (N:Nat):Sym.Callee:=⟨f109.args,f109.ta,f109.res,f109.tr,0,F109 N⟩
theorem ok109 (N:Nat):CalOK tab 109 (c109 N):=fn_ok (f109.ok0 N) fuelW 109 f109.args f109.ta f109.res f109.tr 0
namespace f83
def bcut:Nat→Nat→Option (Nat×Ty):=fun c i=>match c,i with
 |0,24=>some (7,.bool)
 |0,34=>some (16,.bool)
 |0,48=>some (19,.bool)
 |0,46=>some (19,.bool)
 |0,44=>some (19,.bool)
 |0,42=>some (19,.bool)
 |0,40=>some (19,.bool)
 |0,38=>some (19,.bool)
 |0,60=>some (27,.bool)
 |0,58=>some (27,.bool)
 |0,56=>some (27,.bool)
 |0,54=>some (27,.bool)
 |0,52=>some (27,.bool)
 |0,78=>some (46,.bool)
 |0,76=>some (46,.bool)
 |0,84=>some (52,.bool)
 |_,_=>none
def ety:Nat→Nat→Option Ty:=fun c d=>match c,d with
 |0,62=>some Tuse
 |0,67=>some Tuse
 |0,72=>some Tuse
 |0,76=>some Tuse
 |0,91=>some Tuse
 |0,97=>some Tuse
 |0,103=>some Tuse
 |0,108=>some Tuse
 |0,112=>some Tuse
 |0,117=>some Tuse
 |0,121=>some Tuse
 |0,126=>some Tuse
 |0,132=>some Tuse
 |0,137=>some Tuse
 |0,141=>some Tuse
 |_,_=>none
def args:List PSh:=[.c (.int .u8)]
def ta:List Ty:=[(.int .u8)]
def res:List (Bool×List CSh):=[(true,[.int .i64,.int .i64,.bool,.bool,.int .i64,.int .i64,.bool,.bool,.int .i64,.int .i64,.bool,.bool]),(false,[.int .i64])]
def tr:List Ty:=[(.int .i64),(.int .i64),.bool,.bool,(.int .i64),(.int .i64),.bool,.bool,(.int .i64),(.int .i64),.bool,.bool,(.int .i64)]
def E0 (N:Nat):SEnv:=((((SEnv.base tab cuts ccut bcut unr ety).addCal 106 (c106 N)).addCal 107 (c107 N)).addCal 108 (c108 N)).addCal 109 (c109 N)
theorem ok0 (N:Nat):EnvOK tab (E0 N):=((((base_ok tab cuts ccut bcut unr ety).addCal (ok106 N)).addCal (ok107 N)).addCal (ok108 N)).addCal (ok109 N)
end f83
def F83 (N:Nat) (x:Int):Option ((Int)×(Int)×(Bool)×(Bool)×(Int)×(Int)×(Bool)×(Bool)×(Int)×(Int)×(Bool)×(Bool)×Int):=fnRun (f83.E0 N) fuelW 83 f83.args f83.ta f83.res f83.tr 0 x
open f83 in
theorem F83_eq (N:Nat) (p0:Int):F83 N p0 =
 (Option.bind ((bif (p0==(30:Int))
 then some true
 else some (p0==(31:Int)))) fun b0=>
 (bif b0
 then some ((0:Int),(0:Int),false,false,(0:Int),(0:Int),false,false,(0:Int),(0:Int),false,false,(0:Int))
 else (bif (p0==(1:Int))
 then (Option.bind (F106 N ()) fun y1=>
 (Option.bind (F107 N ()) fun y2=>
 some (y1.1,y1.2.1,y1.2.2.1,y1.2.2.2,y2.1,y2.2.1,y2.2.2.1,y2.2.2.2,(0:Int),(0:Int),false,false,(2:Int))))
 else (bif (p0==(2:Int))
 then (Option.bind (F106 N ()) fun y3=>
 (Option.bind (F108 N (32:Int)) fun y4=>
 some (y3.1,y3.2.1,y3.2.2.1,y3.2.2.2,y4.1,y4.2.1,y4.2.2.1,y4.2.2.2,(0:Int),(0:Int),false,false,(2:Int))))
 else (bif (p0==(3:Int))
 then (Option.bind (F106 N ()) fun y5=>
 (Option.bind (F108 N (2:Int)) fun y6=>
 some (y5.1,y5.2.1,y5.2.2.1,y5.2.2.2,y6.1,y6.2.1,y6.2.2.1,y6.2.2.2,(0:Int),(0:Int),false,false,(2:Int))))
 else (Option.bind ((bif (p0==(4:Int))
 then some true
 else some (p0==(15:Int)))) fun b7=>
 (bif b7
 then (Option.bind (F106 N ()) fun y8=>
 some (y8.1,y8.2.1,y8.2.2.1,y8.2.2.2,(0:Int),(0:Int),false,false,(0:Int),(0:Int),false,false,(1:Int)))
 else (Option.bind ((bif (p0==(6:Int))
 then some true
 else (Option.bind ((bif (p0==(7:Int))
 then some true
 else (Option.bind ((bif (p0==(8:Int))
 then some true
 else (Option.bind ((bif (p0==(9:Int))
 then some true
 else (Option.bind ((bif (p0==(10:Int))
 then some true
 else (Option.bind ((bif (p0==(11:Int))
 then some true
 else some (p0==(19:Int)))) fun b9=>
 some b9))) fun b10=>
 some b10))) fun b11=>
 some b11))) fun b12=>
 some b12))) fun b13=>
 some b13))) fun b14=>
 (bif b14
 then (Option.bind (F109 N ()) fun y15=>
 (Option.bind (F106 N ()) fun y16=>
 (Option.bind (F109 N ()) fun y17=>
 (bif y15.2.2.1
 then some (y16.1,y16.2.1,y16.2.2.1,y16.2.2.2,y17.1,y17.2.1,y17.2.2.1,y17.2.2.2,y15.1,y15.2.1,y15.2.2.1,y15.2.2.2,(3:Int))
 else some (y16.1,y16.2.1,y16.2.2.1,y16.2.2.2,y17.1,y17.2.1,y17.2.2.1,y17.2.2.2,y15.1,y15.2.1,y15.2.2.1,y15.2.2.2,(2:Int))))))
 else (Option.bind ((bif (p0==(5:Int))
 then some true
 else (Option.bind ((bif (p0==(12:Int))
 then some true
 else (Option.bind ((bif (p0==(16:Int))
 then some true
 else (Option.bind ((bif (p0==(18:Int))
 then some true
 else (Option.bind ((bif (p0==(21:Int))
 then some true
 else some (p0==(33:Int)))) fun b18=>
 some b18))) fun b19=>
 some b19))) fun b20=>
 some b20))) fun b21=>
 some b21))) fun b22=>
 (bif b22
 then (Option.bind (F106 N ()) fun y23=>
 (Option.bind (F109 N ()) fun y24=>
 some (y23.1,y23.2.1,y23.2.2.1,y23.2.2.2,y24.1,y24.2.1,y24.2.2.1,y24.2.2.2,(0:Int),(0:Int),false,false,(2:Int))))
 else (bif (p0==(13:Int))
 then (Option.bind (F106 N ()) fun y25=>
 (Option.bind (F109 N ()) fun y26=>
 (Option.bind (F108 N (8:Int)) fun y27=>
 some (y25.1,y25.2.1,y25.2.2.1,y25.2.2.2,y26.1,y26.2.1,y26.2.2.1,y26.2.2.2,y27.1,y27.2.1,y27.2.2.1,y27.2.2.2,(3:Int)))))
 else (bif (p0==(14:Int))
 then (Option.bind (F109 N ()) fun y28=>
 (Option.bind (F108 N (8:Int)) fun y29=>
 (Option.bind (F109 N ()) fun y30=>
 some (y28.1,y28.2.1,y28.2.2.1,y28.2.2.2,y29.1,y29.2.1,y29.2.2.1,y29.2.2.2,y30.1,y30.2.1,y30.2.2.1,y30.2.2.2,(3:Int)))))
 else (bif (p0==(20:Int))
 then (Option.bind (F109 N ()) fun y31=>
 (Option.bind (F109 N ()) fun y32=>
 (Option.bind (F109 N ()) fun y33=>
 some (y31.1,y31.2.1,y31.2.2.1,y31.2.2.2,y32.1,y32.2.1,y32.2.2.1,y32.2.2.2,y33.1,y33.2.1,y33.2.2.1,y33.2.2.2,(3:Int)))))
 else (bif (p0==(17:Int))
 then (Option.bind (F109 N ()) fun y34=>
 (Option.bind (F109 N ()) fun y35=>
 some (y34.1,y34.2.1,y34.2.2.1,y34.2.2.2,y35.1,y35.2.1,y35.2.2.1,y35.2.2.2,(0:Int),(0:Int),false,false,(2:Int))))
 else (bif (p0==(22:Int))
 then (Option.bind (F108 N (200:Int)) fun y36=>
 some (y36.1,y36.2.1,y36.2.2.1,y36.2.2.2,(0:Int),(0:Int),false,false,(0:Int),(0:Int),false,false,(1:Int)))
 else (bif (p0==(23:Int))
 then (Option.bind (F109 N ()) fun y37=>
 (Option.bind (F108 N (200:Int)) fun y38=>
 some (y37.1,y37.2.1,y37.2.2.1,y37.2.2.2,y38.1,y38.2.1,y38.2.2.1,y38.2.2.2,(0:Int),(0:Int),false,false,(2:Int))))
 else (Option.bind ((bif (p0==(24:Int))
 then some true
 else (Option.bind ((bif (p0==(28:Int))
 then some true
 else some (p0==(32:Int)))) fun b39=>
 some b39))) fun b40=>
 (bif b40
 then (Option.bind (F109 N ()) fun y41=>
 some (y41.1,y41.2.1,y41.2.2.1,y41.2.2.2,(0:Int),(0:Int),false,false,(0:Int),(0:Int),false,false,(1:Int)))
 else (bif (p0==(25:Int))
 then (Option.bind (F106 N ()) fun y42=>
 (Option.bind (F108 N (32:Int)) fun y43=>
 some ((-1:Int),y42.2.1,y42.2.2.1,y42.2.2.2,y43.1,y43.2.1,y43.2.2.1,y43.2.2.2,(0:Int),(0:Int),false,false,(2:Int))))
 else (Option.bind ((bif (p0==(26:Int))
 then some true
 else some (p0==(27:Int)))) fun b44=>
 (bif b44
 then (Option.bind (F108 N (32:Int)) fun y45=>
 some (y45.1,y45.2.1,y45.2.2.1,y45.2.2.2,(0:Int),(0:Int),false,false,(0:Int),(0:Int),false,false,(1:Int)))
 else (bif (p0==(29:Int))
 then (Option.bind (F106 N ()) fun y46=>
 (Option.bind (F106 N ()) fun y47=>
 some (y46.1,y46.2.1,y46.2.2.1,y46.2.2.2,y47.1,y47.2.1,y47.2.2.1,y47.2.2.2,(0:Int),(0:Int),false,false,(2:Int))))
 else (bif (p0==(34:Int))
 then (Option.bind (F109 N ()) fun y48=>
 some ((-1:Int),y48.2.1,y48.2.2.1,y48.2.2.2,(0:Int),(0:Int),false,false,(0:Int),(0:Int),false,false,(1:Int)))
 else some ((0:Int),(0:Int),false,false,(0:Int),(0:Int),false,false,(0:Int),(0:Int),false,false,(-1:Int)))))))))))))))))))))))))):=by kernel_rfl
def c83 (N:Nat):Sym.Callee:=⟨f83.args,f83.ta,f83.res,f83.tr,0,F83 N⟩
theorem ok83 (N:Nat):CalOK tab 83 (c83 N):=fn_ok (f83.ok0 N) fuelW 83 f83.args f83.ta f83.res f83.tr 0
namespace f84
def args:List PSh:=[.agg [.int .u8,.int .i64,.int .i64,.int .i64]]
def ta:List Ty:=[(.int .u8),(.int .i64),(.int .i64),(.int .i64)]
def res:List (Bool×List CSh):=[(true,[.int .i64,.int .i64,.int .i64])]
def tr:List Ty:=[(.int .i64),(.int .i64),(.int .i64)]
def E0 (N:Nat):SEnv:=SEnv.base tab cuts ccut bcut unr ety
theorem ok0 (N:Nat):EnvOK tab (E0 N):=base_ok tab cuts ccut bcut unr ety
end f84
def F84 (N:Nat) (x:(Int)×(Int)×(Int)×Int):Option ((Int)×(Int)×Int):=fnRun (f84.E0 N) fuelW 84 f84.args f84.ta f84.res f84.tr 0 x
open f84 in
theorem F84_eq (N:Nat) (p0:Int) (p1:Int) (p2:Int) (p3:Int):F84 N (p0,p1,p2,p3) =
 some (p1,p2,p3):=by kernel_rfl
def c84 (N:Nat):Sym.Callee:=⟨f84.args,f84.ta,f84.res,f84.tr,0,F84 N⟩
theorem ok84 (N:Nat):CalOK tab 84 (c84 N):=fn_ok (f84.ok0 N) fuelW 84 f84.args f84.ta f84.res f84.tr 0
namespace f80
def bcut:Nat→Nat→Option (Nat×Ty):=fun c i=>match c,i with
 |0,12=>some (34,.bool)
 |0,100012=>some (34,.bool)
 |_,_=>none
def unr:Nat→Nat→Bool:=fun c i=>match c,i with
 |0,7=>true
 |0,100007=>true
 |_,_=>false
def args:List PSh:=[.agg [.int .u8,.int .i64,.int .i64,.int .i64]]
def ta:List Ty:=[(.int .u8),(.int .i64),(.int .i64),(.int .i64)]
def res:List (Bool×List CSh):=[(false,[.int .i64])]
def tr:List Ty:=[(.int .i64)]
def E0 (N:Nat):SEnv:=((SEnv.base tab cuts ccut bcut unr ety).addCal 83 (c83 N)).addCal 84 (c84 N)
theorem ok0 (N:Nat):EnvOK tab (E0 N):=((base_ok tab cuts ccut bcut unr ety).addCal (ok83 N)).addCal (ok84 N)
end f80
def F80 (N:Nat) (x:(Int)×(Int)×(Int)×Int):Option (Int):=fnRun (f80.E0 N) fuelW 80 f80.args f80.ta f80.res f80.tr 0 x
open f80 in
theorem F80_eq (N:Nat) (p0:Int) (p1:Int) (p2:Int) (p3:Int):F80 N (p0,p1,p2,p3) =
 (Option.bind (F83 N p0) fun y0=>
 (bif (decide (y0.2.2.2.2.2.2.2.2.2.2.2.2<(0:Int)))
 then some (8:Int)
 else (Option.bind (F84 N (p0,p1,p2,p3)) fun y1=>
 (Option.bind ((bif (decide (y1.1<y0.1))
 then some true
 else some (decide (y1.1>y0.2.1)))) fun b2=>
 (bif b2
 then some (8:Int)
 else (Option.bind ((bif (decide (y1.2.1<y0.2.2.2.2.1))
 then some true
 else some (decide (y1.2.1>y0.2.2.2.2.2.1)))) fun b3=>
 (bif b3
 then some (8:Int)
 else (Option.bind ((bif (decide (y1.2.2<y0.2.2.2.2.2.2.2.2.1))
 then some true
 else some (decide (y1.2.2>y0.2.2.2.2.2.2.2.2.2.1)))) fun b4=>
 (bif b4
 then some (8:Int)
 else some (0:Int)))))))))):=by kernel_rfl
def c80 (N:Nat):Sym.Callee:=⟨f80.args,f80.ta,f80.res,f80.tr,0,F80 N⟩
theorem ok80 (N:Nat):CalOK tab 80 (c80 N):=fn_ok (f80.ok0 N) fuelW 80 f80.args f80.ta f80.res f80.tr 0
namespace f103
def bcut:Nat→Nat→Option (Nat×Ty):=fun c i=>match c,i with
 |0,1=>some (8,.bool)
 |_,_=>none
def args:List PSh:=[.c (.int .i64)]
def ta:List Ty:=[(.int .i64)]
def res:List (Bool×List CSh):=[(false,[.int .i64])]
def tr:List Ty:=[(.int .i64)]
def E0 (N:Nat):SEnv:=SEnv.base tab cuts ccut bcut unr ety
theorem ok0 (N:Nat):EnvOK tab (E0 N):=base_ok tab cuts ccut bcut unr ety
end f103
def F103 (N:Nat) (x:Int):Option (Int):=fnRun (f103.E0 N) fuelW 103 f103.args f103.ta f103.res f103.tr 0 x
open f103 in
theorem F103_eq (N:Nat) (p0:Int):F103 N p0 =
 (Option.bind ((bif (decide (p0<(1:Int)))
 then some true
 else some (decide (p0>(200:Int))))) fun b0=>
 (bif b0
 then some (2:Int)
 else some (0:Int))):=by kernel_rfl
def c103 (N:Nat):Sym.Callee:=⟨f103.args,f103.ta,f103.res,f103.tr,0,F103 N⟩
theorem ok103 (N:Nat):CalOK tab 103 (c103 N):=fn_ok (f103.ok0 N) fuelW 103 f103.args f103.ta f103.res f103.tr 0
namespace f104
def bcut:Nat→Nat→Option (Nat×Ty):=fun c i=>match c,i with
 |0,1=>some (28,.bool)
 |_,_=>none
def args:List PSh:=[.c (.sl TRun .bor),.c (.int .i64)]
def ta:List Ty:=[(.sl TRun),(.int .i64)]
def res:List (Bool×List CSh):=[(false,[.bool])]
def tr:List Ty:=[.bool]
def E0 (N:Nat):SEnv:=SEnv.base tab cuts ccut bcut unr ety
theorem ok0 (N:Nat):EnvOK tab (E0 N):=base_ok tab cuts ccut bcut unr ety
def T0_7:Tmpl:=⟨[(5,.c (.ptr 0 5 0 0 0)),(33,.c (.sl TRun .bor)),(34,.c (.int .i64)),(35,.c (.int .i64))],[],[(0,5,.box 0 [.int .i64,.int .u64])],1,[],1,[(.sl TRun),(.int .i64),(.int .i64),(.int .i64),(.int .u64)]⟩
def O0_7:Outs:=[(.ret,⟨[(4,.c (.bool))],[],[],1,[],0,[.bool]⟩),(.exit 0,⟨[],[],[],1,[],0,[]⟩)]
def L0_7 (N:Nat) (k:Nat) (x:(List (Run))×(Int)×(Int)×(Int)×Int):Option ((Bool)⊕(Unit)):=loopF (loopStep (E0 N) fuelW 0 7 (bodyAt t104 7) T0_7 O0_7) k x
theorem L0_7_succ (N:Nat) (k:Nat) (v4:List (Run)) (v5:Int) (v6:Int) (v7:Int) (v8:Int):L0_7 N (k+1) (v4,v5,v6,v7,v8) =
 (bif (decide (v6<v5))
 then (Option.bind (idx v4 v6) fun x9=>
 (bif (decide (x9.1≤v7))
 then some (Sum.inl false)
 else (bif (x9.1==x9.1&&(x9.2==v8&&true))
 then some (Sum.inl false)
 else L0_7 N k (v4,v5,(wi64 (v6+(1:Int))),x9.1,x9.2))))
 else some (Sum.inr ())):=by kernel_rfl
def E1 (N:Nat):SEnv:=(E0 N).addLoop N 0 7 T0_7 O0_7
theorem ok1 (N:Nat):EnvOK tab (E1 N):=(ok0 N).addLoop N 0 7 T0_7 O0_7
end f104
def F104 (N:Nat) (x:(List (Run))×Int):Option (Bool):=fnRun (f104.E1 N) fuelW 104 f104.args f104.ta f104.res f104.tr 0 x
open f104 in
theorem F104_eq (N:Nat) (p0:List (Run)) (p1:Int):F104 N (p0,p1) =
 (Option.bind ((bif ((p0.length:Int)==(0:Int))
 then some true
 else (Option.bind (idx p0 (0:Int)) fun x0=>
 (bif (x0.1 != (0:Int))
 then some true
 else (Option.bind (idx p0 (wi64 ((p0.length:Int)-(1:Int)))) fun x1=>
 some (decide (x1.1≥p1))))))) fun b2=>
 (bif b2
 then some false
 else (Option.bind (idx p0 (0:Int)) fun x3=>
 (chk (decide (1≤p0.length))
 ((Option.bind (L0_7 N N ((p0.drop 1),((p0.drop 1).length:Int),(0:Int),x3.1,x3.2)) fun y10=>
 (match y10 with
 |.inl a11=>some a11
 |.inr b12=>some true))))))):=by kernel_rfl
def c104 (N:Nat):Sym.Callee:=⟨f104.args,f104.ta,f104.res,f104.tr,0,F104 N⟩
theorem ok104 (N:Nat):CalOK tab 104 (c104 N):=fn_ok (f104.ok1 N) fuelW 104 f104.args f104.ta f104.res f104.tr 0
namespace f81
def args:List PSh:=[.c (.sl TRun .bor),.c (.int .i64)]
def ta:List Ty:=[(.sl TRun),(.int .i64)]
def res:List (Bool×List CSh):=[(false,[.int .i64])]
def tr:List Ty:=[(.int .i64)]
def E0 (N:Nat):SEnv:=((SEnv.base tab cuts ccut bcut unr ety).addCal 103 (c103 N)).addCal 104 (c104 N)
theorem ok0 (N:Nat):EnvOK tab (E0 N):=((base_ok tab cuts ccut bcut unr ety).addCal (ok103 N)).addCal (ok104 N)
end f81
def F81 (N:Nat) (x:(List (Run))×Int):Option (Int):=fnRun (f81.E0 N) fuelW 81 f81.args f81.ta f81.res f81.tr 0 x
open f81 in
theorem F81_eq (N:Nat) (p0:List (Run)) (p1:Int):F81 N (p0,p1) =
 (Option.bind (F103 N p1) fun y0=>
 (bif (y0 != (0:Int))
 then some y0
 else (Option.bind (F104 N (p0,p1)) fun y1=>
 (bif (!y1)
 then some (8:Int)
 else some (0:Int))))):=by kernel_rfl
def c81 (N:Nat):Sym.Callee:=⟨f81.args,f81.ta,f81.res,f81.tr,0,F81 N⟩
theorem ok81 (N:Nat):CalOK tab 81 (c81 N):=fn_ok (f81.ok0 N) fuelW 81 f81.args f81.ta f81.res f81.tr 0
namespace f53
def bcut:Nat→Nat→Option (Nat×Ty):=fun c i=>match c,i with
 |0,1=>some (49,.bool)
 |0,11=>some (66,.bool)
 |0,26=>some (4,.bool)
 |_,_=>none
def args:List PSh:=[.c (.sl TGType .bor),.agg [.str,.int .i64,.int .i64,.sl TField .bor,.sl TInstr .bor,.sl TRun .bor,.sl TRun .bor]]
def ta:List Ty:=[(.sl TGType),.str,(.int .i64),(.int .i64),(.sl TField),(.sl TInstr),(.sl TRun),(.sl TRun)]
def res:List (Bool×List CSh):=[(false,[.bool])]
def tr:List Ty:=[.bool]
def E0 (N:Nat):SEnv:=((((SEnv.base tab cuts ccut bcut unr ety).addCal 78 (c78 N)).addCal 79 (c79 N)).addCal 80 (c80 N)).addCal 81 (c81 N)
theorem ok0 (N:Nat):EnvOK tab (E0 N):=((((base_ok tab cuts ccut bcut unr ety).addCal (ok78 N)).addCal (ok79 N)).addCal (ok80 N)).addCal (ok81 N)
def T0_6:Tmpl:=⟨[(0,.c (.sl TGType .bor)),(3,.c (.ptr 0 3 0 0 0)),(51,.c (.sl TField .bor)),(52,.c (.int .i64)),(53,.c (.int .i64))],[],[(0,3,.box 0 [.str,.int .i64,.int .i64,.sl TField .bor,.sl TInstr .bor,.sl TRun .bor,.sl TRun .bor])],1,[],1,[(.sl TGType),(.sl TField),(.int .i64),(.int .i64),.str,(.int .i64),(.int .i64),(.sl TField),(.sl TInstr),(.sl TRun),(.sl TRun)]⟩
def O0_6:Outs:=[(.ret,⟨[(4,.c (.bool))],[],[],1,[],0,[.bool]⟩),(.exit 0,⟨[(3,.c (.ptr 0 3 0 0 0))],[],[(0,3,.box 0 [.str,.int .i64,.int .i64,.sl TField .bor,.sl TInstr .bor,.sl TRun .bor,.sl TRun .bor])],1,[],1,[.str,(.int .i64),(.int .i64),(.sl TField),(.sl TInstr),(.sl TRun),(.sl TRun)]⟩)]
def L0_6 (N:Nat) (k:Nat) (x:(List (GType))×(List (Field))×(Int)×(Int)×(List UInt8)×(Int)×(Int)×(List (Field))×(List (Instr))×(List (Run))×List (Run)):Option ((Bool)⊕((List UInt8)×(Int)×(Int)×(List (Field))×(List (Instr))×(List (Run))×List (Run))):=loopF (loopStep (E0 N) fuelW 0 6 (bodyAt t53 6) T0_6 O0_6) k x
theorem L0_6_succ (N:Nat) (k:Nat) (v3:List (GType)) (v4:List (Field)) (v5:Int) (v6:Int) (v7:List UInt8) (v8:Int) (v9:Int) (v10:List (Field)) (v11:List (Instr)) (v12:List (Run)) (v13:List (Run)):L0_6 N (k+1) (v3,v4,v5,v6,v7,v8,v9,v10,v11,v12,v13) =
 (bif (decide (v6<v5))
 then (Option.bind (idx v4 v6) fun x14=>
 (Option.bind ((bif (decide (x14.2<(0:Int)))
 then some true
 else some (decide (x14.2≥(v3.length:Int))))) fun b15=>
 (bif b15
 then some (Sum.inl false)
 else L0_6 N k (v3,v4,v5,(wi64 (v6+(1:Int))),v7,v8,v9,v10,v11,v12,v13))))
 else some (Sum.inr (v7,v8,v9,v10,v11,v12,v13))):=by kernel_rfl
def E1 (N:Nat):SEnv:=(E0 N).addLoop N 0 6 T0_6 O0_6
theorem ok1 (N:Nat):EnvOK tab (E1 N):=(ok0 N).addLoop N 0 6 T0_6 O0_6
def T0_17:Tmpl:=⟨[(3,.c (.ptr 0 3 0 0 0)),(69,.c (.sl TInstr .bor)),(70,.c (.int .i64)),(71,.c (.int .i64))],[],[(0,3,.box 0 [.str,.int .i64,.int .i64,.sl TField .bor,.sl TInstr .bor,.sl TRun .bor,.sl TRun .bor])],1,[],1,[(.sl TInstr),(.int .i64),(.int .i64),.str,(.int .i64),(.int .i64),(.sl TField),(.sl TInstr),(.sl TRun),(.sl TRun)]⟩
def O0_17:Outs:=[(.ret,⟨[(4,.c (.bool))],[],[],1,[],0,[.bool]⟩),(.exit 2,⟨[(3,.c (.ptr 0 3 0 0 0))],[],[(0,3,.box 0 [.str,.int .i64,.int .i64,.sl TField .bor,.sl TInstr .bor,.sl TRun .bor,.sl TRun .bor])],1,[],1,[.str,(.int .i64),(.int .i64),(.sl TField),(.sl TInstr),(.sl TRun),(.sl TRun)]⟩)]
def L0_17 (N:Nat) (k:Nat) (x:(List (Instr))×(Int)×(Int)×(List UInt8)×(Int)×(Int)×(List (Field))×(List (Instr))×(List (Run))×List (Run)):Option ((Bool)⊕((List UInt8)×(Int)×(Int)×(List (Field))×(List (Instr))×(List (Run))×List (Run))):=loopF (loopStep (E1 N) fuelW 0 17 (bodyAt t53 17) T0_17 O0_17) k x
theorem L0_17_succ (N:Nat) (k:Nat) (v19:List (Instr)) (v20:Int) (v21:Int) (v22:List UInt8) (v23:Int) (v24:Int) (v25:List (Field)) (v26:List (Instr)) (v27:List (Run)) (v28:List (Run)):L0_17 N (k+1) (v19,v20,v21,v22,v23,v24,v25,v26,v27,v28) =
 (bif (decide (v21<v20))
 then (Option.bind (idx v19 v21) fun x29=>
 (Option.bind (F80 N (x29.1,x29.2.1,x29.2.2.1,x29.2.2.2)) fun y30=>
 (bif (y30 != (0:Int))
 then some (Sum.inl false)
 else L0_17 N k (v19,v20,(wi64 (v21+(1:Int))),v22,v23,v24,v25,v26,v27,v28))))
 else some (Sum.inr (v22,v23,v24,v25,v26,v27,v28))):=by kernel_rfl
def E2 (N:Nat):SEnv:=(E1 N).addLoop N 0 17 T0_17 O0_17
theorem ok2 (N:Nat):EnvOK tab (E2 N):=(ok1 N).addLoop N 0 17 T0_17 O0_17
end f53
def F53 (N:Nat) (x:(List (GType))×(List UInt8)×(Int)×(Int)×(List (Field))×(List (Instr))×(List (Run))×List (Run)):Option (Bool):=fnRun (f53.E2 N) fuelW 53 f53.args f53.ta f53.res f53.tr 0 x
open f53 in
theorem F53_eq (N:Nat) (p0:List (GType)) (p1:List UInt8) (p2:Int) (p3:Int) (p4:List (Field)) (p5:List (Instr)) (p6:List (Run)) (p7:List (Run)):F53 N (p0,p1,p2,p3,p4,p5,p6,p7) =
 (Option.bind ((Option.bind (F78 N p1) fun y0=>
 (bif (!y0)
 then some true
 else (bif (decide ((p4.length:Int)>(16:Int)))
 then some true
 else (Option.bind (F79 N p4) fun y1=>
 (bif (!y1)
 then some true
 else (bif (decide (p2<(0:Int)))
 then some true
 else (bif (decide (p2>(p4.length:Int)))
 then some true
 else (bif (decide (p3<(-1:Int)))
 then some true
 else some (decide (p3≥(p0.length:Int)))))))))))) fun b2=>
 (bif b2
 then some false
 else (Option.bind (L0_6 N N (p0,p4,(p4.length:Int),(0:Int),p1,p2,p3,p4,p5,p6,p7)) fun y16=>
 (match y16 with
 |.inl a17=>some a17
 |.inr b18=>(Option.bind (L0_17 N N (b18.2.2.2.2.1,(b18.2.2.2.2.1.length:Int),(0:Int),b18.1,b18.2.1,b18.2.2.1,b18.2.2.2.1,b18.2.2.2.2.1,b18.2.2.2.2.2.1,b18.2.2.2.2.2.2)) fun y31=>
 (match y31 with
 |.inl a32=>some a32
 |.inr b33=>(Option.bind ((Option.bind (F81 N (b33.2.2.2.2.2.1,(b33.2.2.2.2.1.length:Int))) fun y34=>
 (bif (y34==(0:Int))
 then (Option.bind (F81 N (b33.2.2.2.2.2.2,(b33.2.2.2.2.1.length:Int))) fun y35=>
 some (y35==(0:Int)))
 else some false))) fun b36=>
 some b36))))))):=by kernel_rfl
def c53 (N:Nat):Sym.Callee:=⟨f53.args,f53.ta,f53.res,f53.tr,0,F53 N⟩
theorem ok53 (N:Nat):CalOK tab 53 (c53 N):=fn_ok (f53.ok2 N) fuelW 53 f53.args f53.ta f53.res f53.tr 0
namespace f30
def bcut:Nat→Nat→Option (Nat×Ty):=fun c i=>match c,i with
 |0,1=>some (33,.bool)
 |_,_=>none
def args:List PSh:=[.agg [.sl TGType .bor,.sl .str .bor,.sl TFunc .bor]]
def ta:List Ty:=[(.sl TGType),(.sl .str),(.sl TFunc)]
def res:List (Bool×List CSh):=[(false,[.bool])]
def tr:List Ty:=[.bool]
def E0 (N:Nat):SEnv:=(((SEnv.base tab cuts ccut bcut unr ety).addCal 51 (c51 N)).addCal 52 (c52 N)).addCal 53 (c53 N)
theorem ok0 (N:Nat):EnvOK tab (E0 N):=(((base_ok tab cuts ccut bcut unr ety).addCal (ok51 N)).addCal (ok52 N)).addCal (ok53 N)
def T0_6:Tmpl:=⟨[(1,.c (.ptr 0 1 0 0 0)),(36,.c (.int .i64)),(37,.c (.int .i64))],[],[(0,1,.box 0 [.sl TGType .bor,.sl .str .bor,.sl TFunc .bor])],1,[],1,[(.int .i64),(.int .i64),(.sl TGType),(.sl .str),(.sl TFunc)]⟩
def O0_6:Outs:=[(.ret,⟨[(2,.c (.bool))],[],[],1,[],0,[.bool]⟩),(.exit 0,⟨[(1,.c (.ptr 0 1 0 0 0))],[],[(0,1,.box 0 [.sl TGType .bor,.sl .str .bor,.sl TFunc .bor])],1,[],1,[(.sl TGType),(.sl .str),(.sl TFunc)]⟩)]
def L0_6 (N:Nat) (k:Nat) (x:(Int)×(Int)×(List (GType))×(List (List UInt8))×List (Func)):Option ((Bool)⊕((List (GType))×(List (List UInt8))×List (Func))):=loopF (loopStep (E0 N) fuelW 0 6 (bodyAt t30 6) T0_6 O0_6) k x
theorem L0_6_succ (N:Nat) (k:Nat) (v2:Int) (v3:Int) (v4:List (GType)) (v5:List (List UInt8)) (v6:List (Func)):L0_6 N (k+1) (v2,v3,v4,v5,v6) =
 (bif (decide (v3<v2))
 then (Option.bind (F52 N (v4,v3)) fun y7=>
 (bif (y7.2.2 != (0:Int))
 then some (Sum.inl false)
 else L0_6 N k (v2,(wi64 (v3+(1:Int))),v4,v5,v6)))
 else some (Sum.inr (v4,v5,v6))):=by kernel_rfl
def E1 (N:Nat):SEnv:=(E0 N).addLoop N 0 6 T0_6 O0_6
theorem ok1 (N:Nat):EnvOK tab (E1 N):=(ok0 N).addLoop N 0 6 T0_6 O0_6
def T0_18:Tmpl:=⟨[(1,.c (.ptr 0 1 0 0 0)),(52,.c (.sl .str .bor)),(53,.c (.int .i64)),(54,.c (.int .i64))],[],[(0,1,.box 0 [.sl TGType .bor,.sl .str .bor,.sl TFunc .bor])],1,[],1,[(.sl .str),(.int .i64),(.int .i64),(.sl TGType),(.sl .str),(.sl TFunc)]⟩
def O0_18:Outs:=[(.ret,⟨[(2,.c (.bool))],[],[],1,[],0,[.bool]⟩),(.exit 2,⟨[(1,.c (.ptr 0 1 0 0 0))],[],[(0,1,.box 0 [.sl TGType .bor,.sl .str .bor,.sl TFunc .bor])],1,[],1,[(.sl TGType),(.sl .str),(.sl TFunc)]⟩)]
def L0_18 (N:Nat) (k:Nat) (x:(List (List UInt8))×(Int)×(Int)×(List (GType))×(List (List UInt8))×List (Func)):Option ((Bool)⊕((List (GType))×(List (List UInt8))×List (Func))):=loopF (loopStep (E1 N) fuelW 0 18 (bodyAt t30 18) T0_18 O0_18) k x
theorem L0_18_succ (N:Nat) (k:Nat) (v11:List (List UInt8)) (v12:Int) (v13:Int) (v14:List (GType)) (v15:List (List UInt8)) (v16:List (Func)):L0_18 N (k+1) (v11,v12,v13,v14,v15,v16) =
 (bif (decide (v13<v12))
 then (Option.bind (idx v11 v13) fun x17=>
 (bif (decide ((x17.length:Int)>(64:Int)))
 then some (Sum.inl false)
 else L0_18 N k (v11,v12,(wi64 (v13+(1:Int))),v14,v15,v16)))
 else some (Sum.inr (v14,v15,v16))):=by kernel_rfl
def E2 (N:Nat):SEnv:=(E1 N).addLoop N 0 18 T0_18 O0_18
theorem ok2 (N:Nat):EnvOK tab (E2 N):=(ok1 N).addLoop N 0 18 T0_18 O0_18
def T0_30:Tmpl:=⟨[(1,.c (.ptr 0 1 0 0 0)),(9,.c (.mp 0 62 1)),(64,.c (.sl TFunc .bor)),(65,.c (.int .i64)),(66,.c (.int .i64))],[],[(0,1,.box 0 [.sl TGType .bor,.sl .str .bor,.sl TFunc .bor]),(0,62,.set 1)],1,[],2,[(.sl TFunc),(.int .i64),(.int .i64),(.sl TGType),(.sl .str),(.sl TFunc),(.sl .str)]⟩
def O0_30:Outs:=[(.ret,⟨[(2,.c (.bool))],[],[],1,[],0,[.bool]⟩),(.exit 4,⟨[],[],[],1,[],0,[]⟩)]
def L0_30 (N:Nat) (k:Nat) (x:(List (Func))×(Int)×(Int)×(List (GType))×(List (List UInt8))×(List (Func))×List (List UInt8)):Option ((Bool)⊕(Unit)):=loopF (loopStep (E2 N) fuelW 0 30 (bodyAt t30 30) T0_30 O0_30) k x
theorem L0_30_succ (N:Nat) (k:Nat) (v21:List (Func)) (v22:Int) (v23:Int) (v24:List (GType)) (v25:List (List UInt8)) (v26:List (Func)) (v27:List (List UInt8)):L0_30 N (k+1) (v21,v22,v23,v24,v25,v26,v27) =
 (bif (decide (v23<v22))
 then (Option.bind (idx v21 v23) fun x28=>
 (bif (hasB v27 x28.1)
 then some (Sum.inl false)
 else (Option.bind (F53 N (v24,x28.1,x28.2.1,x28.2.2.1,x28.2.2.2.1,x28.2.2.2.2.1,x28.2.2.2.2.2.1,x28.2.2.2.2.2.2)) fun y29=>
 (bif (!y29)
 then some (Sum.inl false)
 else L0_30 N k (v21,v22,(wi64 (v23+(1:Int))),v24,v25,v26,(addB v27 x28.1))))))
 else some (Sum.inr ())):=by kernel_rfl
def E3 (N:Nat):SEnv:=(E2 N).addLoop N 0 30 T0_30 O0_30
theorem ok3 (N:Nat):EnvOK tab (E3 N):=(ok2 N).addLoop N 0 30 T0_30 O0_30
end f30
def F30 (N:Nat) (x:(List (GType))×(List (List UInt8))×List (Func)):Option (Bool):=fnRun (f30.E3 N) fuelW 30 f30.args f30.ta f30.res f30.tr 0 x
open f30 in
theorem F30_eq (N:Nat) (p0:List (GType)) (p1:List (List UInt8)) (p2:List (Func)):F30 N (p0,p1,p2) =
 (Option.bind ((Option.bind (F51 N p0) fun y0=>
 (bif (y0 != (0:Int))
 then some true
 else (bif (decide ((p1.length:Int)>(32:Int)))
 then some true
 else (bif ((p2.length:Int)==(0:Int))
 then some true
 else some (decide ((p2.length:Int)>(32:Int)))))))) fun b1=>
 (bif b1
 then some false
 else (Option.bind (L0_6 N N ((p0.length:Int),(0:Int),p0,p1,p2)) fun y8=>
 (match y8 with
 |.inl a9=>some a9
 |.inr b10=>(Option.bind (L0_18 N N (b10.2.1,(b10.2.1.length:Int),(0:Int),b10.1,b10.2.1,b10.2.2)) fun y18=>
 (match y18 with
 |.inl a19=>some a19
 |.inr b20=>(Option.bind (L0_30 N N (b20.2.2,(b20.2.2.length:Int),(0:Int),b20.1,b20.2.1,b20.2.2,([]:List (List UInt8)))) fun y30=>
 (match y30 with
 |.inl a31=>some a31
 |.inr b32=>some true)))))))):=by kernel_rfl
def c30 (N:Nat):Sym.Callee:=⟨f30.args,f30.ta,f30.res,f30.tr,0,F30 N⟩
theorem ok30 (N:Nat):CalOK tab 30 (c30 N):=fn_ok (f30.ok3 N) fuelW 30 f30.args f30.ta f30.res f30.tr 0
namespace f55
def unr:Nat→Nat→Bool:=fun c i=>match c,i with
 |0,4=>true
 |_,_=>false
def ety:Nat→Nat→Option Ty:=fun c d=>match c,d with
 |0,2=>some (.int .u8)
 |1014000,5=>some (.int .u8)
 |1018000,5=>some (.int .u8)
 |_,_=>none
def args:List PSh:=[.c (.int .u64)]
def ta:List Ty:=[(.int .u64)]
def res:List (Bool×List CSh):=[(false,[.sl (.int .u8) .d])]
def tr:List Ty:=[(.sl (.int .u8))]
def E0 (N:Nat):SEnv:=SEnv.base tab cuts ccut bcut unr ety
theorem ok0 (N:Nat):EnvOK tab (E0 N):=base_ok tab cuts ccut bcut unr ety
def T0_100004:Tmpl:=⟨[(0,.c (.int .u64)),(3,.c (.ptr 0 3 0 0 0)),(4,.clo 82 [.ptr 0 3 0 0 0])],[],[(0,3,.box 0 [.ref 0 1082006 1 (.int .u8)]),(0,1082006,.row 1 (.int .u8))],1,[],2,[(.int .u64),(.sl (.int .u8))]⟩
def O0_100004:Outs:=[(.exit 0,⟨[(0,.c (.int .u64)),(3,.c (.ptr 0 3 0 0 0)),(4,.clo 82 [.ptr 0 3 0 0 0])],[],[(0,3,.box 0 [.ref 0 1082006 1 (.int .u8)]),(0,1082006,.row 1 (.int .u8))],1,[],2,[(.int .u64),(.sl (.int .u8))]⟩)]
def L0_100004 (N:Nat) (k:Nat) (x:(Int)×List (Int)):Option (((Int)×List (Int))):=loopF (loopStep (E0 N) fuelW 0 100004 (bodyAt t55 4) T0_100004 O0_100004) k x
theorem L0_100004_succ (N:Nat) (k:Nat) (v0:Int) (v1:List (Int)):L0_100004 N (k+1) (v0,v1) =
 (bif (decide (v0≥(128:Int)))
 then (chk (room (v1.length+1) 1)
 (L0_100004 N k ((Int.fdiv v0 128),(v1++[(ior .u8 (wu8 v0) (128:Int))]))))
 else some (v0,v1)):=by kernel_rfl
def E1 (N:Nat):SEnv:=(E0 N).addLoop N 0 100004 T0_100004 O0_100004
theorem ok1 (N:Nat):EnvOK tab (E1 N):=(ok0 N).addLoop N 0 100004 T0_100004 O0_100004
end f55
def F55 (N:Nat) (x:Int):Option (List (Int)):=fnRun (f55.E1 N) fuelW 55 f55.args f55.ta f55.res f55.tr 1 x
open f55 in
theorem F55_eq (N:Nat) (p0:Int):F55 N p0 =
 (bif (decide (p0≥(128:Int)))
 then (chk (room 1 1)
 ((Option.bind (L0_100004 N N ((Int.fdiv p0 128),[(ior .u8 (wu8 p0) (128:Int))])) fun y2=>
 (chk (room (y2.2.length+1) 1)
 (some (y2.2++[(wu8 y2.1)]))))))
 else (chk (room 1 1)
 (some [(wu8 p0)]))):=by kernel_rfl
def c55 (N:Nat):Sym.Callee:=⟨f55.args,f55.ta,f55.res,f55.tr,1,F55 N⟩
theorem ok55 (N:Nat):CalOK tab 55 (c55 N):=fn_ok (f55.ok1 N) fuelW 55 f55.args f55.ta f55.res f55.tr 1
namespace f56
def args:List PSh:=[.c (.int .i64)]
def ta:List Ty:=[(.int .i64)]
def res:List (Bool×List CSh):=[(false,[.sl (.int .u8) .d])]
def tr:List Ty:=[(.sl (.int .u8))]
def E0 (N:Nat):SEnv:=(SEnv.base tab cuts ccut bcut unr ety).addCal 55 (c55 N)
theorem ok0 (N:Nat):EnvOK tab (E0 N):=(base_ok tab cuts ccut bcut unr ety).addCal (ok55 N)
end f56
def F56 (N:Nat) (x:Int):Option (List (Int)):=fnRun (f56.E0 N) fuelW 56 f56.args f56.ta f56.res f56.tr 0 x
open f56 in
theorem F56_eq (N:Nat) (p0:Int):F56 N p0 =
 (Option.bind (F55 N (ixor .u64 (wu64 ((wu64 p0)*2)) (wu64 (Int.fdiv p0 9223372036854775808)))) fun y0=>
 some y0):=by kernel_rfl
def c56 (N:Nat):Sym.Callee:=⟨f56.args,f56.ta,f56.res,f56.tr,0,F56 N⟩
theorem ok56 (N:Nat):CalOK tab 56 (c56 N):=fn_ok (f56.ok0 N) fuelW 56 f56.args f56.ta f56.res f56.tr 0
namespace f57
def bcut:Nat→Nat→Option (Nat×Ty):=fun c i=>match c,i with
 |0,100017=>some (39,.bool)
 |0,17=>some (39,.bool)
 |_,_=>none
def unr:Nat→Nat→Bool:=fun c i=>match c,i with
 |0,9=>true
 |0,100009=>true
 |_,_=>false
def ety:Nat→Nat→Option Ty:=fun c d=>match c,d with
 |0,23=>some (.int .u8)
 |_,_=>none
def args:List PSh:=[.agg [.int .u8,.int .i64,.int .i64,.int .i64]]
def ta:List Ty:=[(.int .u8),(.int .i64),(.int .i64),(.int .i64)]
def res:List (Bool×List CSh):=[(false,[.sl (.int .u8) .d]),(false,[.int .i64])]
def tr:List Ty:=[(.sl (.int .u8)),(.int .i64)]
def E0 (N:Nat):SEnv:=(((((SEnv.base tab cuts ccut bcut unr ety).addCal 80 (c80 N)).addCal 83 (c83 N)).addCal 84 (c84 N)).addCal 56 (c56 N)).addCal 55 (c55 N)
theorem ok0 (N:Nat):EnvOK tab (E0 N):=(((((base_ok tab cuts ccut bcut unr ety).addCal (ok80 N)).addCal (ok83 N)).addCal (ok84 N)).addCal (ok56 N)).addCal (ok55 N)
end f57
def F57 (N:Nat) (x:(Int)×(Int)×(Int)×Int):Option ((List (Int))×Int):=fnRun (f57.E0 N) fuelW 57 f57.args f57.ta f57.res f57.tr 0 x
open f57 in
theorem F57_eq (N:Nat) (p0:Int) (p1:Int) (p2:Int) (p3:Int):F57 N (p0,p1,p2,p3) =
 (Option.bind (F80 N (p0,p1,p2,p3)) fun y0=>
 (bif (y0 != (0:Int))
 then some ([],y0)
 else (Option.bind (F83 N p0) fun y1=>
 (Option.bind (F84 N (p0,p1,p2,p3)) fun y2=>
 (bif (decide ((0:Int)≥y1.2.2.2.2.2.2.2.2.2.2.2.2))
 then (bif (decide ((1:Int)≥y1.2.2.2.2.2.2.2.2.2.2.2.2))
 then (bif (decide ((2:Int)≥y1.2.2.2.2.2.2.2.2.2.2.2.2))
 then some ([p0],(0:Int))
 else (bif (decide (y1.2.2.2.2.2.2.2.2.1<(0:Int)))
 then (Option.bind (F56 N y2.2.2) fun y4=>
 (chk (room (1+y4.length) 1)
 (some (([p0]++y4),(0:Int)))))
 else (Option.bind (F55 N (wu64 y2.2.2)) fun y5=>
 (chk (room (1+y5.length) 1)
 (some (([p0]++y5),(0:Int)))))))
 else (bif (decide (y1.2.2.2.2.1<(0:Int)))
 then (Option.bind (F56 N y2.2.1) fun y7=>
 (chk (room (1+y7.length) 1)
 ((bif (decide ((2:Int)≥y1.2.2.2.2.2.2.2.2.2.2.2.2))
 then some (([p0]++y7),(0:Int))
 else (bif (decide (y1.2.2.2.2.2.2.2.2.1<(0:Int)))
 then (Option.bind (F56 N y2.2.2) fun y9=>
 (chk (room (([p0]++y7).length+y9.length) 1)
 (some ((([p0]++y7)++y9),(0:Int)))))
 else (Option.bind (F55 N (wu64 y2.2.2)) fun y10=>
 (chk (room (([p0]++y7).length+y10.length) 1)
 (some ((([p0]++y7)++y10),(0:Int))))))))))
 else (Option.bind (F55 N (wu64 y2.2.1)) fun y11=>
 (chk (room (1+y11.length) 1)
 ((bif (decide ((2:Int)≥y1.2.2.2.2.2.2.2.2.2.2.2.2))
 then some (([p0]++y11),(0:Int))
 else (bif (decide (y1.2.2.2.2.2.2.2.2.1<(0:Int)))
 then (Option.bind (F56 N y2.2.2) fun y13=>
 (chk (room (([p0]++y11).length+y13.length) 1)
 (some ((([p0]++y11)++y13),(0:Int)))))
 else (Option.bind (F55 N (wu64 y2.2.2)) fun y14=>
 (chk (room (([p0]++y11).length+y14.length) 1)
 (some ((([p0]++y11)++y14),(0:Int))))))))))))
 else (bif (decide (y1.1<(0:Int)))
 then (Option.bind (F56 N y2.1) fun y16=>
 (chk (room (1+y16.length) 1)
 ((bif (decide ((1:Int)≥y1.2.2.2.2.2.2.2.2.2.2.2.2))
 then (bif (decide ((2:Int)≥y1.2.2.2.2.2.2.2.2.2.2.2.2))
 then some (([p0]++y16),(0:Int))
 else (bif (decide (y1.2.2.2.2.2.2.2.2.1<(0:Int)))
 then (Option.bind (F56 N y2.2.2) fun y18=>
 (chk (room (([p0]++y16).length+y18.length) 1)
 (some ((([p0]++y16)++y18),(0:Int)))))
 else (Option.bind (F55 N (wu64 y2.2.2)) fun y19=>
 (chk (room (([p0]++y16).length+y19.length) 1)
 (some ((([p0]++y16)++y19),(0:Int)))))))
 else (bif (decide (y1.2.2.2.2.1<(0:Int)))
 then (Option.bind (F56 N y2.2.1) fun y21=>
 (chk (room (([p0]++y16).length+y21.length) 1)
 ((bif (decide ((2:Int)≥y1.2.2.2.2.2.2.2.2.2.2.2.2))
 then some ((([p0]++y16)++y21),(0:Int))
 else (bif (decide (y1.2.2.2.2.2.2.2.2.1<(0:Int)))
 then (Option.bind (F56 N y2.2.2) fun y23=>
 (chk (room ((([p0]++y16)++y21).length+y23.length) 1)
 (some (((([p0]++y16)++y21)++y23),(0:Int)))))
 else (Option.bind (F55 N (wu64 y2.2.2)) fun y24=>
 (chk (room ((([p0]++y16)++y21).length+y24.length) 1)
 (some (((([p0]++y16)++y21)++y24),(0:Int))))))))))
 else (Option.bind (F55 N (wu64 y2.2.1)) fun y25=>
 (chk (room (([p0]++y16).length+y25.length) 1)
 ((bif (decide ((2:Int)≥y1.2.2.2.2.2.2.2.2.2.2.2.2))
 then some ((([p0]++y16)++y25),(0:Int))
 else (bif (decide (y1.2.2.2.2.2.2.2.2.1<(0:Int)))
 then (Option.bind (F56 N y2.2.2) fun y27=>
 (chk (room ((([p0]++y16)++y25).length+y27.length) 1)
 (some (((([p0]++y16)++y25)++y27),(0:Int)))))
 else (Option.bind (F55 N (wu64 y2.2.2)) fun y28=>
 (chk (room ((([p0]++y16)++y25).length+y28.length) 1)
 (some (((([p0]++y16)++y25)++y28),(0:Int)))))))))))))))
 else (Option.bind (F55 N (wu64 y2.1)) fun y29=>
 (chk (room (1+y29.length) 1)
 ((bif (decide ((1:Int)≥y1.2.2.2.2.2.2.2.2.2.2.2.2))
 then (bif (decide ((2:Int)≥y1.2.2.2.2.2.2.2.2.2.2.2.2))
 then some (([p0]++y29),(0:Int))
 else (bif (decide (y1.2.2.2.2.2.2.2.2.1<(0:Int)))
 then (Option.bind (F56 N y2.2.2) fun y31=>
 (chk (room (([p0]++y29).length+y31.length) 1)
 (some ((([p0]++y29)++y31),(0:Int)))))
 else (Option.bind (F55 N (wu64 y2.2.2)) fun y32=>
 (chk (room (([p0]++y29).length+y32.length) 1)
 (some ((([p0]++y29)++y32),(0:Int)))))))
 else (bif (decide (y1.2.2.2.2.1<(0:Int)))
 then (Option.bind (F56 N y2.2.1) fun y34=>
 (chk (room (([p0]++y29).length+y34.length) 1)
 ((bif (decide ((2:Int)≥y1.2.2.2.2.2.2.2.2.2.2.2.2))
 then some ((([p0]++y29)++y34),(0:Int))
 else (bif (decide (y1.2.2.2.2.2.2.2.2.1<(0:Int)))
 then (Option.bind (F56 N y2.2.2) fun y36=>
 (chk (room ((([p0]++y29)++y34).length+y36.length) 1)
 (some (((([p0]++y29)++y34)++y36),(0:Int)))))
 else (Option.bind (F55 N (wu64 y2.2.2)) fun y37=>
 (chk (room ((([p0]++y29)++y34).length+y37.length) 1)
 (some (((([p0]++y29)++y34)++y37),(0:Int))))))))))
 else (Option.bind (F55 N (wu64 y2.2.1)) fun y38=>
 (chk (room (([p0]++y29).length+y38.length) 1)
 ((bif (decide ((2:Int)≥y1.2.2.2.2.2.2.2.2.2.2.2.2))
 then some ((([p0]++y29)++y38),(0:Int))
 else (bif (decide (y1.2.2.2.2.2.2.2.2.1<(0:Int)))
 then (Option.bind (F56 N y2.2.2) fun y40=>
 (chk (room ((([p0]++y29)++y38).length+y40.length) 1)
 (some (((([p0]++y29)++y38)++y40),(0:Int)))))
 else (Option.bind (F55 N (wu64 y2.2.2)) fun y41=>
 (chk (room ((([p0]++y29)++y38).length+y41.length) 1)
 (some (((([p0]++y29)++y38)++y41),(0:Int))))))))))))))))))))):=by kernel_rfl
def c57 (N:Nat):Sym.Callee:=⟨f57.args,f57.ta,f57.res,f57.tr,0,F57 N⟩
theorem ok57 (N:Nat):CalOK tab 57 (c57 N):=fn_ok (f57.ok0 N) fuelW 57 f57.args f57.ta f57.res f57.tr 0
namespace f58
def args:List PSh:=[.c (.sl TRun .bor),.c (.int .i64)]
def ta:List Ty:=[(.sl TRun),(.int .i64)]
def res:List (Bool×List CSh):=[(false,[.sl (.int .u8) .d]),(false,[.int .i64])]
def tr:List Ty:=[(.sl (.int .u8)),(.int .i64)]
def E0 (N:Nat):SEnv:=((SEnv.base tab cuts ccut bcut unr ety).addCal 81 (c81 N)).addCal 55 (c55 N)
theorem ok0 (N:Nat):EnvOK tab (E0 N):=((base_ok tab cuts ccut bcut unr ety).addCal (ok81 N)).addCal (ok55 N)
def T0_9:Tmpl:=⟨[(7,.c (.ref 0 20 0 (.int .u8))),(8,.c (.int .i64)),(21,.c (.sl TRun .bor)),(22,.c (.int .i64)),(23,.c (.int .i64))],[],[(0,20,.row 0 (.int .u8))],1,[],1,[(.int .i64),(.sl TRun),(.int .i64),(.int .i64),(.sl (.int .u8))]⟩
def O0_9:Outs:=[(.exit 0,⟨[(7,.c (.ref 0 20 0 (.int .u8)))],[],[(0,20,.row 0 (.int .u8))],1,[],1,[(.sl (.int .u8))]⟩)]
def L0_9 (N:Nat) (k:Nat) (x:(Int)×(List (Run))×(Int)×(Int)×List (Int)):Option ((List (Int))):=loopF (loopStep (E0 N) fuelW 0 9 (bodyAt t58 9) T0_9 O0_9) k x
theorem L0_9_succ (N:Nat) (k:Nat) (v2:Int) (v3:List (Run)) (v4:Int) (v5:Int) (v6:List (Int)):L0_9 N (k+1) (v2,v3,v4,v5,v6) =
 (bif (decide (v5<v4))
 then (Option.bind (idx v3 v5) fun x7=>
 (Option.bind (F55 N (wu64 (wi64 (x7.1-v2)))) fun y8=>
 (chk (room (v6.length+y8.length) 1)
 ((Option.bind (F55 N x7.2) fun y9=>
 (chk (room ((v6++y8).length+y9.length) 1)
 (L0_9 N k (x7.1,v3,v4,(wi64 (v5+(1:Int))),((v6++y8)++y9)))))))))
 else some v6):=by kernel_rfl
def E1 (N:Nat):SEnv:=(E0 N).addLoop N 0 9 T0_9 O0_9
theorem ok1 (N:Nat):EnvOK tab (E1 N):=(ok0 N).addLoop N 0 9 T0_9 O0_9
end f58
def F58 (N:Nat) (x:(List (Run))×Int):Option ((List (Int))×Int):=fnRun (f58.E1 N) fuelW 58 f58.args f58.ta f58.res f58.tr 0 x
open f58 in
theorem F58_eq (N:Nat) (p0:List (Run)) (p1:Int):F58 N (p0,p1) =
 (Option.bind (F81 N (p0,p1)) fun y0=>
 (bif (y0 != (0:Int))
 then some ([],y0)
 else (Option.bind (F55 N (wu64 (p0.length:Int))) fun y1=>
 (Option.bind (L0_9 N N ((0:Int),p0,(p0.length:Int),(0:Int),y1)) fun y10=>
 some (y10,(0:Int)))))):=by kernel_rfl
def c58 (N:Nat):Sym.Callee:=⟨f58.args,f58.ta,f58.res,f58.tr,0,F58 N⟩
theorem ok58 (N:Nat):CalOK tab 58 (c58 N):=fn_ok (f58.ok1 N) fuelW 58 f58.args f58.ta f58.res f58.tr 0
namespace f11
def bcut:Nat→Nat→Option (Nat×Ty):=fun c i=>match c,i with
 |1015000,12=>some (29,.bool)
 |_,_=>none
def ety:Nat→Nat→Option Ty:=fun c d=>match c,d with
 |1015000,23=>some (.int .u8)
 |1042000,70=>some (.sl TRun)
 |_,_=>none
def args:List PSh:=[.agg [.sl TGType .bor,.sl .str .bor,.sl TFunc .bor]]
def ta:List Ty:=[(.sl TGType),(.sl .str),(.sl TFunc)]
def res:List (Bool×List CSh):=[(false,[.sl (.int .u8) .d]),(false,[.int .i64])]
def tr:List Ty:=[(.sl (.int .u8)),(.int .i64)]
def E0 (N:Nat):SEnv:=(((((SEnv.base tab cuts ccut bcut unr ety).addCal 30 (c30 N)).addCal 55 (c55 N)).addCal 56 (c56 N)).addCal 57 (c57 N)).addCal 58 (c58 N)
theorem ok0 (N:Nat):EnvOK tab (E0 N):=(((((base_ok tab cuts ccut bcut unr ety).addCal (ok30 N)).addCal (ok55 N)).addCal (ok56 N)).addCal (ok57 N)).addCal (ok58 N)
def T1015001051000_3:Tmpl:=⟨[(0,.c (.ptr 0 4 0 0 0)),(10,.c (.sl TField .d)),(11,.c (.int .i64)),(12,.c (.int .i64))],[[(0,.c (.ptr 0 4 0 0 0))],[(1,.c (.ptr 0 1 1 0 0)),(4,.c (.ptr 0 4 0 0 0))]],[(0,4,.box 0 [.sl (.int .u8) (.app 2)]),(0,1,.box 1 [.sl TGType .bor,.sl .str .bor,.sl TFunc .bor])],3,[2],3,[(.sl TField),(.int .i64),(.int .i64),(.sl (.int .u8)),(.sl TGType),(.sl .str),(.sl TFunc)]⟩
def O1015001051000_3:Outs:=[(.exit 0,⟨[],[[(0,.c (.ptr 0 4 0 0 0))],[(1,.c (.ptr 0 1 1 0 0)),(4,.c (.ptr 0 4 0 0 0))]],[(0,4,.box 0 [.sl (.int .u8) (.app 2)]),(0,1,.box 1 [.sl TGType .bor,.sl .str .bor,.sl TFunc .bor])],3,[2],3,[(.sl (.int .u8)),(.sl TGType),(.sl .str),(.sl TFunc)]⟩)]
def L1015001051000_3 (N:Nat) (k:Nat) (x:(List (Field))×(Int)×(Int)×(List (Int))×(List (GType))×(List (List UInt8))×List (Func)):Option (((List (Int))×(List (GType))×(List (List UInt8))×List (Func))):=loopF (loopStep (E0 N) fuelW 1015001051000 3 (bodyAt t54 3) T1015001051000_3 O1015001051000_3) k x
theorem L1015001051000_3_succ (N:Nat) (k:Nat) (v15:List (Field)) (v16:Int) (v17:Int) (v18:List (Int)) (v19:List (GType)) (v20:List (List UInt8)) (v21:List (Func)):L1015001051000_3 N (k+1) (v15,v16,v17,v18,v19,v20,v21) =
 (bif (decide (v17<v16))
 then (Option.bind (idx v15 v17) fun x22=>
 (Option.bind (F55 N (wu64 (x22.1.length:Int))) fun y23=>
 (chk (room (v18.length+y23.length) 1)
 ((chk (room ((v18++y23).length+(bytesL x22.1).length) 1)
 ((Option.bind (F55 N (wu64 x22.2)) fun y24=>
 (chk (room (((v18++y23)++(bytesL x22.1)).length+y24.length) 1)
 (L1015001051000_3 N k (v15,v16,(wi64 (v17+(1:Int))),(((v18++y23)++(bytesL x22.1))++y24),v19,v20,v21))))))))))
 else some (v18,v19,v20,v21)):=by kernel_rfl
def E1 (N:Nat):SEnv:=(E0 N).addLoop N 1015001051000 3 T1015001051000_3 O1015001051000_3
theorem ok1 (N:Nat):EnvOK tab (E1 N):=(ok0 N).addLoop N 1015001051000 3 T1015001051000_3 O1015001051000_3
def T1015000_3:Tmpl:=⟨[(0,.c (.ptr 0 4 0 0 0)),(10,.c (.sl TGType .bor)),(11,.c (.int .i64)),(12,.c (.int .i64))],[[(1,.c (.ptr 0 1 1 0 0)),(4,.c (.ptr 0 4 0 0 0))]],[(0,4,.box 0 [.sl (.int .u8) (.app 2)]),(0,1,.box 1 [.sl TGType .bor,.sl .str .bor,.sl TFunc .bor])],2,[2],3,[(.sl TGType),(.int .i64),(.int .i64),(.sl (.int .u8)),(.sl TGType),(.sl .str),(.sl TFunc)]⟩
def O1015000_3:Outs:=[(.exit 0,⟨[],[[(1,.c (.ptr 0 1 0 0 0)),(4,.c (.ptr 0 4 1 0 0))]],[(0,1,.box 0 [.sl TGType .bor,.sl .str .bor,.sl TFunc .bor]),(0,4,.box 1 [.sl (.int .u8) (.app 2)])],2,[2],3,[(.sl TGType),(.sl .str),(.sl TFunc),(.sl (.int .u8))]⟩)]
def L1015000_3 (N:Nat) (k:Nat) (x:(List (GType))×(Int)×(Int)×(List (Int))×(List (GType))×(List (List UInt8))×List (Func)):Option (((List (GType))×(List (List UInt8))×(List (Func))×List (Int))):=loopF (loopStep (E1 N) fuelW 1015000 3 (bodyAt t31 3) T1015000_3 O1015000_3) k x
theorem L1015000_3_succ (N:Nat) (k:Nat) (v2:List (GType)) (v3:Int) (v4:Int) (v5:List (Int)) (v6:List (GType)) (v7:List (List UInt8)) (v8:List (Func)):L1015000_3 N (k+1) (v2,v3,v4,v5,v6,v7,v8) =
 (bif (decide (v4<v3))
 then (Option.bind (idx v2 v4) fun x9=>
 (chk (room (v5.length+1) 1)
 ((Option.bind ((bif (x9.1==(4:Int))
 then some true
 else some (x9.1==(7:Int)))) fun b10=>
 (bif b10
 then (Option.bind (F55 N (wu64 x9.2.1)) fun y11=>
 (chk (room ((v5++[x9.1]).length+y11.length) 1)
 (L1015000_3 N k (v2,v3,(wi64 (v4+(1:Int))),((v5++[x9.1])++y11),v6,v7,v8))))
 else (bif (x9.1==(6:Int))
 then (Option.bind (F55 N (wu64 x9.2.1)) fun y12=>
 (chk (room ((v5++[x9.1]).length+y12.length) 1)
 ((Option.bind (F55 N (wu64 x9.2.2.1)) fun y13=>
 (chk (room (((v5++[x9.1])++y12).length+y13.length) 1)
 (L1015000_3 N k (v2,v3,(wi64 (v4+(1:Int))),(((v5++[x9.1])++y12)++y13),v6,v7,v8)))))))
 else (bif (x9.1==(5:Int))
 then (Option.bind (F55 N (wu64 (x9.2.2.2.length:Int))) fun y14=>
 (chk (room ((v5++[x9.1]).length+y14.length) 1)
 ((Option.bind (L1015001051000_3 N N (x9.2.2.2,(x9.2.2.2.length:Int),(0:Int),((v5++[x9.1])++y14),v6,v7,v8)) fun y25=>
 L1015000_3 N k (v2,v3,(wi64 (v4+(1:Int))),y25.1,y25.2.1,y25.2.2.1,y25.2.2.2)))))
 else L1015000_3 N k (v2,v3,(wi64 (v4+(1:Int))),(v5++[x9.1]),v6,v7,v8))))))))
 else some (v6,v7,v8,v5)):=by kernel_rfl
def E2 (N:Nat):SEnv:=(E1 N).addLoop N 1015000 3 T1015000_3 O1015000_3
theorem ok2 (N:Nat):EnvOK tab (E2 N):=(ok1 N).addLoop N 1015000 3 T1015000_3 O1015000_3
def T0_9:Tmpl:=⟨[(1,.c (.ptr 0 1 0 0 0)),(4,.c (.ptr 0 4 1 0 0)),(21,.c (.sl .str .bor)),(22,.c (.int .i64)),(23,.c (.int .i64))],[],[(0,1,.box 0 [.sl TGType .bor,.sl .str .bor,.sl TFunc .bor]),(0,4,.box 1 [.sl (.int .u8) (.app 2)])],1,[2],3,[(.sl .str),(.int .i64),(.int .i64),(.sl TGType),(.sl .str),(.sl TFunc),(.sl (.int .u8))]⟩
def O0_9:Outs:=[(.exit 0,⟨[(1,.c (.ptr 0 1 0 0 0)),(4,.c (.ptr 0 4 1 0 0))],[],[(0,1,.box 0 [.sl TGType .bor,.sl .str .bor,.sl TFunc .bor]),(0,4,.box 1 [.sl (.int .u8) (.app 2)])],1,[2],3,[(.sl TGType),(.sl .str),(.sl TFunc),(.sl (.int .u8))]⟩)]
def L0_9 (N:Nat) (k:Nat) (x:(List (List UInt8))×(Int)×(Int)×(List (GType))×(List (List UInt8))×(List (Func))×List (Int)):Option (((List (GType))×(List (List UInt8))×(List (Func))×List (Int))):=loopF (loopStep (E2 N) fuelW 0 9 (bodyAt t11 9) T0_9 O0_9) k x
theorem L0_9_succ (N:Nat) (k:Nat) (v28:List (List UInt8)) (v29:Int) (v30:Int) (v31:List (GType)) (v32:List (List UInt8)) (v33:List (Func)) (v34:List (Int)):L0_9 N (k+1) (v28,v29,v30,v31,v32,v33,v34) =
 (bif (decide (v30<v29))
 then (Option.bind (idx v28 v30) fun x35=>
 (Option.bind (F55 N (wu64 (x35.length:Int))) fun y36=>
 (chk (room (v34.length+y36.length) 1)
 ((chk (room ((v34++y36).length+(bytesL x35).length) 1)
 (L0_9 N k (v28,v29,(wi64 (v30+(1:Int))),v31,v32,v33,((v34++y36)++(bytesL x35)))))))))
 else some (v31,v32,v33,v34)):=by kernel_rfl
def E3 (N:Nat):SEnv:=(E2 N).addLoop N 0 9 T0_9 O0_9
theorem ok3 (N:Nat):EnvOK tab (E3 N):=(ok2 N).addLoop N 0 9 T0_9 O0_9
def T1042001035000_3:Tmpl:=⟨[(0,.c (.ptr 0 4 0 0 0)),(10,.c (.sl TField .d)),(11,.c (.int .i64)),(12,.c (.int .i64))],[[(0,.c (.ptr 0 4 0 0 0)),(3,.c (.ptr 1 3 1 0 0))],[(4,.c (.ptr 0 4 0 0 0))]],[(0,4,.box 0 [.sl (.int .u8) (.app 2)]),(1,3,.box 1 [.str,.int .i64,.int .i64,.sl TField .d,.sl TInstr .d,.sl TRun .d,.sl TRun .d])],3,[2],3,[(.sl TField),(.int .i64),(.int .i64),(.sl (.int .u8)),.str,(.int .i64),(.int .i64),(.sl TField),(.sl TInstr),(.sl TRun),(.sl TRun)]⟩
def O1042001035000_3:Outs:=[(.exit 0,⟨[],[[(0,.c (.ptr 0 4 0 0 0)),(3,.c (.ptr 1 3 1 0 0))],[(4,.c (.ptr 0 4 0 0 0))]],[(0,4,.box 0 [.sl (.int .u8) (.app 2)]),(1,3,.box 1 [.str,.int .i64,.int .i64,.sl TField .d,.sl TInstr .d,.sl TRun .d,.sl TRun .d])],3,[2],3,[(.sl (.int .u8)),.str,(.int .i64),(.int .i64),(.sl TField),(.sl TInstr),(.sl TRun),(.sl TRun)]⟩)]
def L1042001035000_3 (N:Nat) (k:Nat) (x:(List (Field))×(Int)×(Int)×(List (Int))×(List UInt8)×(Int)×(Int)×(List (Field))×(List (Instr))×(List (Run))×List (Run)):Option (((List (Int))×(List UInt8)×(Int)×(Int)×(List (Field))×(List (Instr))×(List (Run))×List (Run))):=loopF (loopStep (E3 N) fuelW 1042001035000 3 (bodyAt t54 3) T1042001035000_3 O1042001035000_3) k x
theorem L1042001035000_3_succ (N:Nat) (k:Nat) (v48:List (Field)) (v49:Int) (v50:Int) (v51:List (Int)) (v52:List UInt8) (v53:Int) (v54:Int) (v55:List (Field)) (v56:List (Instr)) (v57:List (Run)) (v58:List (Run)):L1042001035000_3 N (k+1) (v48,v49,v50,v51,v52,v53,v54,v55,v56,v57,v58) =
 (bif (decide (v50<v49))
 then (Option.bind (idx v48 v50) fun x59=>
 (Option.bind (F55 N (wu64 (x59.1.length:Int))) fun y60=>
 (chk (room (v51.length+y60.length) 1)
 ((chk (room ((v51++y60).length+(bytesL x59.1).length) 1)
 ((Option.bind (F55 N (wu64 x59.2)) fun y61=>
 (chk (room (((v51++y60)++(bytesL x59.1)).length+y61.length) 1)
 (L1042001035000_3 N k (v48,v49,(wi64 (v50+(1:Int))),(((v51++y60)++(bytesL x59.1))++y61),v52,v53,v54,v55,v56,v57,v58))))))))))
 else some (v51,v52,v53,v54,v55,v56,v57,v58)):=by kernel_rfl
def E4 (N:Nat):SEnv:=(E3 N).addLoop N 1042001035000 3 T1042001035000_3 O1042001035000_3
theorem ok4 (N:Nat):EnvOK tab (E4 N):=(ok3 N).addLoop N 1042001035000 3 T1042001035000_3 O1042001035000_3
def T1042000_8:Tmpl:=⟨[(0,.c (.ptr 0 4 0 0 0)),(3,.c (.ptr 1 3 1 0 0)),(42,.c (.sl TInstr .d)),(43,.c (.int .i64)),(44,.c (.int .i64))],[[(4,.c (.ptr 0 4 0 0 0))]],[(0,4,.box 0 [.sl (.int .u8) (.app 2)]),(1,3,.box 1 [.str,.int .i64,.int .i64,.sl TField .d,.sl TInstr .d,.sl TRun .d,.sl TRun .d])],2,[2],3,[(.sl TInstr),(.int .i64),(.int .i64),(.sl (.int .u8)),.str,(.int .i64),(.int .i64),(.sl TField),(.sl TInstr),(.sl TRun),(.sl TRun)]⟩
def O1042000_8:Outs:=[(.ret,⟨[(4,.c (.int .i64))],[[(4,.c (.ptr 0 4 0 0 0))]],[(0,4,.box 0 [.sl (.int .u8) (.app 1)])],2,[1],2,[(.int .i64),(.sl (.int .u8))]⟩),(.exit 0,⟨[(0,.c (.ptr 0 4 0 0 0)),(3,.c (.ptr 1 3 1 0 0))],[[(4,.c (.ptr 0 4 0 0 0))]],[(0,4,.box 0 [.sl (.int .u8) (.app 2)]),(1,3,.box 1 [.str,.int .i64,.int .i64,.sl TField .d,.sl TInstr .d,.sl TRun .d,.sl TRun .d])],2,[2],3,[(.sl (.int .u8)),.str,(.int .i64),(.int .i64),(.sl TField),(.sl TInstr),(.sl TRun),(.sl TRun)]⟩)]
def L1042000_8 (N:Nat) (k:Nat) (x:(List (Instr))×(Int)×(Int)×(List (Int))×(List UInt8)×(Int)×(Int)×(List (Field))×(List (Instr))×(List (Run))×List (Run)):Option (((Int)×List (Int))⊕((List (Int))×(List UInt8)×(Int)×(Int)×(List (Field))×(List (Instr))×(List (Run))×List (Run))):=loopF (loopStep (E4 N) fuelW 1042000 8 (bodyAt t34 8) T1042000_8 O1042000_8) k x
theorem L1042000_8_succ (N:Nat) (k:Nat) (v64:List (Instr)) (v65:Int) (v66:Int) (v67:List (Int)) (v68:List UInt8) (v69:Int) (v70:Int) (v71:List (Field)) (v72:List (Instr)) (v73:List (Run)) (v74:List (Run)):L1042000_8 N (k+1) (v64,v65,v66,v67,v68,v69,v70,v71,v72,v73,v74) =
 (bif (decide (v66<v65))
 then (Option.bind (idx v64 v66) fun x75=>
 (Option.bind (F57 N (x75.1,x75.2.1,x75.2.2.1,x75.2.2.2)) fun y76=>
 (bif (y76.2 != (0:Int))
 then some (Sum.inl (y76.2,v67))
 else (chk (room (v67.length+y76.1.length) 1)
 (L1042000_8 N k (v64,v65,(wi64 (v66+(1:Int))),(v67++y76.1),v68,v69,v70,v71,v72,v73,v74))))))
 else some (Sum.inr (v67,v68,v69,v70,v71,v72,v73,v74))):=by kernel_rfl
def E5 (N:Nat):SEnv:=(E4 N).addLoop N 1042000 8 T1042000_8 O1042000_8
theorem ok5 (N:Nat):EnvOK tab (E5 N):=(ok4 N).addLoop N 1042000 8 T1042000_8 O1042000_8
def T1042000_21:Tmpl:=⟨[(0,.c (.ptr 0 4 0 0 0)),(3,.c (.ptr 1 3 1 0 0)),(70,.c (.sl (.sl TRun) .full)),(71,.c (.int .i64)),(72,.c (.int .i64))],[[(4,.c (.ptr 0 4 0 0 0))]],[(0,4,.box 0 [.sl (.int .u8) (.app 2)]),(1,3,.box 1 [.str,.int .i64,.int .i64,.sl TField .d,.sl TInstr .d,.sl TRun .d,.sl TRun .d])],2,[2],3,[(.sl (.sl TRun)),(.int .i64),(.int .i64),(.sl (.int .u8)),.str,(.int .i64),(.int .i64),(.sl TField),(.sl TInstr),(.sl TRun),(.sl TRun)]⟩
def O1042000_21:Outs:=[(.ret,⟨[(4,.c (.int .i64))],[[(4,.c (.ptr 0 4 0 0 0))]],[(0,4,.box 0 [.sl (.int .u8) (.app 1)])],2,[1],2,[(.int .i64),(.sl (.int .u8))]⟩),(.exit 2,⟨[],[[(4,.c (.ptr 0 4 0 0 0))]],[(0,4,.box 0 [.sl (.int .u8) (.app 1)])],2,[1],2,[(.sl (.int .u8))]⟩)]
def L1042000_21 (N:Nat) (k:Nat) (x:(List (List (Run)))×(Int)×(Int)×(List (Int))×(List UInt8)×(Int)×(Int)×(List (Field))×(List (Instr))×(List (Run))×List (Run)):Option (((Int)×List (Int))⊕(List (Int))):=loopF (loopStep (E5 N) fuelW 1042000 21 (bodyAt t34 21) T1042000_21 O1042000_21) k x
theorem L1042000_21_succ (N:Nat) (k:Nat) (v80:List (List (Run))) (v81:Int) (v82:Int) (v83:List (Int)) (v84:List UInt8) (v85:Int) (v86:Int) (v87:List (Field)) (v88:List (Instr)) (v89:List (Run)) (v90:List (Run)):L1042000_21 N (k+1) (v80,v81,v82,v83,v84,v85,v86,v87,v88,v89,v90) =
 (bif (decide (v82<v81))
 then (Option.bind (idx v80 v82) fun x91=>
 (Option.bind (F58 N (x91,(v88.length:Int))) fun y92=>
 (bif (y92.2 != (0:Int))
 then some (Sum.inl (y92.2,v83))
 else (chk (room (v83.length+y92.1.length) 1)
 (L1042000_21 N k (v80,v81,(wi64 (v82+(1:Int))),(v83++y92.1),v84,v85,v86,v87,v88,v89,v90))))))
 else some (Sum.inr v83)):=by kernel_rfl
def E6 (N:Nat):SEnv:=(E5 N).addLoop N 1042000 21 T1042000_21 O1042000_21
theorem ok6 (N:Nat):EnvOK tab (E6 N):=(ok5 N).addLoop N 1042000 21 T1042000_21 O1042000_21
def T0_19:Tmpl:=⟨[(4,.c (.ptr 0 4 0 0 0)),(35,.c (.sl TFunc .bor)),(36,.c (.int .i64)),(37,.c (.int .i64))],[],[(0,4,.box 0 [.sl (.int .u8) (.app 1)])],1,[1],2,[(.sl TFunc),(.int .i64),(.int .i64),(.sl (.int .u8))]⟩
def O0_19:Outs:=[(.ret,⟨[(2,.c (.nil true)),(3,.c (.int .i64))],[],[],1,[],0,[(.int .i64)]⟩),(.exit 2,⟨[(4,.c (.ptr 0 4 0 0 0))],[],[(0,4,.box 0 [.sl (.int .u8) (.app 1)])],1,[1],2,[(.sl (.int .u8))]⟩)]
def L0_19 (N:Nat) (k:Nat) (x:(List (Func))×(Int)×(Int)×List (Int)):Option ((Int)⊕(List (Int))):=loopF (loopStep (E6 N) fuelW 0 19 (bodyAt t11 19) T0_19 O0_19) k x
theorem L0_19_succ (N:Nat) (k:Nat) (v39:List (Func)) (v40:Int) (v41:Int) (v42:List (Int)):L0_19 N (k+1) (v39,v40,v41,v42) =
 (bif (decide (v41<v40))
 then (Option.bind (idx v39 v41) fun x43=>
 (Option.bind (F55 N (wu64 (x43.1.length:Int))) fun y44=>
 (chk (room (v42.length+y44.length) 1)
 ((chk (room ((v42++y44).length+(bytesL x43.1).length) 1)
 ((Option.bind (F55 N (wu64 x43.2.1)) fun y45=>
 (chk (room (((v42++y44)++(bytesL x43.1)).length+y45.length) 1)
 ((Option.bind (F56 N x43.2.2.1) fun y46=>
 (chk (room ((((v42++y44)++(bytesL x43.1))++y45).length+y46.length) 1)
 ((Option.bind (F55 N (wu64 (x43.2.2.2.1.length:Int))) fun y47=>
 (chk (room (((((v42++y44)++(bytesL x43.1))++y45)++y46).length+y47.length) 1)
 ((Option.bind (L1042001035000_3 N N (x43.2.2.2.1,(x43.2.2.2.1.length:Int),(0:Int),(((((v42++y44)++(bytesL x43.1))++y45)++y46)++y47),x43.1,x43.2.1,x43.2.2.1,x43.2.2.2.1,x43.2.2.2.2.1,x43.2.2.2.2.2.1,x43.2.2.2.2.2.2)) fun y62=>
 (Option.bind (F55 N (wu64 (y62.2.2.2.2.2.1.length:Int))) fun y63=>
 (chk (room (y62.1.length+y63.length) 1)
 ((Option.bind (L1042000_8 N N (y62.2.2.2.2.2.1,(y62.2.2.2.2.2.1.length:Int),(0:Int),(y62.1++y63),y62.2.1,y62.2.2.1,y62.2.2.2.1,y62.2.2.2.2.1,y62.2.2.2.2.2.1,y62.2.2.2.2.2.2.1,y62.2.2.2.2.2.2.2)) fun y77=>
 (match y77 with
 |.inl a78=>(bif (a78.1 != (0:Int))
 then some (Sum.inl a78.1)
 else L0_19 N k (v39,v40,(wi64 (v41+(1:Int))),a78.2))
 |.inr b79=>(Option.bind (L1042000_21 N N ([b79.2.2.2.2.2.2.1,b79.2.2.2.2.2.2.2],(2:Int),(0:Int),b79.1,b79.2.1,b79.2.2.1,b79.2.2.2.1,b79.2.2.2.2.1,b79.2.2.2.2.2.1,b79.2.2.2.2.2.2.1,b79.2.2.2.2.2.2.2)) fun y93=>
 (match y93 with
 |.inl a94=>(bif (a94.1 != (0:Int))
 then some (Sum.inl a94.1)
 else L0_19 N k (v39,v40,(wi64 (v41+(1:Int))),a94.2))
 |.inr b95=>L0_19 N k (v39,v40,(wi64 (v41+(1:Int))),b95))))))))))))))))))))))))
 else some (Sum.inr v42)):=by kernel_rfl
def E7 (N:Nat):SEnv:=(E6 N).addLoop N 0 19 T0_19 O0_19
theorem ok7 (N:Nat):EnvOK tab (E7 N):=(ok6 N).addLoop N 0 19 T0_19 O0_19
end f11
def F11 (N:Nat) (x:(List (GType))×(List (List UInt8))×List (Func)):Option ((List (Int))×Int):=fnRun (f11.E7 N) fuelW 11 f11.args f11.ta f11.res f11.tr 0 x
open f11 in
theorem F11_eq (N:Nat) (p0:List (GType)) (p1:List (List UInt8)) (p2:List (Func)):F11 N (p0,p1,p2) =
 (Option.bind (F30 N (p0,p1,p2)) fun y0=>
 (bif (!y0)
 then some ([],(8:Int))
 else (Option.bind (F55 N (wu64 (p0.length:Int))) fun y1=>
 (chk (room y1.length 1)
 ((Option.bind (L1015000_3 N N (p0,(p0.length:Int),(0:Int),y1,p0,p1,p2)) fun y26=>
 (Option.bind (F55 N (wu64 (y26.2.1.length:Int))) fun y27=>
 (chk (room (y26.2.2.2.length+y27.length) 1)
 ((Option.bind (L0_9 N N (y26.2.1,(y26.2.1.length:Int),(0:Int),y26.1,y26.2.1,y26.2.2.1,(y26.2.2.2++y27))) fun y37=>
 (Option.bind (F55 N (wu64 (y37.2.2.1.length:Int))) fun y38=>
 (chk (room (y37.2.2.2.length+y38.length) 1)
 ((Option.bind (L0_19 N N (y37.2.2.1,(y37.2.2.1.length:Int),(0:Int),(y37.2.2.2++y38))) fun y96=>
 (match y96 with
 |.inl a97=>some ([],a97)
 |.inr b98=>(bif (decide ((b98.length:Int)>(20000:Int)))
 then some ([],(4:Int))
 else some (b98,(0:Int)))))))))))))))))):=by kernel_rfl
def c11 (N:Nat):Sym.Callee:=⟨f11.args,f11.ta,f11.res,f11.tr,0,F11 N⟩
theorem ok11 (N:Nat):CalOK tab 11 (c11 N):=fn_ok (f11.ok7 N) fuelW 11 f11.args f11.ta f11.res f11.tr 0
namespace f17
def args:List PSh:=[.agg [.sl TGType .d,.sl .str .d,.sl TFunc .d]]
def ta:List Ty:=[(.sl TGType),(.sl .str),(.sl TFunc)]
def res:List (Bool×List CSh):=[(false,[.int .i64])]
def tr:List Ty:=[(.int .i64)]
def E0 (N:Nat):SEnv:=(SEnv.base tab cuts ccut bcut unr ety).addCal 11 (c11 N)
theorem ok0 (N:Nat):EnvOK tab (E0 N):=(base_ok tab cuts ccut bcut unr ety).addCal (ok11 N)
end f17
def F17 (N:Nat) (x:(List (GType))×(List (List UInt8))×List (Func)):Option (Int):=fnRun (f17.E0 N) fuelW 17 f17.args f17.ta f17.res f17.tr 0 x
open f17 in
theorem F17_eq (N:Nat) (p0:List (GType)) (p1:List (List UInt8)) (p2:List (Func)):F17 N (p0,p1,p2) =
 (Option.bind (F11 N (p0,p1,p2)) fun y0=>
 some y0.2):=by kernel_rfl
def c17 (N:Nat):Sym.Callee:=⟨f17.args,f17.ta,f17.res,f17.tr,0,F17 N⟩
theorem ok17 (N:Nat):CalOK tab 17 (c17 N):=fn_ok (f17.ok0 N) fuelW 17 f17.args f17.ta f17.res f17.tr 0
namespace f13
def bcut:Nat→Nat→Option (Nat×Ty):=fun c i=>match c,i with
 |0,5=>some (37,.bool)
 |_,_=>none
def args:List PSh:=[.agg [.sl TGType .bor,.sl .str .bor,.sl TFunc .bor],.c (.int .i64),.c (.int .i64)]
def ta:List Ty:=[(.sl TGType),(.sl .str),(.sl TFunc),(.int .i64),(.int .i64)]
def res:List (Bool×List CSh):=[(false,[.int .u64]),(false,[.int .i64])]
def tr:List Ty:=[(.int .u64),(.int .i64)]
def E0 (N:Nat):SEnv:=(SEnv.base tab cuts ccut bcut unr ety).addCal 17 (c17 N)
theorem ok0 (N:Nat):EnvOK tab (E0 N):=(base_ok tab cuts ccut bcut unr ety).addCal (ok17 N)
end f13
def F13 (N:Nat) (x:(List (GType))×(List (List UInt8))×(List (Func))×(Int)×Int):Option ((Int)×Int):=fnRun (f13.E0 N) fuelW 13 f13.args f13.ta f13.res f13.tr 0 x
open f13 in
theorem F13_eq (N:Nat) (p0:List (GType)) (p1:List (List UInt8)) (p2:List (Func)) (p3:Int) (p4:Int):F13 N (p0,p1,p2,p3,p4) =
 (Option.bind (F17 N (p0,p1,p2)) fun y0=>
 (bif (y0 != (0:Int))
 then some ((0:Int),y0)
 else (Option.bind ((bif (decide (p3<(0:Int)))
 then some true
 else (bif (decide (p3≥(p2.length:Int)))
 then some true
 else (bif (decide (p4<(0:Int)))
 then some true
 else (Option.bind (idx p2 p3) fun x1=>
 some (decide (p4≥(x1.2.2.2.2.1.length:Int)))))))) fun b2=>
 (bif b2
 then some ((0:Int),(2:Int))
 else some ((ior .u64 (wu64 ((wu64 (wi64 (p3+(1:Int))))*256)) (wu64 p4)),(0:Int)))))):=by kernel_rfl
def c13 (N:Nat):Sym.Callee:=⟨f13.args,f13.ta,f13.res,f13.tr,0,F13 N⟩
theorem ok13 (N:Nat):CalOK tab 13 (c13 N):=fn_ok (f13.ok0 N) fuelW 13 f13.args f13.ta f13.res f13.tr 0
namespace f15
def bcut:Nat→Nat→Option (Nat×Ty):=fun c i=>match c,i with
 |0,6=>some (40,.bool)
 |_,_=>none
def args:List PSh:=[.agg [.sl TGType .bor,.sl .str .bor,.sl TFunc .bor],.c (.int .u64)]
def ta:List Ty:=[(.sl TGType),(.sl .str),(.sl TFunc),(.int .u64)]
def res:List (Bool×List CSh):=[(false,[.int .i64]),(false,[.int .i64]),(false,[.int .i64])]
def tr:List Ty:=[(.int .i64),(.int .i64),(.int .i64)]
def E0 (N:Nat):SEnv:=(SEnv.base tab cuts ccut bcut unr ety).addCal 17 (c17 N)
theorem ok0 (N:Nat):EnvOK tab (E0 N):=(base_ok tab cuts ccut bcut unr ety).addCal (ok17 N)
end f15
def F15 (N:Nat) (x:(List (GType))×(List (List UInt8))×(List (Func))×Int):Option ((Int)×(Int)×Int):=fnRun (f15.E0 N) fuelW 15 f15.args f15.ta f15.res f15.tr 0 x
open f15 in
theorem F15_eq (N:Nat) (p0:List (GType)) (p1:List (List UInt8)) (p2:List (Func)) (p3:Int):F15 N (p0,p1,p2,p3) =
 (Option.bind (F17 N (p0,p1,p2)) fun y0=>
 (bif (y0 != (0:Int))
 then some ((0:Int),(0:Int),y0)
 else (Option.bind ((bif ((Int.fdiv p3 256)==(0:Int))
 then some true
 else (bif (decide ((Int.fdiv p3 256)>(wu64 (p2.length:Int))))
 then some true
 else (Option.bind (idx p2 (wu64 ((Int.fdiv p3 256)-(1:Int)))) fun x1=>
 some (decide ((wi64 (iand .u64 p3 (255:Int)))≥(x1.2.2.2.2.1.length:Int))))))) fun b2=>
 (bif b2
 then some ((0:Int),(0:Int),(6:Int))
 else some ((wi64 ((wi64 (Int.fdiv p3 256))-(1:Int))),(wi64 (iand .u64 p3 (255:Int))),(0:Int)))))):=by kernel_rfl
def c15 (N:Nat):Sym.Callee:=⟨f15.args,f15.ta,f15.res,f15.tr,0,F15 N⟩
theorem ok15 (N:Nat):CalOK tab 15 (c15 N):=fn_ok (f15.ok0 N) fuelW 15 f15.args f15.ta f15.res f15.tr 0
namespace f24
def bcut:Nat→Nat→Option (Nat×Ty):=fun c i=>match c,i with
 |0,4=>some (4,.bool)
 |_,_=>none
def args:List PSh:=[.agg [.sl TGType .d,.sl .str .d,.sl TFunc .d],.c (.int .i64)]
def ta:List Ty:=[(.sl TGType),(.sl .str),(.sl TFunc),(.int .i64)]
def res:List (Bool×List CSh):=[(false,[.bool])]
def tr:List Ty:=[.bool]
def E0 (N:Nat):SEnv:=((((SEnv.base tab cuts ccut bcut unr ety).addCal 11 (c11 N)).addCal 13 (c13 N)).addCal 15 (c15 N)).addCal 17 (c17 N)
theorem ok0 (N:Nat):EnvOK tab (E0 N):=((((base_ok tab cuts ccut bcut unr ety).addCal (ok11 N)).addCal (ok13 N)).addCal (ok15 N)).addCal (ok17 N)
end f24
def F24 (N:Nat) (x:(List (GType))×(List (List UInt8))×(List (Func))×Int):Option (Bool):=fnRun (f24.E0 N) fuelW 24 f24.args f24.ta f24.res f24.tr 0 x
open f24 in
theorem F24_eq (N:Nat) (p0:List (GType)) (p1:List (List UInt8)) (p2:List (Func)) (p3:Int):F24 N (p0,p1,p2,p3) =
 (Option.bind (F11 N (p0,p1,p2)) fun y0=>
 (Option.bind (F13 N (p0,p1,p2,(-1:Int),(-1:Int))) fun y1=>
 (Option.bind (F15 N (p0,p1,p2,(0:Int))) fun y2=>
 (Option.bind ((Option.bind (F17 N (p0,p1,p2)) fun y3=>
 (bif (y3==p3)
 then (bif (y0.2==p3)
 then (bif (y1.2==p3)
 then some (y2.2.2==p3)
 else some false)
 else some false)
 else some false))) fun b4=>
 some b4)))):=by kernel_rfl
def c24 (N:Nat):Sym.Callee:=⟨f24.args,f24.ta,f24.res,f24.tr,0,F24 N⟩
theorem ok24 (N:Nat):CalOK tab 24 (c24 N):=fn_ok (f24.ok0 N) fuelW 24 f24.args f24.ta f24.res f24.tr 0
namespace f27
def ety:Nat→Nat→Option Ty:=fun c d=>match c,d with
 |0,17=>some (.int .u8)
 |0,21=>some TRun
 |0,23=>some TRun
 |0,32=>some TInstr
 |0,38=>some TFunc
 |_,_=>none
def args:List PSh:=[.c (.int .i64),.agg [.int .u8,.int .i64,.int .i64,.int .i64]]
def ta:List Ty:=[(.int .i64),(.int .u8),(.int .i64),(.int .i64),(.int .i64)]
def res:List (Bool×List CSh):=[(true,[.sl TGType .d,.sl .str .d,.sl TFunc .d])]
def tr:List Ty:=[(.sl TGType),(.sl .str),(.sl TFunc)]
def E0 (N:Nat):SEnv:=SEnv.base tab cuts ccut bcut unr ety
theorem ok0 (N:Nat):EnvOK tab (E0 N):=base_ok tab cuts ccut bcut unr ety
def T0_11:Tmpl:=⟨[(0,.c (.int .i64)),(3,.c (.ptr 0 3 0 0 0)),(4,.c (.ptr 0 4 1 0 0)),(5,.c (.ptr 0 5 2 0 0)),(6,.c (.int .i64)),(7,.c (.ptr 0 7 3 0 0)),(8,.c (.int .i64))],[],[(0,3,.box 0 [.int .u8,.int .i64,.int .i64,.int .i64]),(0,4,.box 1 [.nil true,.nil true,.nil true]),(0,5,.box 2 [.nil true,.nil true,.sl TFunc (.app 5)]),(0,7,.box 3 [.str,.int .i64,.int .i64,.nil true,.sl TInstr (.app 4),.sl TRun .full,.sl TRun .full])],1,[5,4],6,[(.int .i64),(.int .i64),(.int .i64),(.int .u8),(.int .i64),(.int .i64),(.int .i64),(.sl TFunc),.str,(.int .i64),(.int .i64),(.sl TInstr),(.sl TRun),(.sl TRun)]⟩
def O0_11:Outs:=[(.exit 2,⟨[(0,.c (.int .i64)),(3,.c (.ptr 0 3 0 0 0)),(4,.c (.ptr 0 4 1 0 0)),(5,.c (.ptr 0 5 2 0 0)),(6,.c (.int .i64)),(7,.c (.ptr 0 7 3 0 0))],[],[(0,3,.box 0 [.int .u8,.int .i64,.int .i64,.int .i64]),(0,4,.box 1 [.nil true,.nil true,.nil true]),(0,5,.box 2 [.nil true,.nil true,.sl TFunc (.app 4)]),(0,7,.box 3 [.str,.int .i64,.int .i64,.nil true,.sl TInstr (.app 5),.sl TRun .full,.sl TRun .full])],1,[4,5],6,[(.int .i64),(.int .i64),(.int .u8),(.int .i64),(.int .i64),(.int .i64),(.sl TFunc),.str,(.int .i64),(.int .i64),(.sl TInstr),(.sl TRun),(.sl TRun)]⟩)]
def L0_11 (N:Nat) (k:Nat) (x:(Int)×(Int)×(Int)×(Int)×(Int)×(Int)×(Int)×(List (Func))×(List UInt8)×(Int)×(Int)×(List (Instr))×(List (Run))×List (Run)):Option (((Int)×(Int)×(Int)×(Int)×(Int)×(Int)×(List (Func))×(List UInt8)×(Int)×(Int)×(List (Instr))×(List (Run))×List (Run))):=loopF (loopStep (E0 N) fuelW 0 11 (bodyAt t27 11) T0_11 O0_11) k x
theorem L0_11_succ (N:Nat) (k:Nat) (v7:Int) (v8:Int) (v9:Int) (v10:Int) (v11:Int) (v12:Int) (v13:Int) (v14:List (Func)) (v15:List UInt8) (v16:Int) (v17:Int) (v18:List (Instr)) (v19:List (Run)) (v20:List (Run)):L0_11 N (k+1) (v7,v8,v9,v10,v11,v12,v13,v14,v15,v16,v17,v18,v19,v20) =
 (bif (decide (v9<(200:Int)))
 then (chk (room (v18.length+1) 32)
 (L0_11 N k (v7,v8,(wi64 (v9+(1:Int))),v10,v11,v12,v13,v14,v15,v16,v17,(v18++[(v10,v11,v12,v13)]),v19,v20)))
 else some (v7,v8,v10,v11,v12,v13,v14,v15,v16,v17,v18,v19,v20)):=by kernel_rfl
def E1 (N:Nat):SEnv:=(E0 N).addLoop N 0 11 T0_11 O0_11
theorem ok1 (N:Nat):EnvOK tab (E1 N):=(ok0 N).addLoop N 0 11 T0_11 O0_11
def T0_4:Tmpl:=⟨[(0,.c (.int .i64)),(3,.c (.ptr 0 3 0 0 0)),(4,.c (.ptr 0 4 1 0 0)),(5,.c (.ptr 0 5 2 0 0)),(6,.c (.int .i64))],[],[(0,3,.box 0 [.int .u8,.int .i64,.int .i64,.int .i64]),(0,4,.box 1 [.nil true,.nil true,.nil true]),(0,5,.box 2 [.nil true,.nil true,.sl TFunc (.app 3)])],1,[3],4,[(.int .i64),(.int .i64),(.int .u8),(.int .i64),(.int .i64),(.int .i64),(.sl TFunc)]⟩
def O0_4:Outs:=[(.exit 0,⟨[(4,.c (.ptr 0 4 0 0 0)),(5,.c (.ptr 0 5 1 0 0))],[],[(0,4,.box 0 [.nil true,.nil true,.nil true]),(0,5,.box 1 [.nil true,.nil true,.sl TFunc (.app 2)])],1,[2],3,[(.sl TFunc)]⟩)]
def L0_4 (N:Nat) (k:Nat) (x:(Int)×(Int)×(Int)×(Int)×(Int)×(Int)×List (Func)):Option ((List (Func))):=loopF (loopStep (E1 N) fuelW 0 4 (bodyAt t27 4) T0_4 O0_4) k x
theorem L0_4_succ (N:Nat) (k:Nat) (v0:Int) (v1:Int) (v2:Int) (v3:Int) (v4:Int) (v5:Int) (v6:List (Func)):L0_4 N (k+1) (v0,v1,v2,v3,v4,v5,v6) =
 (bif (decide (v1<v0))
 then (chk (!decide ((([102].length+([(wu8 (wi64 ((97:Int)+v1)))].map fun (n:Int)=>UInt8.ofNat n.toNat).length:Nat):Int)>IntKind.i64.max))
 ((Option.bind (L0_11 N N (v0,v1,(0:Int),v2,v3,v4,v5,v6,([102]++([(wu8 (wi64 ((97:Int)+v1)))].map fun (n:Int)=>UInt8.ofNat n.toNat)),(0:Int),(-1:Int),[],[((0:Int),(0:Int))],[((0:Int),(0:Int))])) fun y21=>
 (chk (room (y21.2.2.2.2.2.2.1.length+1) 128)
 (L0_4 N k (y21.1,(wi64 (y21.2.1+(1:Int))),y21.2.2.1,y21.2.2.2.1,y21.2.2.2.2.1,y21.2.2.2.2.2.1,(y21.2.2.2.2.2.2.1++[(y21.2.2.2.2.2.2.2.1,y21.2.2.2.2.2.2.2.2.1,y21.2.2.2.2.2.2.2.2.2.1,[],y21.2.2.2.2.2.2.2.2.2.2)])))))))
 else some v6):=by kernel_rfl
def E2 (N:Nat):SEnv:=(E1 N).addLoop N 0 4 T0_4 O0_4
theorem ok2 (N:Nat):EnvOK tab (E2 N):=(ok1 N).addLoop N 0 4 T0_4 O0_4
end f27
def F27 (N:Nat) (x:(Int)×(Int)×(Int)×(Int)×Int):Option ((List (GType))×(List (List UInt8))×List (Func)):=fnRun (f27.E2 N) fuelW 27 f27.args f27.ta f27.res f27.tr 0 x
open f27 in
theorem F27_eq (N:Nat) (p0:Int) (p1:Int) (p2:Int) (p3:Int) (p4:Int):F27 N (p0,p1,p2,p3,p4) =
 (Option.bind (L0_4 N N (p0,(0:Int),p1,p2,p3,p4,[])) fun y22=>
 some ([],[],y22)):=by kernel_rfl
def c27 (N:Nat):Sym.Callee:=⟨f27.args,f27.ta,f27.res,f27.tr,0,F27 N⟩
theorem ok27 (N:Nat):CalOK tab 27 (c27 N):=fn_ok (f27.ok2 N) fuelW 27 f27.args f27.ta f27.res f27.tr 0
end
end Go.Proofs.Ytlfhlggkbcncoaa
