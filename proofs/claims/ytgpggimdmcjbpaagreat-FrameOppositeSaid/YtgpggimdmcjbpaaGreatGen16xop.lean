/- What the functions compute. -/
import Derived.Test.YtgpggimdmcjbpaaGreatTab16xop
namespace Go.Proofs.YtgpggimdmcjbpaaGreat
set_option linter.unusedVariables false
open Go Go.Eng Go.Sym
noncomputable section
@[reducible] def TField:Ty:=(.prod .str (.int .i64))
abbrev Field:Type:=(List UInt8)×(Int)
@[reducible] def TerrorAddressString:Ty:=(.prod .str (.int .u64))
abbrev errorAddressString:Type:=(List UInt8)×(Int)
@[reducible] def TRun:Ty:=(.prod (.int .i64) (.int .u64))
abbrev Run:Type:=(Int)×(Int)
@[reducible] def Textent:Ty:=(.prod (.int .i64) (.int .i64))
abbrev extent:Type:=(Int)×(Int)
@[reducible] def TRegion:Ty:=(.prod (.int .u64) (.sl (.int .u8)))
abbrev Region:Type:=(Int)×(List (Int))
@[reducible] def Tuse:Ty:=(.prod (.int .i64) (.prod (.int .i64) (.prod .bool .bool)))
abbrev use:Type:=(Int)×((Int)×((Bool)×(Bool)))
@[reducible] def TInstr:Ty:=(.prod (.int .u8) (.prod (.int .i64) Textent))
abbrev Instr:Type:=(Int)×((Int)×(extent))
@[reducible] def TboundsError:Ty:=(.prod (.int .i64) (.prod (.int .i64) (.prod .bool (.int .u8))))
abbrev boundsError:Type:=(Int)×((Int)×((Bool)×(Int)))
@[reducible] def TSpot:Ty:=(.prod (.int .u64) (.prod (.int .i64) (.prod (.int .i64) (.prod (.int .u64) (.int .u64)))))
abbrev Spot:Type:=(Int)×((Int)×((Int)×((Int)×(Int))))
@[reducible] def TGType:Ty:=(.prod (.int .u8) (.prod (.int .i64) (.prod (.int .i64) (.sl TField))))
abbrev GType:Type:=(Int)×((Int)×((Int)×(List (Field))))
@[reducible] def TFunc:Ty:=(.prod .str (.prod (.int .i64) (.prod (.int .i64) (.prod (.sl TField) (.prod (.sl TInstr) (.prod (.sl TRun) (.sl TRun)))))))
abbrev Func:Type:=(List UInt8)×((Int)×((Int)×((List (Field))×((List (Instr))×((List (Run))×(List (Run)))))))
@[reducible] def TImage:Ty:=(.prod (.sl TGType) (.prod (.sl .str) (.sl TFunc)))
abbrev Image:Type:=(List (GType))×((List (List UInt8))×(List (Func)))
def cuts:Nat→Nat→Option Outs:=fun _ _=>none
def ccut:Nat→Nat→Option Outs:=fun _ _=>none
def bcut:Nat→Nat→Option (Nat×Ty):=fun _ _=>none
def unr:Nat→Nat→Bool:=fun _ _=>false
def ety:Nat→Nat→Option Ty:=fun _ _=>none
namespace f103
def bcut:Nat→Nat→Option (Nat×Ty):=fun c i=>match c,i with
 |0,1=>some (4,.bool)
 |_,_=>none
def args:List PSh:=[.c (.int .i64),.c (.int .i64)]
def ta:List Ty:=[(.int .i64),(.int .i64)]
def res:List (Bool×List CSh):=[(false,[.bool])]
def tr:List Ty:=[.bool]
def E0 (N:Nat):SEnv:=SEnv.base tab cuts ccut bcut unr ety
theorem ok0 (N:Nat):EnvOK tab (E0 N):=base_ok tab cuts ccut bcut unr ety
end f103
def F103 (N:Nat) (x:(Int)×Int):Option (Bool):=fnRun (f103.E0 N) fuelW 103 f103.args f103.ta f103.res f103.tr 0 x
open f103 in
theorem F103_eq (N:Nat) (p0:Int) (p1:Int):F103 N (p0,p1) =
 (Option.bind ((bif (decide (p0≥(0:Int)))
 then some (decide (p0<p1))
 else some false)) fun b0=>
 some b0):=by kernel_rfl
def c103 (N:Nat):Sym.Callee:=⟨f103.args,f103.ta,f103.res,f103.tr,0,F103 N⟩
theorem ok103 (N:Nat):CalOK tab 103 (c103 N):=fn_ok (f103.ok0 N) fuelW 103 f103.args f103.ta f103.res f103.tr 0
namespace f112
def args:List PSh:=[.c (.int .i64)]
def ta:List Ty:=[(.int .i64)]
def res:List (Bool×List CSh):=[(false,[.bool])]
def tr:List Ty:=[.bool]
def E0 (N:Nat):SEnv:=SEnv.base tab cuts ccut bcut unr ety
theorem ok0 (N:Nat):EnvOK tab (E0 N):=base_ok tab cuts ccut bcut unr ety
end f112
def F112 (N:Nat) (x:Int):Option (Bool):=fnRun (f112.E0 N) fuelW 112 f112.args f112.ta f112.res f112.tr 0 x
open f112 in
theorem F112_eq (N:Nat) (p0:Int):F112 N p0 =
 some (p0 != (0:Int)):=by kernel_rfl
def c112 (N:Nat):Sym.Callee:=⟨f112.args,f112.ta,f112.res,f112.tr,0,F112 N⟩
theorem ok112 (N:Nat):CalOK tab 112 (c112 N):=fn_ok (f112.ok0 N) fuelW 112 f112.args f112.ta f112.res f112.tr 0
namespace f104
def args:List PSh:=[.c (.sl (.int .i64) .bor)]
def ta:List Ty:=[(.sl (.int .i64))]
def res:List (Bool×List CSh):=[(false,[.bool])]
def tr:List Ty:=[.bool]
def E0 (N:Nat):SEnv:=(SEnv.base tab cuts ccut bcut unr ety).addCal 112 (c112 N)
theorem ok0 (N:Nat):EnvOK tab (E0 N):=(base_ok tab cuts ccut bcut unr ety).addCal (ok112 N)
def T1004001007000_3:Tmpl:=⟨[(0,.c (.sl (.int .i64) .bor)),(1,.clo 112 []),(7,.c (.int .i64)),(8,.c (.int .i64))],[[],[]],[],3,[],0,[(.sl (.int .i64)),(.int .i64),(.int .i64)]⟩
def O1004001007000_3:Outs:=[(.ret,⟨[(4,.c (.int .i64))],[[],[]],[],3,[],0,[(.int .i64)]⟩),(.exit 0,⟨[],[[],[]],[],3,[],0,[]⟩)]
def L1004001007000_3 (N:Nat) (k:Nat) (x:(List (Int))×(Int)×Int):Option ((Int)⊕(Unit)):=loopF (loopStep (E0 N) fuelW 1004001007000 3 (bodyAt t120 3) T1004001007000_3 O1004001007000_3) k x
theorem L1004001007000_3_succ (N:Nat) (k:Nat) (v0:List (Int)) (v1:Int) (v2:Int):L1004001007000_3 N (k+1) (v0,v1,v2) =
 (bif (decide (v2<v1))
 then (Option.bind (idx v0 v2) fun x3=>
 (Option.bind (F112 N x3) fun y4=>
 (bif y4
 then some (Sum.inl v2)
 else L1004001007000_3 N k (v0,v1,(wi64 (v2+(1:Int)))))))
 else some (Sum.inr ())):=by kernel_rfl
def E1 (N:Nat):SEnv:=(E0 N).addLoop N 1004001007000 3 T1004001007000_3 O1004001007000_3
theorem ok1 (N:Nat):EnvOK tab (E1 N):=(ok0 N).addLoop N 1004001007000 3 T1004001007000_3 O1004001007000_3
end f104
def F104 (N:Nat) (x:List (Int)):Option (Bool):=fnRun (f104.E1 N) fuelW 104 f104.args f104.ta f104.res f104.tr 0 x
open f104 in
theorem F104_eq (N:Nat) (p0:List (Int)):F104 N p0 =
 (Option.bind (L1004001007000_3 N N (p0,(p0.length:Int),(0:Int))) fun y5=>
 (match y5 with
 |.inl a6=>some (!(decide (a6≥(0:Int))))
 |.inr b7=>some (!(decide ((-1:Int)≥(0:Int)))))):=by kernel_rfl
def c104 (N:Nat):Sym.Callee:=⟨f104.args,f104.ta,f104.res,f104.tr,0,F104 N⟩
theorem ok104 (N:Nat):CalOK tab 104 (c104 N):=fn_ok (f104.ok1 N) fuelW 104 f104.args f104.ta f104.res f104.tr 0
namespace f105
def bcut:Nat→Nat→Option (Nat×Ty):=fun c i=>match c,i with
 |0,1=>some (17,.bool)
 |0,11=>some (45,.bool)
 |_,_=>none
def args:List PSh:=[.c (.str)]
def ta:List Ty:=[.str]
def res:List (Bool×List CSh):=[(false,[.bool])]
def tr:List Ty:=[.bool]
def E0 (N:Nat):SEnv:=SEnv.base tab cuts ccut bcut unr ety
theorem ok0 (N:Nat):EnvOK tab (E0 N):=base_ok tab cuts ccut bcut unr ety
def T0_6:Tmpl:=⟨[(19,.c (.sl (.int .u8) .d)),(20,.c (.int .i64)),(21,.c (.int .i64))],[],[],1,[],0,[(.sl (.int .u8)),(.int .i64),(.int .i64)]⟩
def O0_6:Outs:=[(.ret,⟨[(2,.c (.bool))],[],[],1,[],0,[.bool]⟩),(.exit 0,⟨[],[],[],1,[],0,[]⟩)]
def L0_6 (N:Nat) (k:Nat) (x:(List (Int))×(Int)×Int):Option ((Bool)⊕(Unit)):=loopF (loopStep (E0 N) fuelW 0 6 (bodyAt t105 6) T0_6 O0_6) k x
theorem L0_6_succ (N:Nat) (k:Nat) (v2:List (Int)) (v3:Int) (v4:Int):L0_6 N (k+1) (v2,v3,v4) =
 (bif (decide (v4<v3))
 then (Option.bind (idx v2 v4) fun x5=>
 (Option.bind ((bif (decide ((ior .u8 x5 (32:Int))<(97:Int)))
 then (bif (decide (x5<(48:Int)))
 then some true
 else some (decide (x5>(57:Int))))
 else (bif (decide ((ior .u8 x5 (32:Int))>(122:Int)))
 then (bif (decide (x5<(48:Int)))
 then some true
 else some (decide (x5>(57:Int))))
 else (bif ((iand .u8 x5 (64:Int))==(0:Int))
 then (bif (decide (x5<(48:Int)))
 then some true
 else some (decide (x5>(57:Int))))
 else some false)))) fun b6=>
 (bif b6
 then some (Sum.inl false)
 else L0_6 N k (v2,v3,(wi64 (v4+(1:Int)))))))
 else some (Sum.inr ())):=by kernel_rfl
def E1 (N:Nat):SEnv:=(E0 N).addLoop N 0 6 T0_6 O0_6
theorem ok1 (N:Nat):EnvOK tab (E1 N):=(ok0 N).addLoop N 0 6 T0_6 O0_6
end f105
def F105 (N:Nat) (x:List UInt8):Option (Bool):=fnRun (f105.E1 N) fuelW 105 f105.args f105.ta f105.res f105.tr 0 x
open f105 in
theorem F105_eq (N:Nat) (p0:List UInt8):F105 N p0 =
 (Option.bind ((bif ((p0.length:Int)==(0:Int))
 then some true
 else (bif (decide ((p0.length:Int)>(16:Int)))
 then some true
 else (Option.bind (idx p0 (0:Int)) fun c0=>
 some (decide ((c0.toNat:Int)≤(57:Int))))))) fun b1=>
 (bif b1
 then some false
 else (Option.bind (L0_6 N N ((bytesL p0),((bytesL p0).length:Int),(0:Int))) fun y7=>
 (match y7 with
 |.inl a8=>some a8
 |.inr b9=>some true)))):=by kernel_rfl
def c105 (N:Nat):Sym.Callee:=⟨f105.args,f105.ta,f105.res,f105.tr,0,F105 N⟩
theorem ok105 (N:Nat):CalOK tab 105 (c105 N):=fn_ok (f105.ok1 N) fuelW 105 f105.args f105.ta f105.res f105.tr 0
namespace f92
def bcut:Nat→Nat→Option (Nat×Ty):=fun c i=>match c,i with
 |0,8=>some (16,.bool)
 |0,6=>some (16,.bool)
 |0,13=>some (29,.bool)
 |_,_=>none
def args:List PSh:=[.c (.sl TGType .bor),.c (.int .i64)]
def ta:List Ty:=[(.sl TGType),(.int .i64)]
def res:List (Bool×List CSh):=[(false,[.bool])]
def tr:List Ty:=[.bool]
def E0 (N:Nat):SEnv:=(((SEnv.base tab cuts ccut bcut unr ety).addCal 104 (c104 N)).addCal 103 (c103 N)).addCal 105 (c105 N)
theorem ok0 (N:Nat):EnvOK tab (E0 N):=(((base_ok tab cuts ccut bcut unr ety).addCal (ok104 N)).addCal (ok103 N)).addCal (ok105 N)
def T0_25:Tmpl:=⟨[(1,.c (.int .i64)),(5,.c (.ptr 0 5 0 0 0)),(6,.clo 103 []),(7,.c (.mp 0 70 1)),(72,.c (.sl TField .d)),(73,.c (.int .i64)),(74,.c (.int .i64))],[],[(0,5,.box 0 [.int .u8,.int .i64,.int .i64,.sl TField .d]),(0,70,.set 1)],1,[],2,[(.int .i64),(.sl TField),(.int .i64),(.int .i64),(.int .u8),(.int .i64),(.int .i64),(.sl TField),(.sl .str)]⟩
def O0_25:Outs:=[(.ret,⟨[(4,.c (.bool))],[],[],1,[],0,[.bool]⟩),(.exit 1,⟨[(5,.c (.ptr 0 5 0 0 0))],[],[(0,5,.box 0 [.int .u8,.int .i64,.int .i64,.sl TField .d])],1,[],1,[(.int .u8),(.int .i64),(.int .i64),(.sl TField)]⟩)]
def L0_25 (N:Nat) (k:Nat) (x:(Int)×(List (Field))×(Int)×(Int)×(Int)×(Int)×(Int)×(List (Field))×List (List UInt8)):Option ((Bool)⊕((Int)×(Int)×(Int)×List (Field))):=loopF (loopStep (E0 N) fuelW 0 25 (bodyAt t92 25) T0_25 O0_25) k x
theorem L0_25_succ (N:Nat) (k:Nat) (v10:Int) (v11:List (Field)) (v12:Int) (v13:Int) (v14:Int) (v15:Int) (v16:Int) (v17:List (Field)) (v18:List (List UInt8)):L0_25 N (k+1) (v10,v11,v12,v13,v14,v15,v16,v17,v18) =
 (bif (decide (v13<v12))
 then (Option.bind (idx v11 v13) fun x19=>
 (Option.bind (F105 N x19.1) fun y20=>
 (bif (!y20)
 then some (Sum.inl false)
 else (bif (hasB v18 x19.1)
 then some (Sum.inl false)
 else (Option.bind (F103 N (x19.2,v10)) fun y21=>
 (bif (!y21)
 then some (Sum.inl false)
 else L0_25 N k (v10,v11,v12,(wi64 (v13+(1:Int))),v14,v15,v16,v17,(addB v18 x19.1))))))))
 else some (Sum.inr (v14,v15,v16,v17))):=by kernel_rfl
def E1 (N:Nat):SEnv:=(E0 N).addLoop N 0 25 T0_25 O0_25
theorem ok1 (N:Nat):EnvOK tab (E1 N):=(ok0 N).addLoop N 0 25 T0_25 O0_25
end f92
def F92 (N:Nat) (x:(List (GType))×Int):Option (Bool):=fnRun (f92.E1 N) fuelW 92 f92.args f92.ta f92.res f92.tr 0 x
open f92 in
theorem F92_eq (N:Nat) (p0:List (GType)) (p1:Int):F92 N (p0,p1) =
 (Option.bind (idx p0 p1) fun x0=>
 (Option.bind ((bif (x0.1==(1:Int))
 then some true
 else (Option.bind ((bif (x0.1==(2:Int))
 then some true
 else some (x0.1==(3:Int)))) fun b1=>
 some b1))) fun b2=>
 (bif b2
 then (Option.bind (F104 N [x0.2.1,x0.2.2.1,(x0.2.2.2.length:Int)]) fun y3=>
 some y3)
 else (Option.bind ((bif (x0.1==(4:Int))
 then some true
 else some (x0.1==(7:Int)))) fun b4=>
 (bif b4
 then (Option.bind (F103 N (x0.2.1,(p0.length:Int))) fun y5=>
 (bif y5
 then (Option.bind (F104 N [x0.2.2.1,(x0.2.2.2.length:Int)]) fun y6=>
 some y6)
 else some false))
 else (bif (x0.1==(6:Int))
 then (Option.bind (F103 N (x0.2.1,p1)) fun y7=>
 (bif y7
 then (Option.bind (F103 N ((wi64 (x0.2.2.1-(1:Int))),(16:Int))) fun y8=>
 (bif y8
 then (Option.bind (F104 N [(x0.2.2.2.length:Int)]) fun y9=>
 some y9)
 else some false))
 else some false))
 else (bif (x0.1==(5:Int))
 then (Option.bind (L0_25 N N (p1,x0.2.2.2,(x0.2.2.2.length:Int),(0:Int),x0.1,x0.2.1,x0.2.2.1,x0.2.2.2,([]:List (List UInt8)))) fun y22=>
 (match y22 with
 |.inl a23=>some a23
 |.inr b24=>(Option.bind (F104 N [b24.2.1,b24.2.2.1]) fun y25=>
 (bif y25
 then (bif (decide ((b24.2.2.2.length:Int)>(0:Int)))
 then some (decide ((b24.2.2.2.length:Int)≤(8:Int)))
 else some false)
 else some false))))
 else some false))))))):=by kernel_rfl
def c92 (N:Nat):Sym.Callee:=⟨f92.args,f92.ta,f92.res,f92.tr,0,F92 N⟩
theorem ok92 (N:Nat):CalOK tab 92 (c92 N):=fn_ok (f92.ok1 N) fuelW 92 f92.args f92.ta f92.res f92.tr 0
namespace f93
def bcut:Nat→Nat→Option (Nat×Ty):=fun c i=>match c,i with
 |0,26=>some (7,(.int .i64))
 |0,23=>some (7,(.int .i64))
 |0,20=>some (7,(.int .i64))
 |_,_=>none
def ety:Nat→Nat→Option Ty:=fun c d=>match c,d with
 |0,12=>some (.int .i64)
 |0,17=>some (.int .i64)
 |_,_=>none
def args:List PSh:=[.c (.sl TGType .bor)]
def ta:List Ty:=[(.sl TGType)]
def res:List (Bool×List CSh):=[(false,[.sl (.int .i64) .d])]
def tr:List Ty:=[(.sl (.int .i64))]
def E0 (N:Nat):SEnv:=SEnv.base tab cuts ccut bcut unr ety
theorem ok0 (N:Nat):EnvOK tab (E0 N):=base_ok tab cuts ccut bcut unr ety
def T0_30:Tmpl:=⟨[(0,.c (.sl TGType .bor)),(3,.c (.ref 0 3 0 (.int .i64))),(4,.c (.ref 0 17 1 (.int .i64))),(5,.c (.int .i64)),(7,.c (.int .i64)),(13,.c (.int .i64)),(18,.c (.sl TGType .bor)),(19,.c (.int .i64)),(20,.c (.int .i64)),(59,.c (.sl TField .d)),(60,.c (.int .i64)),(61,.c (.int .i64))],[],[(0,3,.row 0 (.int .i64)),(0,17,.row 1 (.int .i64))],1,[],2,[(.sl TGType),(.int .i64),(.int .i64),(.int .i64),(.sl TGType),(.int .i64),(.int .i64),(.sl TField),(.int .i64),(.int .i64),(.sl (.int .i64)),(.sl (.int .i64))]⟩
def O0_30:Outs:=[(.exit 5,⟨[(0,.c (.sl TGType .bor)),(3,.c (.ref 0 3 0 (.int .i64))),(4,.c (.ref 0 17 1 (.int .i64))),(5,.c (.int .i64)),(7,.c (.int .i64)),(13,.c (.int .i64)),(18,.c (.sl TGType .bor)),(19,.c (.int .i64)),(20,.c (.int .i64))],[],[(0,3,.row 0 (.int .i64)),(0,17,.row 1 (.int .i64))],1,[],2,[(.sl TGType),(.int .i64),(.int .i64),(.int .i64),(.sl TGType),(.int .i64),(.int .i64),(.sl (.int .i64)),(.sl (.int .i64))]⟩)]
def L0_30 (N:Nat) (k:Nat) (x:(List (GType))×(Int)×(Int)×(Int)×(List (GType))×(Int)×(Int)×(List (Field))×(Int)×(Int)×(List (Int))×List (Int)):Option (((List (GType))×(Int)×(Int)×(Int)×(List (GType))×(Int)×(Int)×(List (Int))×List (Int))):=loopF (loopStep (E0 N) fuelW 0 30 (bodyAt t93 30) T0_30 O0_30) k x
theorem L0_30_succ (N:Nat) (k:Nat) (v17:List (GType)) (v18:Int) (v19:Int) (v20:Int) (v21:List (GType)) (v22:Int) (v23:Int) (v24:List (Field)) (v25:Int) (v26:Int) (v27:List (Int)) (v28:List (Int)):L0_30 N (k+1) (v17,v18,v19,v20,v21,v22,v23,v24,v25,v26,v27,v28) =
 (bif (decide (v26<v25))
 then (Option.bind (idx v24 v26) fun x29=>
 (chk (inR x29.2 v28.length)
 ((Option.bind (v28[(Int.toNat x29.2)]?) fun x30=>
 L0_30 N k (v17,v18,(wi64 (v19+x30)),v20,v21,v22,v23,v24,v25,(wi64 (v26+(1:Int))),v27,v28)))))
 else some (v17,v18,v19,v20,v21,v22,v23,v27,v28)):=by kernel_rfl
def E1 (N:Nat):SEnv:=(E0 N).addLoop N 0 30 T0_30 O0_30
theorem ok1 (N:Nat):EnvOK tab (E1 N):=(ok0 N).addLoop N 0 30 T0_30 O0_30
def T0_11:Tmpl:=⟨[(0,.c (.sl TGType .bor)),(3,.c (.ref 0 3 0 (.int .i64))),(4,.c (.ref 0 17 1 (.int .i64))),(13,.c (.int .i64)),(18,.c (.sl TGType .bor)),(19,.c (.int .i64)),(20,.c (.int .i64))],[],[(0,3,.row 0 (.int .i64)),(0,17,.row 1 (.int .i64))],1,[],2,[(.sl TGType),(.int .i64),(.sl TGType),(.int .i64),(.int .i64),(.sl (.int .i64)),(.sl (.int .i64))]⟩
def O0_11:Outs:=[(.exit 2,⟨[(0,.c (.sl TGType .bor)),(4,.c (.ref 0 17 0 (.int .i64))),(13,.c (.int .i64))],[],[(0,17,.row 0 (.int .i64))],1,[],1,[(.sl TGType),(.int .i64),(.sl (.int .i64))]⟩)]
def L0_11 (N:Nat) (k:Nat) (x:(List (GType))×(Int)×(List (GType))×(Int)×(Int)×(List (Int))×List (Int)):Option (((List (GType))×(Int)×List (Int))):=loopF (loopStep (E1 N) fuelW 0 11 (bodyAt t93 11) T0_11 O0_11) k x
theorem L0_11_succ (N:Nat) (k:Nat) (v3:List (GType)) (v4:Int) (v5:List (GType)) (v6:Int) (v7:Int) (v8:List (Int)) (v9:List (Int)):L0_11 N (k+1) (v3,v4,v5,v6,v7,v8,v9) =
 (bif (decide (v7<v6))
 then (Option.bind (idx v5 v7) fun x10=>
 (Option.bind ((bif (x10.1==(4:Int))
 then (chk (inR x10.2.1 v8.length)
 ((Option.bind (v8[(Int.toNat x10.2.1)]?) fun x11=>
 some (wi64 ((1:Int)+x11)))))
 else (Option.bind ((bif (x10.1==(7:Int))
 then (chk (inR x10.2.1 v8.length)
 ((Option.bind (v8[(Int.toNat x10.2.1)]?) fun x12=>
 some (wi64 ((1:Int)+(wi64 ((16:Int)*x12)))))))
 else (Option.bind ((bif (x10.1==(6:Int))
 then (chk (inR x10.2.1 v9.length)
 ((Option.bind (v9[(Int.toNat x10.2.1)]?) fun x13=>
 some (wi64 ((1:Int)+(wi64 (x10.2.2.1*x13)))))))
 else some (1:Int))) fun b14=>
 some b14))) fun b15=>
 some b15))) fun b16=>
 (Option.bind (L0_30 N N (v3,v7,b16,v4,v5,v6,v7,x10.2.2.2,(x10.2.2.2.length:Int),(0:Int),v8,v9)) fun y31=>
 (chk (inR y31.2.1 y31.2.2.2.2.2.2.2.2.length)
 ((Option.bind (y31.2.2.2.2.2.2.2.2[(Int.toNat y31.2.1)]?) fun x32=>
 L0_11 N k (y31.1,y31.2.2.2.1,y31.2.2.2.2.1,y31.2.2.2.2.2.1,(wi64 (y31.2.2.2.2.2.2.1+(1:Int))),y31.2.2.2.2.2.2.2.1,(y31.2.2.2.2.2.2.2.2.set (Int.toNat y31.2.1) (min y31.2.2.1 (5001:Int))))))))))
 else some (v3,v4,v9)):=by kernel_rfl
def E2 (N:Nat):SEnv:=(E1 N).addLoop N 0 11 T0_11 O0_11
theorem ok2 (N:Nat):EnvOK tab (E2 N):=(ok1 N).addLoop N 0 11 T0_11 O0_11
def T0_4:Tmpl:=⟨[(0,.c (.sl TGType .bor)),(3,.c (.ref 0 3 0 (.int .i64))),(13,.c (.int .i64))],[],[(0,3,.row 0 (.int .i64))],1,[],1,[(.sl TGType),(.int .i64),(.sl (.int .i64))]⟩
def O0_4:Outs:=[(.exit 0,⟨[(3,.c (.ref 0 3 0 (.int .i64)))],[],[(0,3,.row 0 (.int .i64))],1,[],1,[(.sl (.int .i64))]⟩)]
def L0_4 (N:Nat) (k:Nat) (x:(List (GType))×(Int)×List (Int)):Option ((List (Int))):=loopF (loopStep (E2 N) fuelW 0 4 (bodyAt t93 4) T0_4 O0_4) k x
theorem L0_4_succ (N:Nat) (k:Nat) (v0:List (GType)) (v1:Int) (v2:List (Int)):L0_4 N (k+1) (v0,v1,v2) =
 (bif (decide (v1<(4:Int)))
 then (chk (decide (0≤(v0.length:Int)))
 ((chk (decide (0≤(v0.length:Int)))
 ((chk (decide ((Int.toNat (v0.length:Int))≤(Int.toNat (v0.length:Int)))&&room (Int.toNat (v0.length:Int)) 8)
 ((Option.bind (L0_11 N N (v0,v1,v0,(v0.length:Int),(0:Int),v2,(List.replicate (Int.toNat (v0.length:Int)) (0:Int)))) fun y33=>
 L0_4 N k (y33.1,(wi64 (y33.2.1+(1:Int))),y33.2.2))))))))
 else some v2):=by kernel_rfl
def E3 (N:Nat):SEnv:=(E2 N).addLoop N 0 4 T0_4 O0_4
theorem ok3 (N:Nat):EnvOK tab (E3 N):=(ok2 N).addLoop N 0 4 T0_4 O0_4
end f93
def F93 (N:Nat) (x:List (GType)):Option (List (Int)):=fnRun (f93.E3 N) fuelW 93 f93.args f93.ta f93.res f93.tr 0 x
open f93 in
theorem F93_eq (N:Nat) (p0:List (GType)):F93 N p0 =
 (chk (decide (0≤(p0.length:Int)))
 ((chk (decide (0≤(p0.length:Int)))
 ((chk (decide ((Int.toNat (p0.length:Int))≤(Int.toNat (p0.length:Int)))&&room (Int.toNat (p0.length:Int)) 8)
 ((Option.bind (L0_4 N N (p0,(0:Int),(List.replicate (Int.toNat (p0.length:Int)) (0:Int)))) fun y34=>
 some y34))))))):=by kernel_rfl
def c93 (N:Nat):Sym.Callee:=⟨f93.args,f93.ta,f93.res,f93.tr,0,F93 N⟩
theorem ok93 (N:Nat):CalOK tab 93 (c93 N):=fn_ok (f93.ok3 N) fuelW 93 f93.args f93.ta f93.res f93.tr 0
namespace f70
def args:List PSh:=[.c (.sl TGType .bor)]
def ta:List Ty:=[(.sl TGType)]
def res:List (Bool×List CSh):=[(false,[.int .i64])]
def tr:List Ty:=[(.int .i64)]
def E0 (N:Nat):SEnv:=((SEnv.base tab cuts ccut bcut unr ety).addCal 92 (c92 N)).addCal 93 (c93 N)
theorem ok0 (N:Nat):EnvOK tab (E0 N):=((base_ok tab cuts ccut bcut unr ety).addCal (ok92 N)).addCal (ok93 N)
def T0_6:Tmpl:=⟨[(0,.c (.sl TGType .bor)),(10,.c (.int .i64)),(11,.c (.int .i64))],[],[],1,[],0,[(.sl TGType),(.int .i64),(.int .i64)]⟩
def O0_6:Outs:=[(.ret,⟨[(2,.c (.int .i64))],[],[],1,[],0,[(.int .i64)]⟩),(.exit 0,⟨[(0,.c (.sl TGType .bor))],[],[],1,[],0,[(.sl TGType)]⟩)]
def L0_6 (N:Nat) (k:Nat) (x:(List (GType))×(Int)×Int):Option ((Int)⊕(List (GType))):=loopF (loopStep (E0 N) fuelW 0 6 (bodyAt t70 6) T0_6 O0_6) k x
theorem L0_6_succ (N:Nat) (k:Nat) (v0:List (GType)) (v1:Int) (v2:Int):L0_6 N (k+1) (v0,v1,v2) =
 (bif (decide (v2<v1))
 then (Option.bind (F92 N (v0,v2)) fun y3=>
 (bif (!y3)
 then some (Sum.inl (8:Int))
 else L0_6 N k (v0,v1,(wi64 (v2+(1:Int))))))
 else some (Sum.inr v0)):=by kernel_rfl
def E1 (N:Nat):SEnv:=(E0 N).addLoop N 0 6 T0_6 O0_6
theorem ok1 (N:Nat):EnvOK tab (E1 N):=(ok0 N).addLoop N 0 6 T0_6 O0_6
def T0_17:Tmpl:=⟨[(20,.c (.sl (.int .i64) .d)),(21,.c (.int .i64)),(22,.c (.int .i64))],[],[],1,[],0,[(.sl (.int .i64)),(.int .i64),(.int .i64)]⟩
def O0_17:Outs:=[(.ret,⟨[(2,.c (.int .i64))],[],[],1,[],0,[(.int .i64)]⟩),(.exit 2,⟨[],[],[],1,[],0,[]⟩)]
def L0_17 (N:Nat) (k:Nat) (x:(List (Int))×(Int)×Int):Option ((Int)⊕(Unit)):=loopF (loopStep (E1 N) fuelW 0 17 (bodyAt t70 17) T0_17 O0_17) k x
theorem L0_17_succ (N:Nat) (k:Nat) (v8:List (Int)) (v9:Int) (v10:Int):L0_17 N (k+1) (v8,v9,v10) =
 (bif (decide (v10<v9))
 then (Option.bind (idx v8 v10) fun x11=>
 (bif (decide (x11>(5000:Int)))
 then some (Sum.inl (8:Int))
 else L0_17 N k (v8,v9,(wi64 (v10+(1:Int))))))
 else some (Sum.inr ())):=by kernel_rfl
def E2 (N:Nat):SEnv:=(E1 N).addLoop N 0 17 T0_17 O0_17
theorem ok2 (N:Nat):EnvOK tab (E2 N):=(ok1 N).addLoop N 0 17 T0_17 O0_17
end f70
def F70 (N:Nat) (x:List (GType)):Option (Int):=fnRun (f70.E2 N) fuelW 70 f70.args f70.ta f70.res f70.tr 0 x
open f70 in
theorem F70_eq (N:Nat) (p0:List (GType)):F70 N p0 =
 (bif (decide ((p0.length:Int)>(32:Int)))
 then some (8:Int)
 else (Option.bind (L0_6 N N (p0,(p0.length:Int),(0:Int))) fun y4=>
 (match y4 with
 |.inl a5=>some a5
 |.inr b6=>(Option.bind (F93 N b6) fun y7=>
 (Option.bind (L0_17 N N (y7,(y7.length:Int),(0:Int))) fun y12=>
 (match y12 with
 |.inl a13=>some a13
 |.inr b14=>some (0:Int))))))):=by kernel_rfl
def c70 (N:Nat):Sym.Callee:=⟨f70.args,f70.ta,f70.res,f70.tr,0,F70 N⟩
theorem ok70 (N:Nat):CalOK tab 70 (c70 N):=fn_ok (f70.ok2 N) fuelW 70 f70.args f70.ta f70.res f70.tr 0
namespace f77
def ety:Nat→Nat→Option Ty:=fun c d=>match c,d with
 |0,13=>some (.int .i64)
 |_,_=>none
def args:List PSh:=[.c (.sl Textent .bor),.c (.sl TField .bor)]
def ta:List Ty:=[(.sl Textent),(.sl TField)]
def res:List (Bool×List CSh):=[(false,[.sl (.int .i64) .d]),(true,[.int .i64,.int .i64])]
def tr:List Ty:=[(.sl (.int .i64)),(.int .i64),(.int .i64)]
def E0 (N:Nat):SEnv:=SEnv.base tab cuts ccut bcut unr ety
theorem ok0 (N:Nat):EnvOK tab (E0 N):=base_ok tab cuts ccut bcut unr ety
def T0_4:Tmpl:=⟨[(0,.c (.sl Textent .bor)),(5,.c (.ptr 0 5 0 0 0)),(6,.c (.ref 0 13 1 (.int .i64))),(7,.c (.ptr 0 7 2 0 0)),(15,.c (.sl TField .bor)),(16,.c (.int .i64)),(17,.c (.int .i64))],[],[(0,5,.box 0 [.int .i64,.int .i64]),(0,13,.row 1 (.int .i64)),(0,7,.box 2 [.int .i64,.int .i64])],1,[],3,[(.sl Textent),(.sl TField),(.int .i64),(.int .i64),(.int .i64),(.int .i64),(.sl (.int .i64)),(.int .i64),(.int .i64)]⟩
def O0_4:Outs:=[(.exit 0,⟨[(5,.c (.ptr 0 5 0 0 0)),(6,.c (.ref 0 13 1 (.int .i64))),(7,.c (.ptr 0 7 2 0 0))],[],[(0,5,.box 0 [.int .i64,.int .i64]),(0,13,.row 1 (.int .i64)),(0,7,.box 2 [.int .i64,.int .i64])],1,[],3,[(.int .i64),(.int .i64),(.sl (.int .i64)),(.int .i64),(.int .i64)]⟩)]
def L0_4 (N:Nat) (k:Nat) (x:(List (extent))×(List (Field))×(Int)×(Int)×(Int)×(Int)×(List (Int))×(Int)×Int):Option (((Int)×(Int)×(List (Int))×(Int)×Int)):=loopF (loopStep (E0 N) fuelW 0 4 (bodyAt t77 4) T0_4 O0_4) k x
theorem L0_4_succ (N:Nat) (k:Nat) (v0:List (extent)) (v1:List (Field)) (v2:Int) (v3:Int) (v4:Int) (v5:Int) (v6:List (Int)) (v7:Int) (v8:Int):L0_4 N (k+1) (v0,v1,v2,v3,v4,v5,v6,v7,v8) =
 (bif (decide (v3<v2))
 then (Option.bind (idx v1 v3) fun x9=>
 (Option.bind (idx v0 x9.2) fun x10=>
 (chk (inR v3 v6.length)
 ((Option.bind (v6[(Int.toNat v3)]?) fun x11=>
 (chk (inR v3 (v6.set (Int.toNat v3) (iandnot .i64 (wi64 ((wi64 (v7+x10.2))-(1:Int))) (wi64 (x10.2-(1:Int))))).length)
 ((Option.bind ((v6.set (Int.toNat v3) (iandnot .i64 (wi64 ((wi64 (v7+x10.2))-(1:Int))) (wi64 (x10.2-(1:Int)))))[(Int.toNat v3)]?) fun x12=>
 L0_4 N k (v0,v1,v2,(wi64 (v3+(1:Int))),v4,v5,(v6.set (Int.toNat v3) (iandnot .i64 (wi64 ((wi64 (v7+x10.2))-(1:Int))) (wi64 (x10.2-(1:Int))))),(min (1048576:Int) (wi64 (x12+x10.1))),(max v8 x10.2))))))))))
 else some (v4,v5,v6,v7,v8)):=by kernel_rfl
def E1 (N:Nat):SEnv:=(E0 N).addLoop N 0 4 T0_4 O0_4
theorem ok1 (N:Nat):EnvOK tab (E1 N):=(ok0 N).addLoop N 0 4 T0_4 O0_4
end f77
def F77 (N:Nat) (x:(List (extent))×List (Field)):Option ((List (Int))×(Int)×Int):=fnRun (f77.E1 N) fuelW 77 f77.args f77.ta f77.res f77.tr 0 x
open f77 in
theorem F77_eq (N:Nat) (p0:List (extent)) (p1:List (Field)):F77 N (p0,p1) =
 (chk (decide (0≤(p1.length:Int)))
 ((chk (decide (0≤(p1.length:Int)))
 ((chk (decide ((Int.toNat (p1.length:Int))≤(Int.toNat (p1.length:Int)))&&room (Int.toNat (p1.length:Int)) 8)
 ((Option.bind (L0_4 N N (p0,p1,(p1.length:Int),(0:Int),(0:Int),(0:Int),(List.replicate (Int.toNat (p1.length:Int)) (0:Int)),(0:Int),(1:Int))) fun y13=>
 some (y13.2.2.1,(iandnot .i64 (wi64 ((wi64 (y13.2.2.2.1+y13.2.2.2.2))-(1:Int))) (wi64 (y13.2.2.2.2-(1:Int)))),y13.2.2.2.2)))))))):=by kernel_rfl
def c77 (N:Nat):Sym.Callee:=⟨f77.args,f77.ta,f77.res,f77.tr,0,F77 N⟩
theorem ok77 (N:Nat):CalOK tab 77 (c77 N):=fn_ok (f77.ok1 N) fuelW 77 f77.args f77.ta f77.res f77.tr 0
namespace f71
def bcut:Nat→Nat→Option (Nat×Ty):=fun c i=>match c,i with
 |0,15=>some (25,.bool)
 |_,_=>none
def ety:Nat→Nat→Option Ty:=fun c d=>match c,d with
 |0,9=>some Textent
 |_,_=>none
def args:List PSh:=[.c (.sl TGType .bor)]
def ta:List Ty:=[(.sl TGType)]
def res:List (Bool×List CSh):=[(false,[.sl Textent .d])]
def tr:List Ty:=[(.sl Textent)]
def E0 (N:Nat):SEnv:=(SEnv.base tab cuts ccut bcut unr ety).addCal 77 (c77 N)
theorem ok0 (N:Nat):EnvOK tab (E0 N):=(base_ok tab cuts ccut bcut unr ety).addCal (ok77 N)
def T0_4:Tmpl:=⟨[(3,.c (.ref 0 9 0 Textent)),(10,.c (.sl TGType .bor)),(11,.c (.int .i64)),(12,.c (.int .i64))],[],[(0,9,.row 0 Textent)],1,[],1,[(.sl TGType),(.int .i64),(.int .i64),(.sl Textent)]⟩
def O0_4:Outs:=[(.exit 0,⟨[(3,.c (.ref 0 9 0 Textent))],[],[(0,9,.row 0 Textent)],1,[],1,[(.sl Textent)]⟩)]
def L0_4 (N:Nat) (k:Nat) (x:(List (GType))×(Int)×(Int)×List (extent)):Option ((List (extent))):=loopF (loopStep (E0 N) fuelW 0 4 (bodyAt t71 4) T0_4 O0_4) k x
theorem L0_4_succ (N:Nat) (k:Nat) (v0:List (GType)) (v1:Int) (v2:Int) (v3:List (extent)):L0_4 N (k+1) (v0,v1,v2,v3) =
 (bif (decide (v2<v1))
 then (Option.bind (idx v0 v2) fun x4=>
 (bif (x4.1==(1:Int))
 then (chk (inR v2 v3.length)
 ((Option.bind (v3[(Int.toNat v2)]?) fun x5=>
 L0_4 N k (v0,v1,(wi64 (v2+(1:Int))),(v3.set (Int.toNat v2) ((1:Int),(1:Int)))))))
 else (Option.bind ((bif (x4.1==(2:Int))
 then some true
 else some (x4.1==(4:Int)))) fun b6=>
 (bif b6
 then (chk (inR v2 v3.length)
 ((Option.bind (v3[(Int.toNat v2)]?) fun x7=>
 L0_4 N k (v0,v1,(wi64 (v2+(1:Int))),(v3.set (Int.toNat v2) ((8:Int),(8:Int)))))))
 else (bif (x4.1==(3:Int))
 then (chk (inR v2 v3.length)
 ((Option.bind (v3[(Int.toNat v2)]?) fun x8=>
 L0_4 N k (v0,v1,(wi64 (v2+(1:Int))),(v3.set (Int.toNat v2) ((16:Int),(8:Int)))))))
 else (bif (x4.1==(7:Int))
 then (chk (inR v2 v3.length)
 ((Option.bind (v3[(Int.toNat v2)]?) fun x9=>
 L0_4 N k (v0,v1,(wi64 (v2+(1:Int))),(v3.set (Int.toNat v2) ((24:Int),(8:Int)))))))
 else (bif (x4.1==(6:Int))
 then (chk (inR x4.2.1 v3.length)
 ((Option.bind (v3[(Int.toNat x4.2.1)]?) fun x10=>
 (chk (inR v2 v3.length)
 ((Option.bind (v3[(Int.toNat v2)]?) fun x11=>
 L0_4 N k (v0,v1,(wi64 (v2+(1:Int))),(v3.set (Int.toNat v2) ((min (1048576:Int) (wi64 (x4.2.2.1*x10.1))),x10.2)))))))))
 else (bif (x4.1==(5:Int))
 then (Option.bind (F77 N (v3,x4.2.2.2)) fun y12=>
 (chk (inR v2 v3.length)
 ((Option.bind (v3[(Int.toNat v2)]?) fun x13=>
 L0_4 N k (v0,v1,(wi64 (v2+(1:Int))),(v3.set (Int.toNat v2) y12.2))))))
 else L0_4 N k (v0,v1,(wi64 (v2+(1:Int))),v3)))))))))
 else some v3):=by kernel_rfl
def E1 (N:Nat):SEnv:=(E0 N).addLoop N 0 4 T0_4 O0_4
theorem ok1 (N:Nat):EnvOK tab (E1 N):=(ok0 N).addLoop N 0 4 T0_4 O0_4
end f71
def F71 (N:Nat) (x:List (GType)):Option (List (extent)):=fnRun (f71.E1 N) fuelW 71 f71.args f71.ta f71.res f71.tr 0 x
open f71 in
theorem F71_eq (N:Nat) (p0:List (GType)):F71 N p0 =
 (chk (decide (0≤(p0.length:Int)))
 ((chk (decide (0≤(p0.length:Int)))
 ((chk (decide ((Int.toNat (p0.length:Int))≤(Int.toNat (p0.length:Int)))&&room (Int.toNat (p0.length:Int)) 16)
 ((Option.bind (L0_4 N N (p0,(p0.length:Int),(0:Int),(List.replicate (Int.toNat (p0.length:Int)) ((0:Int),(0:Int))))) fun y14=>
 some y14))))))):=by kernel_rfl
def c71 (N:Nat):Sym.Callee:=⟨f71.args,f71.ta,f71.res,f71.tr,0,F71 N⟩
theorem ok71 (N:Nat):CalOK tab 71 (c71 N):=fn_ok (f71.ok1 N) fuelW 71 f71.args f71.ta f71.res f71.tr 0
namespace f47
def bcut:Nat→Nat→Option (Nat×Ty):=fun c i=>match c,i with
 |0,5=>some (20,.bool)
 |_,_=>none
def args:List PSh:=[.c (.sl TGType .bor),.c (.int .i64)]
def ta:List Ty:=[(.sl TGType),(.int .i64)]
def res:List (Bool×List CSh):=[(false,[.sl Textent .d]),(false,[.int .i64])]
def tr:List Ty:=[(.sl Textent),(.int .i64)]
def E0 (N:Nat):SEnv:=((SEnv.base tab cuts ccut bcut unr ety).addCal 70 (c70 N)).addCal 71 (c71 N)
theorem ok0 (N:Nat):EnvOK tab (E0 N):=((base_ok tab cuts ccut bcut unr ety).addCal (ok70 N)).addCal (ok71 N)
end f47
def F47 (N:Nat) (x:(List (GType))×Int):Option ((List (extent))×Int):=fnRun (f47.E0 N) fuelW 47 f47.args f47.ta f47.res f47.tr 0 x
open f47 in
theorem F47_eq (N:Nat) (p0:List (GType)) (p1:Int):F47 N (p0,p1) =
 (Option.bind (F70 N p0) fun y0=>
 (bif (y0 != (0:Int))
 then some ([],y0)
 else (Option.bind ((bif (decide (p1<(0:Int)))
 then some true
 else some (decide (p1≥(p0.length:Int))))) fun b1=>
 (bif b1
 then some ([],(2:Int))
 else (Option.bind (F71 N p0) fun y2=>
 (Option.bind (idx y2 p1) fun x3=>
 (bif (decide (x3.1>(256:Int)))
 then some ([],(16:Int))
 else some (y2,(0:Int))))))))):=by kernel_rfl
def c47 (N:Nat):Sym.Callee:=⟨f47.args,f47.ta,f47.res,f47.tr,0,F47 N⟩
theorem ok47 (N:Nat):CalOK tab 47 (c47 N):=fn_ok (f47.ok0 N) fuelW 47 f47.args f47.ta f47.res f47.tr 0
namespace f24
def args:List PSh:=[.c (.sl TGType .bor),.c (.int .i64)]
def ta:List Ty:=[(.sl TGType),(.int .i64)]
def res:List (Bool×List CSh):=[(false,[.int .i64]),(false,[.int .i64]),(false,[.int .i64])]
def tr:List Ty:=[(.int .i64),(.int .i64),(.int .i64)]
def E0 (N:Nat):SEnv:=(SEnv.base tab cuts ccut bcut unr ety).addCal 47 (c47 N)
theorem ok0 (N:Nat):EnvOK tab (E0 N):=(base_ok tab cuts ccut bcut unr ety).addCal (ok47 N)
end f24
def F24 (N:Nat) (x:(List (GType))×Int):Option ((Int)×(Int)×Int):=fnRun (f24.E0 N) fuelW 24 f24.args f24.ta f24.res f24.tr 0 x
open f24 in
theorem F24_eq (N:Nat) (p0:List (GType)) (p1:Int):F24 N (p0,p1) =
 (Option.bind (F47 N (p0,p1)) fun y0=>
 (bif (y0.2 != (0:Int))
 then some ((0:Int),(0:Int),y0.2)
 else (Option.bind (idx y0.1 p1) fun x1=>
 (Option.bind (idx y0.1 p1) fun x2=>
 some (x1.1,x2.2,(0:Int)))))):=by kernel_rfl
def c24 (N:Nat):Sym.Callee:=⟨f24.args,f24.ta,f24.res,f24.tr,0,F24 N⟩
theorem ok24 (N:Nat):CalOK tab 24 (c24 N):=fn_ok (f24.ok0 N) fuelW 24 f24.args f24.ta f24.res f24.tr 0
namespace f106
def args:List PSh:=[.c (.sl TField .bor)]
def ta:List Ty:=[(.sl TField)]
def res:List (Bool×List CSh):=[(false,[.bool])]
def tr:List Ty:=[.bool]
def E0 (N:Nat):SEnv:=(SEnv.base tab cuts ccut bcut unr ety).addCal 105 (c105 N)
theorem ok0 (N:Nat):EnvOK tab (E0 N):=(base_ok tab cuts ccut bcut unr ety).addCal (ok105 N)
def T1021001007000_3:Tmpl:=⟨[(0,.c (.sl TField .bor)),(1,.clo 114 [.ptr 0 4 0 0 0]),(7,.c (.int .i64)),(8,.c (.int .i64))],[[],[]],[(0,4,.box 0 [.str,.int .i64])],3,[],1,[(.sl TField),(.int .i64),(.int .i64),.str,(.int .i64)]⟩
def O1021001007000_3:Outs:=[(.ret,⟨[(4,.c (.int .i64))],[[],[]],[],3,[],0,[(.int .i64)]⟩),(.exit 0,⟨[],[[],[]],[],3,[],0,[]⟩)]
def L1021001007000_3 (N:Nat) (k:Nat) (x:(List (Field))×(Int)×(Int)×(List UInt8)×Int):Option ((Int)⊕(Unit)):=loopF (loopStep (E0 N) fuelW 1021001007000 3 (bodyAt t121 3) T1021001007000_3 O1021001007000_3) k x
theorem L1021001007000_3_succ (N:Nat) (k:Nat) (v6:List (Field)) (v7:Int) (v8:Int) (v9:List UInt8) (v10:Int):L1021001007000_3 N (k+1) (v6,v7,v8,v9,v10) =
 (bif (decide (v8<v7))
 then (Option.bind (idx v6 v8) fun x11=>
 (bif (x11.1==v9)
 then some (Sum.inl v8)
 else L1021001007000_3 N k (v6,v7,(wi64 (v8+(1:Int))),v9,v10)))
 else some (Sum.inr ())):=by kernel_rfl
def E1 (N:Nat):SEnv:=(E0 N).addLoop N 1021001007000 3 T1021001007000_3 O1021001007000_3
theorem ok1 (N:Nat):EnvOK tab (E1 N):=(ok0 N).addLoop N 1021001007000 3 T1021001007000_3 O1021001007000_3
def T0_3:Tmpl:=⟨[(0,.c (.sl TField .bor)),(5,.c (.sl TField .bor)),(6,.c (.int .i64)),(7,.c (.int .i64))],[],[],1,[],0,[(.sl TField),(.sl TField),(.int .i64),(.int .i64)]⟩
def O0_3:Outs:=[(.ret,⟨[(2,.c (.bool))],[],[],1,[],0,[.bool]⟩),(.exit 0,⟨[],[],[],1,[],0,[]⟩)]
def L0_3 (N:Nat) (k:Nat) (x:(List (Field))×(List (Field))×(Int)×Int):Option ((Bool)⊕(Unit)):=loopF (loopStep (E1 N) fuelW 0 3 (bodyAt t106 3) T0_3 O0_3) k x
theorem L0_3_succ (N:Nat) (k:Nat) (v0:List (Field)) (v1:List (Field)) (v2:Int) (v3:Int):L0_3 N (k+1) (v0,v1,v2,v3) =
 (bif (decide (v3<v2))
 then (Option.bind (idx v1 v3) fun x4=>
 (Option.bind (F105 N x4.1) fun y5=>
 (bif (!y5)
 then some (Sum.inl false)
 else (chk (decide (0≤v3))
 ((chk (decide ((Int.toNat v3)≤v0.length))
 ((Option.bind (L1021001007000_3 N N ((v0.take (Int.toNat v3)),((v0.take (Int.toNat v3)).length:Int),(0:Int),x4.1,x4.2)) fun y12=>
 (match y12 with
 |.inl a13=>(bif (decide (a13≥(0:Int)))
 then some (Sum.inl false)
 else L0_3 N k (v0,v1,v2,(wi64 (v3+(1:Int)))))
 |.inr b14=>L0_3 N k (v0,v1,v2,(wi64 (v3+(1:Int)))))))))))))
 else some (Sum.inr ())):=by kernel_rfl
def E2 (N:Nat):SEnv:=(E1 N).addLoop N 0 3 T0_3 O0_3
theorem ok2 (N:Nat):EnvOK tab (E2 N):=(ok1 N).addLoop N 0 3 T0_3 O0_3
end f106
def F106 (N:Nat) (x:List (Field)):Option (Bool):=fnRun (f106.E2 N) fuelW 106 f106.args f106.ta f106.res f106.tr 0 x
open f106 in
theorem F106_eq (N:Nat) (p0:List (Field)):F106 N p0 =
 (Option.bind (L0_3 N N (p0,p0,(p0.length:Int),(0:Int))) fun y15=>
 (match y15 with
 |.inl a16=>some a16
 |.inr b17=>some true)):=by kernel_rfl
def c106 (N:Nat):Sym.Callee:=⟨f106.args,f106.ta,f106.res,f106.tr,0,F106 N⟩
theorem ok106 (N:Nat):CalOK tab 106 (c106 N):=fn_ok (f106.ok2 N) fuelW 106 f106.args f106.ta f106.res f106.tr 0
namespace f116
def args:List PSh:=[]
def ta:List Ty:=[]
def res:List (Bool×List CSh):=[(true,[.int .i64,.int .i64,.bool,.bool])]
def tr:List Ty:=[(.int .i64),(.int .i64),.bool,.bool]
def E0 (N:Nat):SEnv:=SEnv.base tab cuts ccut bcut unr ety
theorem ok0 (N:Nat):EnvOK tab (E0 N):=base_ok tab cuts ccut bcut unr ety
end f116
def F116 (N:Nat) (x:Unit):Option ((Int)×(Int)×(Bool)×Bool):=fnRun (f116.E0 N) fuelW 116 f116.args f116.ta f116.res f116.tr 0 x
open f116 in
theorem F116_eq (N:Nat):F116 N () =
 some ((0:Int),(15:Int),false,true):=by kernel_rfl
def c116 (N:Nat):Sym.Callee:=⟨f116.args,f116.ta,f116.res,f116.tr,0,F116 N⟩
theorem ok116 (N:Nat):CalOK tab 116 (c116 N):=fn_ok (f116.ok0 N) fuelW 116 f116.args f116.ta f116.res f116.tr 0
namespace f117
def args:List PSh:=[]
def ta:List Ty:=[]
def res:List (Bool×List CSh):=[(true,[.int .i64,.int .i64,.bool,.bool])]
def tr:List Ty:=[(.int .i64),(.int .i64),.bool,.bool]
def E0 (N:Nat):SEnv:=SEnv.base tab cuts ccut bcut unr ety
theorem ok0 (N:Nat):EnvOK tab (E0 N):=base_ok tab cuts ccut bcut unr ety
end f117
def F117 (N:Nat) (x:Unit):Option ((Int)×(Int)×(Bool)×Bool):=fnRun (f117.E0 N) fuelW 117 f117.args f117.ta f117.res f117.tr 0 x
open f117 in
theorem F117_eq (N:Nat):F117 N () =
 some ((-9223372036854775808:Int),(9223372036854775807:Int),false,false):=by kernel_rfl
def c117 (N:Nat):Sym.Callee:=⟨f117.args,f117.ta,f117.res,f117.tr,0,F117 N⟩
theorem ok117 (N:Nat):CalOK tab 117 (c117 N):=fn_ok (f117.ok0 N) fuelW 117 f117.args f117.ta f117.res f117.tr 0
namespace f118
def args:List PSh:=[.c (.int .i64)]
def ta:List Ty:=[(.int .i64)]
def res:List (Bool×List CSh):=[(true,[.int .i64,.int .i64,.bool,.bool])]
def tr:List Ty:=[(.int .i64),(.int .i64),.bool,.bool]
def E0 (N:Nat):SEnv:=SEnv.base tab cuts ccut bcut unr ety
theorem ok0 (N:Nat):EnvOK tab (E0 N):=base_ok tab cuts ccut bcut unr ety
end f118
def F118 (N:Nat) (x:Int):Option ((Int)×(Int)×(Bool)×Bool):=fnRun (f118.E0 N) fuelW 118 f118.args f118.ta f118.res f118.tr 0 x
open f118 in
theorem F118_eq (N:Nat) (p0:Int):F118 N p0 =
 some ((0:Int),(wi64 (p0-(1:Int))),false,false):=by kernel_rfl
def c118 (N:Nat):Sym.Callee:=⟨f118.args,f118.ta,f118.res,f118.tr,0,F118 N⟩
theorem ok118 (N:Nat):CalOK tab 118 (c118 N):=fn_ok (f118.ok0 N) fuelW 118 f118.args f118.ta f118.res f118.tr 0
namespace f119
def args:List PSh:=[]
def ta:List Ty:=[]
def res:List (Bool×List CSh):=[(true,[.int .i64,.int .i64,.bool,.bool])]
def tr:List Ty:=[(.int .i64),(.int .i64),.bool,.bool]
def E0 (N:Nat):SEnv:=SEnv.base tab cuts ccut bcut unr ety
theorem ok0 (N:Nat):EnvOK tab (E0 N):=base_ok tab cuts ccut bcut unr ety
end f119
def F119 (N:Nat) (x:Unit):Option ((Int)×(Int)×(Bool)×Bool):=fnRun (f119.E0 N) fuelW 119 f119.args f119.ta f119.res f119.tr 0 x
open f119 in
theorem F119_eq (N:Nat):F119 N () =
 some ((0:Int),(15:Int),true,false):=by kernel_rfl
def c119 (N:Nat):Sym.Callee:=⟨f119.args,f119.ta,f119.res,f119.tr,0,F119 N⟩
theorem ok119 (N:Nat):CalOK tab 119 (c119 N):=fn_ok (f119.ok0 N) fuelW 119 f119.args f119.ta f119.res f119.tr 0
namespace f109
def bcut:Nat→Nat→Option (Nat×Ty):=fun c i=>match c,i with
 |0,24=>some (7,.bool)
 |0,34=>some (16,.bool)
 |0,48=>some (19,.bool)
 |0,46=>some (19,.bool)
 |0,44=>some (19,.bool)
 |0,42=>some (19,.bool)
 |0,40=>some (19,.bool)
 |0,38=>some (19,.bool)
 |0,60=>some (27,.bool)
 |0,58=>some (27,.bool)
 |0,56=>some (27,.bool)
 |0,54=>some (27,.bool)
 |0,52=>some (27,.bool)
 |0,78=>some (46,.bool)
 |0,76=>some (46,.bool)
 |0,84=>some (52,.bool)
 |_,_=>none
def ety:Nat→Nat→Option Ty:=fun c d=>match c,d with
 |0,62=>some Tuse
 |0,67=>some Tuse
 |0,72=>some Tuse
 |0,76=>some Tuse
 |0,91=>some Tuse
 |0,97=>some Tuse
 |0,103=>some Tuse
 |0,108=>some Tuse
 |0,112=>some Tuse
 |0,117=>some Tuse
 |0,121=>some Tuse
 |0,126=>some Tuse
 |0,132=>some Tuse
 |0,137=>some Tuse
 |0,141=>some Tuse
 |_,_=>none
def args:List PSh:=[.c (.int .u8)]
def ta:List Ty:=[(.int .u8)]
def res:List (Bool×List CSh):=[(true,[.int .i64,.int .i64,.bool,.bool,.int .i64,.int .i64,.bool,.bool,.int .i64,.int .i64,.bool,.bool]),(false,[.int .i64])]
def tr:List Ty:=[(.int .i64),(.int .i64),.bool,.bool,(.int .i64),(.int .i64),.bool,.bool,(.int .i64),(.int .i64),.bool,.bool,(.int .i64)]
def E0 (N:Nat):SEnv:=((((SEnv.base tab cuts ccut bcut unr ety).addCal 116 (c116 N)).addCal 117 (c117 N)).addCal 118 (c118 N)).addCal 119 (c119 N)
theorem ok0 (N:Nat):EnvOK tab (E0 N):=((((base_ok tab cuts ccut bcut unr ety).addCal (ok116 N)).addCal (ok117 N)).addCal (ok118 N)).addCal (ok119 N)
end f109
def F109 (N:Nat) (x:Int):Option ((Int)×(Int)×(Bool)×(Bool)×(Int)×(Int)×(Bool)×(Bool)×(Int)×(Int)×(Bool)×(Bool)×Int):=fnRun (f109.E0 N) fuelW 109 f109.args f109.ta f109.res f109.tr 0 x
open f109 in
theorem F109_eq (N:Nat) (p0:Int):F109 N p0 =
 (Option.bind ((bif (p0==(30:Int))
 then some true
 else some (p0==(31:Int)))) fun b0=>
 (bif b0
 then some ((0:Int),(0:Int),false,false,(0:Int),(0:Int),false,false,(0:Int),(0:Int),false,false,(0:Int))
 else (bif (p0==(1:Int))
 then (Option.bind (F116 N ()) fun y1=>
 (Option.bind (F117 N ()) fun y2=>
 some (y1.1,y1.2.1,y1.2.2.1,y1.2.2.2,y2.1,y2.2.1,y2.2.2.1,y2.2.2.2,(0:Int),(0:Int),false,false,(2:Int))))
 else (bif (p0==(2:Int))
 then (Option.bind (F116 N ()) fun y3=>
 (Option.bind (F118 N (32:Int)) fun y4=>
 some (y3.1,y3.2.1,y3.2.2.1,y3.2.2.2,y4.1,y4.2.1,y4.2.2.1,y4.2.2.2,(0:Int),(0:Int),false,false,(2:Int))))
 else (bif (p0==(3:Int))
 then (Option.bind (F116 N ()) fun y5=>
 (Option.bind (F118 N (2:Int)) fun y6=>
 some (y5.1,y5.2.1,y5.2.2.1,y5.2.2.2,y6.1,y6.2.1,y6.2.2.1,y6.2.2.2,(0:Int),(0:Int),false,false,(2:Int))))
 else (Option.bind ((bif (p0==(4:Int))
 then some true
 else some (p0==(15:Int)))) fun b7=>
 (bif b7
 then (Option.bind (F116 N ()) fun y8=>
 some (y8.1,y8.2.1,y8.2.2.1,y8.2.2.2,(0:Int),(0:Int),false,false,(0:Int),(0:Int),false,false,(1:Int)))
 else (Option.bind ((bif (p0==(6:Int))
 then some true
 else (Option.bind ((bif (p0==(7:Int))
 then some true
 else (Option.bind ((bif (p0==(8:Int))
 then some true
 else (Option.bind ((bif (p0==(9:Int))
 then some true
 else (Option.bind ((bif (p0==(10:Int))
 then some true
 else (Option.bind ((bif (p0==(11:Int))
 then some true
 else some (p0==(19:Int)))) fun b9=>
 some b9))) fun b10=>
 some b10))) fun b11=>
 some b11))) fun b12=>
 some b12))) fun b13=>
 some b13))) fun b14=>
 (bif b14
 then (Option.bind (F119 N ()) fun y15=>
 (Option.bind (F116 N ()) fun y16=>
 (Option.bind (F119 N ()) fun y17=>
 (bif y15.2.2.1
 then some (y16.1,y16.2.1,y16.2.2.1,y16.2.2.2,y17.1,y17.2.1,y17.2.2.1,y17.2.2.2,y15.1,y15.2.1,y15.2.2.1,y15.2.2.2,(3:Int))
 else some (y16.1,y16.2.1,y16.2.2.1,y16.2.2.2,y17.1,y17.2.1,y17.2.2.1,y17.2.2.2,y15.1,y15.2.1,y15.2.2.1,y15.2.2.2,(2:Int))))))
 else (Option.bind ((bif (p0==(5:Int))
 then some true
 else (Option.bind ((bif (p0==(12:Int))
 then some true
 else (Option.bind ((bif (p0==(16:Int))
 then some true
 else (Option.bind ((bif (p0==(18:Int))
 then some true
 else (Option.bind ((bif (p0==(21:Int))
 then some true
 else some (p0==(33:Int)))) fun b18=>
 some b18))) fun b19=>
 some b19))) fun b20=>
 some b20))) fun b21=>
 some b21))) fun b22=>
 (bif b22
 then (Option.bind (F116 N ()) fun y23=>
 (Option.bind (F119 N ()) fun y24=>
 some (y23.1,y23.2.1,y23.2.2.1,y23.2.2.2,y24.1,y24.2.1,y24.2.2.1,y24.2.2.2,(0:Int),(0:Int),false,false,(2:Int))))
 else (bif (p0==(13:Int))
 then (Option.bind (F116 N ()) fun y25=>
 (Option.bind (F119 N ()) fun y26=>
 (Option.bind (F118 N (8:Int)) fun y27=>
 some (y25.1,y25.2.1,y25.2.2.1,y25.2.2.2,y26.1,y26.2.1,y26.2.2.1,y26.2.2.2,y27.1,y27.2.1,y27.2.2.1,y27.2.2.2,(3:Int)))))
 else (bif (p0==(14:Int))
 then (Option.bind (F119 N ()) fun y28=>
 (Option.bind (F118 N (8:Int)) fun y29=>
 (Option.bind (F119 N ()) fun y30=>
 some (y28.1,y28.2.1,y28.2.2.1,y28.2.2.2,y29.1,y29.2.1,y29.2.2.1,y29.2.2.2,y30.1,y30.2.1,y30.2.2.1,y30.2.2.2,(3:Int)))))
 else (bif (p0==(20:Int))
 then (Option.bind (F119 N ()) fun y31=>
 (Option.bind (F119 N ()) fun y32=>
 (Option.bind (F119 N ()) fun y33=>
 some (y31.1,y31.2.1,y31.2.2.1,y31.2.2.2,y32.1,y32.2.1,y32.2.2.1,y32.2.2.2,y33.1,y33.2.1,y33.2.2.1,y33.2.2.2,(3:Int)))))
 else (bif (p0==(17:Int))
 then (Option.bind (F119 N ()) fun y34=>
 (Option.bind (F119 N ()) fun y35=>
 some (y34.1,y34.2.1,y34.2.2.1,y34.2.2.2,y35.1,y35.2.1,y35.2.2.1,y35.2.2.2,(0:Int),(0:Int),false,false,(2:Int))))
 else (bif (p0==(22:Int))
 then (Option.bind (F118 N (200:Int)) fun y36=>
 some (y36.1,y36.2.1,y36.2.2.1,y36.2.2.2,(0:Int),(0:Int),false,false,(0:Int),(0:Int),false,false,(1:Int)))
 else (bif (p0==(23:Int))
 then (Option.bind (F119 N ()) fun y37=>
 (Option.bind (F118 N (200:Int)) fun y38=>
 some (y37.1,y37.2.1,y37.2.2.1,y37.2.2.2,y38.1,y38.2.1,y38.2.2.1,y38.2.2.2,(0:Int),(0:Int),false,false,(2:Int))))
 else (Option.bind ((bif (p0==(24:Int))
 then some true
 else (Option.bind ((bif (p0==(28:Int))
 then some true
 else some (p0==(32:Int)))) fun b39=>
 some b39))) fun b40=>
 (bif b40
 then (Option.bind (F119 N ()) fun y41=>
 some (y41.1,y41.2.1,y41.2.2.1,y41.2.2.2,(0:Int),(0:Int),false,false,(0:Int),(0:Int),false,false,(1:Int)))
 else (bif (p0==(25:Int))
 then (Option.bind (F116 N ()) fun y42=>
 (Option.bind (F118 N (32:Int)) fun y43=>
 some ((-1:Int),y42.2.1,y42.2.2.1,y42.2.2.2,y43.1,y43.2.1,y43.2.2.1,y43.2.2.2,(0:Int),(0:Int),false,false,(2:Int))))
 else (Option.bind ((bif (p0==(26:Int))
 then some true
 else some (p0==(27:Int)))) fun b44=>
 (bif b44
 then (Option.bind (F118 N (32:Int)) fun y45=>
 some (y45.1,y45.2.1,y45.2.2.1,y45.2.2.2,(0:Int),(0:Int),false,false,(0:Int),(0:Int),false,false,(1:Int)))
 else (bif (p0==(29:Int))
 then (Option.bind (F116 N ()) fun y46=>
 (Option.bind (F116 N ()) fun y47=>
 some (y46.1,y46.2.1,y46.2.2.1,y46.2.2.2,y47.1,y47.2.1,y47.2.2.1,y47.2.2.2,(0:Int),(0:Int),false,false,(2:Int))))
 else (bif (p0==(34:Int))
 then (Option.bind (F119 N ()) fun y48=>
 some ((-1:Int),y48.2.1,y48.2.2.1,y48.2.2.2,(0:Int),(0:Int),false,false,(0:Int),(0:Int),false,false,(1:Int)))
 else some ((0:Int),(0:Int),false,false,(0:Int),(0:Int),false,false,(0:Int),(0:Int),false,false,(-1:Int)))))))))))))))))))))))))):=by kernel_rfl
def c109 (N:Nat):Sym.Callee:=⟨f109.args,f109.ta,f109.res,f109.tr,0,F109 N⟩
theorem ok109 (N:Nat):CalOK tab 109 (c109 N):=fn_ok (f109.ok0 N) fuelW 109 f109.args f109.ta f109.res f109.tr 0
namespace f110
def args:List PSh:=[.agg [.int .u8,.int .i64,.int .i64,.int .i64]]
def ta:List Ty:=[(.int .u8),(.int .i64),(.int .i64),(.int .i64)]
def res:List (Bool×List CSh):=[(true,[.int .i64,.int .i64,.int .i64])]
def tr:List Ty:=[(.int .i64),(.int .i64),(.int .i64)]
def E0 (N:Nat):SEnv:=SEnv.base tab cuts ccut bcut unr ety
theorem ok0 (N:Nat):EnvOK tab (E0 N):=base_ok tab cuts ccut bcut unr ety
end f110
def F110 (N:Nat) (x:(Int)×(Int)×(Int)×Int):Option ((Int)×(Int)×Int):=fnRun (f110.E0 N) fuelW 110 f110.args f110.ta f110.res f110.tr 0 x
open f110 in
theorem F110_eq (N:Nat) (p0:Int) (p1:Int) (p2:Int) (p3:Int):F110 N (p0,p1,p2,p3) =
 some (p1,p2,p3):=by kernel_rfl
def c110 (N:Nat):Sym.Callee:=⟨f110.args,f110.ta,f110.res,f110.tr,0,F110 N⟩
theorem ok110 (N:Nat):CalOK tab 110 (c110 N):=fn_ok (f110.ok0 N) fuelW 110 f110.args f110.ta f110.res f110.tr 0
namespace f107
def bcut:Nat→Nat→Option (Nat×Ty):=fun c i=>match c,i with
 |0,12=>some (34,.bool)
 |0,100012=>some (34,.bool)
 |_,_=>none
def unr:Nat→Nat→Bool:=fun c i=>match c,i with
 |0,7=>true
 |0,100007=>true
 |_,_=>false
def args:List PSh:=[.agg [.int .u8,.int .i64,.int .i64,.int .i64]]
def ta:List Ty:=[(.int .u8),(.int .i64),(.int .i64),(.int .i64)]
def res:List (Bool×List CSh):=[(false,[.int .i64])]
def tr:List Ty:=[(.int .i64)]
def E0 (N:Nat):SEnv:=((SEnv.base tab cuts ccut bcut unr ety).addCal 109 (c109 N)).addCal 110 (c110 N)
theorem ok0 (N:Nat):EnvOK tab (E0 N):=((base_ok tab cuts ccut bcut unr ety).addCal (ok109 N)).addCal (ok110 N)
end f107
def F107 (N:Nat) (x:(Int)×(Int)×(Int)×Int):Option (Int):=fnRun (f107.E0 N) fuelW 107 f107.args f107.ta f107.res f107.tr 0 x
open f107 in
theorem F107_eq (N:Nat) (p0:Int) (p1:Int) (p2:Int) (p3:Int):F107 N (p0,p1,p2,p3) =
 (Option.bind (F109 N p0) fun y0=>
 (bif (decide (y0.2.2.2.2.2.2.2.2.2.2.2.2<(0:Int)))
 then some (8:Int)
 else (Option.bind (F110 N (p0,p1,p2,p3)) fun y1=>
 (Option.bind ((bif (decide (y1.1<y0.1))
 then some true
 else some (decide (y1.1>y0.2.1)))) fun b2=>
 (bif b2
 then some (8:Int)
 else (Option.bind ((bif (decide (y1.2.1<y0.2.2.2.2.1))
 then some true
 else some (decide (y1.2.1>y0.2.2.2.2.2.1)))) fun b3=>
 (bif b3
 then some (8:Int)
 else (Option.bind ((bif (decide (y1.2.2<y0.2.2.2.2.2.2.2.2.1))
 then some true
 else some (decide (y1.2.2>y0.2.2.2.2.2.2.2.2.2.1)))) fun b4=>
 (bif b4
 then some (8:Int)
 else some (0:Int)))))))))):=by kernel_rfl
def c107 (N:Nat):Sym.Callee:=⟨f107.args,f107.ta,f107.res,f107.tr,0,F107 N⟩
theorem ok107 (N:Nat):CalOK tab 107 (c107 N):=fn_ok (f107.ok0 N) fuelW 107 f107.args f107.ta f107.res f107.tr 0
namespace f90
def bcut:Nat→Nat→Option (Nat×Ty):=fun c i=>match c,i with
 |0,1=>some (8,.bool)
 |_,_=>none
def args:List PSh:=[.c (.int .i64)]
def ta:List Ty:=[(.int .i64)]
def res:List (Bool×List CSh):=[(false,[.int .i64])]
def tr:List Ty:=[(.int .i64)]
def E0 (N:Nat):SEnv:=SEnv.base tab cuts ccut bcut unr ety
theorem ok0 (N:Nat):EnvOK tab (E0 N):=base_ok tab cuts ccut bcut unr ety
end f90
def F90 (N:Nat) (x:Int):Option (Int):=fnRun (f90.E0 N) fuelW 90 f90.args f90.ta f90.res f90.tr 0 x
open f90 in
theorem F90_eq (N:Nat) (p0:Int):F90 N p0 =
 (Option.bind ((bif (decide (p0<(1:Int)))
 then some true
 else some (decide (p0>(200:Int))))) fun b0=>
 (bif b0
 then some (2:Int)
 else some (0:Int))):=by kernel_rfl
def c90 (N:Nat):Sym.Callee:=⟨f90.args,f90.ta,f90.res,f90.tr,0,F90 N⟩
theorem ok90 (N:Nat):CalOK tab 90 (c90 N):=fn_ok (f90.ok0 N) fuelW 90 f90.args f90.ta f90.res f90.tr 0
namespace f91
def bcut:Nat→Nat→Option (Nat×Ty):=fun c i=>match c,i with
 |0,1=>some (28,.bool)
 |_,_=>none
def args:List PSh:=[.c (.sl TRun .bor),.c (.int .i64)]
def ta:List Ty:=[(.sl TRun),(.int .i64)]
def res:List (Bool×List CSh):=[(false,[.bool])]
def tr:List Ty:=[.bool]
def E0 (N:Nat):SEnv:=SEnv.base tab cuts ccut bcut unr ety
theorem ok0 (N:Nat):EnvOK tab (E0 N):=base_ok tab cuts ccut bcut unr ety
def T0_7:Tmpl:=⟨[(5,.c (.ptr 0 5 0 0 0)),(33,.c (.sl TRun .bor)),(34,.c (.int .i64)),(35,.c (.int .i64))],[],[(0,5,.box 0 [.int .i64,.int .u64])],1,[],1,[(.sl TRun),(.int .i64),(.int .i64),(.int .i64),(.int .u64)]⟩
def O0_7:Outs:=[(.ret,⟨[(4,.c (.bool))],[],[],1,[],0,[.bool]⟩),(.exit 0,⟨[],[],[],1,[],0,[]⟩)]
def L0_7 (N:Nat) (k:Nat) (x:(List (Run))×(Int)×(Int)×(Int)×Int):Option ((Bool)⊕(Unit)):=loopF (loopStep (E0 N) fuelW 0 7 (bodyAt t91 7) T0_7 O0_7) k x
theorem L0_7_succ (N:Nat) (k:Nat) (v4:List (Run)) (v5:Int) (v6:Int) (v7:Int) (v8:Int):L0_7 N (k+1) (v4,v5,v6,v7,v8) =
 (bif (decide (v6<v5))
 then (Option.bind (idx v4 v6) fun x9=>
 (bif (decide (x9.1≤v7))
 then some (Sum.inl false)
 else (bif (x9.1==x9.1&&(x9.2==v8&&true))
 then some (Sum.inl false)
 else L0_7 N k (v4,v5,(wi64 (v6+(1:Int))),x9.1,x9.2))))
 else some (Sum.inr ())):=by kernel_rfl
def E1 (N:Nat):SEnv:=(E0 N).addLoop N 0 7 T0_7 O0_7
theorem ok1 (N:Nat):EnvOK tab (E1 N):=(ok0 N).addLoop N 0 7 T0_7 O0_7
end f91
def F91 (N:Nat) (x:(List (Run))×Int):Option (Bool):=fnRun (f91.E1 N) fuelW 91 f91.args f91.ta f91.res f91.tr 0 x
open f91 in
theorem F91_eq (N:Nat) (p0:List (Run)) (p1:Int):F91 N (p0,p1) =
 (Option.bind ((bif ((p0.length:Int)==(0:Int))
 then some true
 else (Option.bind (idx p0 (0:Int)) fun x0=>
 (bif (x0.1 != (0:Int))
 then some true
 else (Option.bind (idx p0 (wi64 ((p0.length:Int)-(1:Int)))) fun x1=>
 some (decide (x1.1≥p1))))))) fun b2=>
 (bif b2
 then some false
 else (Option.bind (idx p0 (0:Int)) fun x3=>
 (chk (decide (1≤p0.length))
 ((Option.bind (L0_7 N N ((p0.drop 1),((p0.drop 1).length:Int),(0:Int),x3.1,x3.2)) fun y10=>
 (match y10 with
 |.inl a11=>some a11
 |.inr b12=>some true))))))):=by kernel_rfl
def c91 (N:Nat):Sym.Callee:=⟨f91.args,f91.ta,f91.res,f91.tr,0,F91 N⟩
theorem ok91 (N:Nat):CalOK tab 91 (c91 N):=fn_ok (f91.ok1 N) fuelW 91 f91.args f91.ta f91.res f91.tr 0
namespace f67
def args:List PSh:=[.c (.sl TRun .bor),.c (.int .i64)]
def ta:List Ty:=[(.sl TRun),(.int .i64)]
def res:List (Bool×List CSh):=[(false,[.int .i64])]
def tr:List Ty:=[(.int .i64)]
def E0 (N:Nat):SEnv:=((SEnv.base tab cuts ccut bcut unr ety).addCal 90 (c90 N)).addCal 91 (c91 N)
theorem ok0 (N:Nat):EnvOK tab (E0 N):=((base_ok tab cuts ccut bcut unr ety).addCal (ok90 N)).addCal (ok91 N)
end f67
def F67 (N:Nat) (x:(List (Run))×Int):Option (Int):=fnRun (f67.E0 N) fuelW 67 f67.args f67.ta f67.res f67.tr 0 x
open f67 in
theorem F67_eq (N:Nat) (p0:List (Run)) (p1:Int):F67 N (p0,p1) =
 (Option.bind (F90 N p1) fun y0=>
 (bif (y0 != (0:Int))
 then some y0
 else (Option.bind (F91 N (p0,p1)) fun y1=>
 (bif (!y1)
 then some (8:Int)
 else some (0:Int))))):=by kernel_rfl
def c67 (N:Nat):Sym.Callee:=⟨f67.args,f67.ta,f67.res,f67.tr,0,F67 N⟩
theorem ok67 (N:Nat):CalOK tab 67 (c67 N):=fn_ok (f67.ok0 N) fuelW 67 f67.args f67.ta f67.res f67.tr 0
namespace f94
def bcut:Nat→Nat→Option (Nat×Ty):=fun c i=>match c,i with
 |0,1=>some (49,.bool)
 |0,11=>some (66,.bool)
 |0,26=>some (4,.bool)
 |_,_=>none
def args:List PSh:=[.c (.sl TGType .bor),.agg [.str,.int .i64,.int .i64,.sl TField .bor,.sl TInstr .bor,.sl TRun .bor,.sl TRun .bor]]
def ta:List Ty:=[(.sl TGType),.str,(.int .i64),(.int .i64),(.sl TField),(.sl TInstr),(.sl TRun),(.sl TRun)]
def res:List (Bool×List CSh):=[(false,[.bool])]
def tr:List Ty:=[.bool]
def E0 (N:Nat):SEnv:=((((SEnv.base tab cuts ccut bcut unr ety).addCal 105 (c105 N)).addCal 106 (c106 N)).addCal 107 (c107 N)).addCal 67 (c67 N)
theorem ok0 (N:Nat):EnvOK tab (E0 N):=((((base_ok tab cuts ccut bcut unr ety).addCal (ok105 N)).addCal (ok106 N)).addCal (ok107 N)).addCal (ok67 N)
def T0_6:Tmpl:=⟨[(0,.c (.sl TGType .bor)),(3,.c (.ptr 0 3 0 0 0)),(51,.c (.sl TField .bor)),(52,.c (.int .i64)),(53,.c (.int .i64))],[],[(0,3,.box 0 [.str,.int .i64,.int .i64,.sl TField .bor,.sl TInstr .bor,.sl TRun .bor,.sl TRun .bor])],1,[],1,[(.sl TGType),(.sl TField),(.int .i64),(.int .i64),.str,(.int .i64),(.int .i64),(.sl TField),(.sl TInstr),(.sl TRun),(.sl TRun)]⟩
def O0_6:Outs:=[(.ret,⟨[(4,.c (.bool))],[],[],1,[],0,[.bool]⟩),(.exit 0,⟨[(3,.c (.ptr 0 3 0 0 0))],[],[(0,3,.box 0 [.str,.int .i64,.int .i64,.sl TField .bor,.sl TInstr .bor,.sl TRun .bor,.sl TRun .bor])],1,[],1,[.str,(.int .i64),(.int .i64),(.sl TField),(.sl TInstr),(.sl TRun),(.sl TRun)]⟩)]
def L0_6 (N:Nat) (k:Nat) (x:(List (GType))×(List (Field))×(Int)×(Int)×(List UInt8)×(Int)×(Int)×(List (Field))×(List (Instr))×(List (Run))×List (Run)):Option ((Bool)⊕((List UInt8)×(Int)×(Int)×(List (Field))×(List (Instr))×(List (Run))×List (Run))):=loopF (loopStep (E0 N) fuelW 0 6 (bodyAt t94 6) T0_6 O0_6) k x
theorem L0_6_succ (N:Nat) (k:Nat) (v3:List (GType)) (v4:List (Field)) (v5:Int) (v6:Int) (v7:List UInt8) (v8:Int) (v9:Int) (v10:List (Field)) (v11:List (Instr)) (v12:List (Run)) (v13:List (Run)):L0_6 N (k+1) (v3,v4,v5,v6,v7,v8,v9,v10,v11,v12,v13) =
 (bif (decide (v6<v5))
 then (Option.bind (idx v4 v6) fun x14=>
 (Option.bind ((bif (decide (x14.2<(0:Int)))
 then some true
 else some (decide (x14.2≥(v3.length:Int))))) fun b15=>
 (bif b15
 then some (Sum.inl false)
 else L0_6 N k (v3,v4,v5,(wi64 (v6+(1:Int))),v7,v8,v9,v10,v11,v12,v13))))
 else some (Sum.inr (v7,v8,v9,v10,v11,v12,v13))):=by kernel_rfl
def E1 (N:Nat):SEnv:=(E0 N).addLoop N 0 6 T0_6 O0_6
theorem ok1 (N:Nat):EnvOK tab (E1 N):=(ok0 N).addLoop N 0 6 T0_6 O0_6
def T0_17:Tmpl:=⟨[(3,.c (.ptr 0 3 0 0 0)),(69,.c (.sl TInstr .bor)),(70,.c (.int .i64)),(71,.c (.int .i64))],[],[(0,3,.box 0 [.str,.int .i64,.int .i64,.sl TField .bor,.sl TInstr .bor,.sl TRun .bor,.sl TRun .bor])],1,[],1,[(.sl TInstr),(.int .i64),(.int .i64),.str,(.int .i64),(.int .i64),(.sl TField),(.sl TInstr),(.sl TRun),(.sl TRun)]⟩
def O0_17:Outs:=[(.ret,⟨[(4,.c (.bool))],[],[],1,[],0,[.bool]⟩),(.exit 2,⟨[(3,.c (.ptr 0 3 0 0 0))],[],[(0,3,.box 0 [.str,.int .i64,.int .i64,.sl TField .bor,.sl TInstr .bor,.sl TRun .bor,.sl TRun .bor])],1,[],1,[.str,(.int .i64),(.int .i64),(.sl TField),(.sl TInstr),(.sl TRun),(.sl TRun)]⟩)]
def L0_17 (N:Nat) (k:Nat) (x:(List (Instr))×(Int)×(Int)×(List UInt8)×(Int)×(Int)×(List (Field))×(List (Instr))×(List (Run))×List (Run)):Option ((Bool)⊕((List UInt8)×(Int)×(Int)×(List (Field))×(List (Instr))×(List (Run))×List (Run))):=loopF (loopStep (E1 N) fuelW 0 17 (bodyAt t94 17) T0_17 O0_17) k x
theorem L0_17_succ (N:Nat) (k:Nat) (v19:List (Instr)) (v20:Int) (v21:Int) (v22:List UInt8) (v23:Int) (v24:Int) (v25:List (Field)) (v26:List (Instr)) (v27:List (Run)) (v28:List (Run)):L0_17 N (k+1) (v19,v20,v21,v22,v23,v24,v25,v26,v27,v28) =
 (bif (decide (v21<v20))
 then (Option.bind (idx v19 v21) fun x29=>
 (Option.bind (F107 N (x29.1,x29.2.1,x29.2.2.1,x29.2.2.2)) fun y30=>
 (bif (y30 != (0:Int))
 then some (Sum.inl false)
 else L0_17 N k (v19,v20,(wi64 (v21+(1:Int))),v22,v23,v24,v25,v26,v27,v28))))
 else some (Sum.inr (v22,v23,v24,v25,v26,v27,v28))):=by kernel_rfl
def E2 (N:Nat):SEnv:=(E1 N).addLoop N 0 17 T0_17 O0_17
theorem ok2 (N:Nat):EnvOK tab (E2 N):=(ok1 N).addLoop N 0 17 T0_17 O0_17
end f94
def F94 (N:Nat) (x:(List (GType))×(List UInt8)×(Int)×(Int)×(List (Field))×(List (Instr))×(List (Run))×List (Run)):Option (Bool):=fnRun (f94.E2 N) fuelW 94 f94.args f94.ta f94.res f94.tr 0 x
open f94 in
theorem F94_eq (N:Nat) (p0:List (GType)) (p1:List UInt8) (p2:Int) (p3:Int) (p4:List (Field)) (p5:List (Instr)) (p6:List (Run)) (p7:List (Run)):F94 N (p0,p1,p2,p3,p4,p5,p6,p7) =
 (Option.bind ((Option.bind (F105 N p1) fun y0=>
 (bif (!y0)
 then some true
 else (bif (decide ((p4.length:Int)>(16:Int)))
 then some true
 else (Option.bind (F106 N p4) fun y1=>
 (bif (!y1)
 then some true
 else (bif (decide (p2<(0:Int)))
 then some true
 else (bif (decide (p2>(p4.length:Int)))
 then some true
 else (bif (decide (p3<(-1:Int)))
 then some true
 else some (decide (p3≥(p0.length:Int)))))))))))) fun b2=>
 (bif b2
 then some false
 else (Option.bind (L0_6 N N (p0,p4,(p4.length:Int),(0:Int),p1,p2,p3,p4,p5,p6,p7)) fun y16=>
 (match y16 with
 |.inl a17=>some a17
 |.inr b18=>(Option.bind (L0_17 N N (b18.2.2.2.2.1,(b18.2.2.2.2.1.length:Int),(0:Int),b18.1,b18.2.1,b18.2.2.1,b18.2.2.2.1,b18.2.2.2.2.1,b18.2.2.2.2.2.1,b18.2.2.2.2.2.2)) fun y31=>
 (match y31 with
 |.inl a32=>some a32
 |.inr b33=>(Option.bind ((Option.bind (F67 N (b33.2.2.2.2.2.1,(b33.2.2.2.2.1.length:Int))) fun y34=>
 (bif (y34==(0:Int))
 then (Option.bind (F67 N (b33.2.2.2.2.2.2,(b33.2.2.2.2.1.length:Int))) fun y35=>
 some (y35==(0:Int)))
 else some false))) fun b36=>
 some b36))))))):=by kernel_rfl
def c94 (N:Nat):Sym.Callee:=⟨f94.args,f94.ta,f94.res,f94.tr,0,F94 N⟩
theorem ok94 (N:Nat):CalOK tab 94 (c94 N):=fn_ok (f94.ok2 N) fuelW 94 f94.args f94.ta f94.res f94.tr 0
namespace f72
def bcut:Nat→Nat→Option (Nat×Ty):=fun c i=>match c,i with
 |0,1=>some (33,.bool)
 |_,_=>none
def args:List PSh:=[.agg [.sl TGType .bor,.sl .str .bor,.sl TFunc .bor]]
def ta:List Ty:=[(.sl TGType),(.sl .str),(.sl TFunc)]
def res:List (Bool×List CSh):=[(false,[.bool])]
def tr:List Ty:=[.bool]
def E0 (N:Nat):SEnv:=(((SEnv.base tab cuts ccut bcut unr ety).addCal 70 (c70 N)).addCal 24 (c24 N)).addCal 94 (c94 N)
theorem ok0 (N:Nat):EnvOK tab (E0 N):=(((base_ok tab cuts ccut bcut unr ety).addCal (ok70 N)).addCal (ok24 N)).addCal (ok94 N)
def T0_6:Tmpl:=⟨[(1,.c (.ptr 0 1 0 0 0)),(36,.c (.int .i64)),(37,.c (.int .i64))],[],[(0,1,.box 0 [.sl TGType .bor,.sl .str .bor,.sl TFunc .bor])],1,[],1,[(.int .i64),(.int .i64),(.sl TGType),(.sl .str),(.sl TFunc)]⟩
def O0_6:Outs:=[(.ret,⟨[(2,.c (.bool))],[],[],1,[],0,[.bool]⟩),(.exit 0,⟨[(1,.c (.ptr 0 1 0 0 0))],[],[(0,1,.box 0 [.sl TGType .bor,.sl .str .bor,.sl TFunc .bor])],1,[],1,[(.sl TGType),(.sl .str),(.sl TFunc)]⟩)]
def L0_6 (N:Nat) (k:Nat) (x:(Int)×(Int)×(List (GType))×(List (List UInt8))×List (Func)):Option ((Bool)⊕((List (GType))×(List (List UInt8))×List (Func))):=loopF (loopStep (E0 N) fuelW 0 6 (bodyAt t72 6) T0_6 O0_6) k x
theorem L0_6_succ (N:Nat) (k:Nat) (v2:Int) (v3:Int) (v4:List (GType)) (v5:List (List UInt8)) (v6:List (Func)):L0_6 N (k+1) (v2,v3,v4,v5,v6) =
 (bif (decide (v3<v2))
 then (Option.bind (F24 N (v4,v3)) fun y7=>
 (bif (y7.2.2 != (0:Int))
 then some (Sum.inl false)
 else L0_6 N k (v2,(wi64 (v3+(1:Int))),v4,v5,v6)))
 else some (Sum.inr (v4,v5,v6))):=by kernel_rfl
def E1 (N:Nat):SEnv:=(E0 N).addLoop N 0 6 T0_6 O0_6
theorem ok1 (N:Nat):EnvOK tab (E1 N):=(ok0 N).addLoop N 0 6 T0_6 O0_6
def T0_18:Tmpl:=⟨[(1,.c (.ptr 0 1 0 0 0)),(52,.c (.sl .str .bor)),(53,.c (.int .i64)),(54,.c (.int .i64))],[],[(0,1,.box 0 [.sl TGType .bor,.sl .str .bor,.sl TFunc .bor])],1,[],1,[(.sl .str),(.int .i64),(.int .i64),(.sl TGType),(.sl .str),(.sl TFunc)]⟩
def O0_18:Outs:=[(.ret,⟨[(2,.c (.bool))],[],[],1,[],0,[.bool]⟩),(.exit 2,⟨[(1,.c (.ptr 0 1 0 0 0))],[],[(0,1,.box 0 [.sl TGType .bor,.sl .str .bor,.sl TFunc .bor])],1,[],1,[(.sl TGType),(.sl .str),(.sl TFunc)]⟩)]
def L0_18 (N:Nat) (k:Nat) (x:(List (List UInt8))×(Int)×(Int)×(List (GType))×(List (List UInt8))×List (Func)):Option ((Bool)⊕((List (GType))×(List (List UInt8))×List (Func))):=loopF (loopStep (E1 N) fuelW 0 18 (bodyAt t72 18) T0_18 O0_18) k x
theorem L0_18_succ (N:Nat) (k:Nat) (v11:List (List UInt8)) (v12:Int) (v13:Int) (v14:List (GType)) (v15:List (List UInt8)) (v16:List (Func)):L0_18 N (k+1) (v11,v12,v13,v14,v15,v16) =
 (bif (decide (v13<v12))
 then (Option.bind (idx v11 v13) fun x17=>
 (bif (decide ((x17.length:Int)>(64:Int)))
 then some (Sum.inl false)
 else L0_18 N k (v11,v12,(wi64 (v13+(1:Int))),v14,v15,v16)))
 else some (Sum.inr (v14,v15,v16))):=by kernel_rfl
def E2 (N:Nat):SEnv:=(E1 N).addLoop N 0 18 T0_18 O0_18
theorem ok2 (N:Nat):EnvOK tab (E2 N):=(ok1 N).addLoop N 0 18 T0_18 O0_18
def T0_30:Tmpl:=⟨[(1,.c (.ptr 0 1 0 0 0)),(9,.c (.mp 0 62 1)),(64,.c (.sl TFunc .bor)),(65,.c (.int .i64)),(66,.c (.int .i64))],[],[(0,1,.box 0 [.sl TGType .bor,.sl .str .bor,.sl TFunc .bor]),(0,62,.set 1)],1,[],2,[(.sl TFunc),(.int .i64),(.int .i64),(.sl TGType),(.sl .str),(.sl TFunc),(.sl .str)]⟩
def O0_30:Outs:=[(.ret,⟨[(2,.c (.bool))],[],[],1,[],0,[.bool]⟩),(.exit 4,⟨[],[],[],1,[],0,[]⟩)]
def L0_30 (N:Nat) (k:Nat) (x:(List (Func))×(Int)×(Int)×(List (GType))×(List (List UInt8))×(List (Func))×List (List UInt8)):Option ((Bool)⊕(Unit)):=loopF (loopStep (E2 N) fuelW 0 30 (bodyAt t72 30) T0_30 O0_30) k x
theorem L0_30_succ (N:Nat) (k:Nat) (v21:List (Func)) (v22:Int) (v23:Int) (v24:List (GType)) (v25:List (List UInt8)) (v26:List (Func)) (v27:List (List UInt8)):L0_30 N (k+1) (v21,v22,v23,v24,v25,v26,v27) =
 (bif (decide (v23<v22))
 then (Option.bind (idx v21 v23) fun x28=>
 (bif (hasB v27 x28.1)
 then some (Sum.inl false)
 else (Option.bind (F94 N (v24,x28.1,x28.2.1,x28.2.2.1,x28.2.2.2.1,x28.2.2.2.2.1,x28.2.2.2.2.2.1,x28.2.2.2.2.2.2)) fun y29=>
 (bif (!y29)
 then some (Sum.inl false)
 else L0_30 N k (v21,v22,(wi64 (v23+(1:Int))),v24,v25,v26,(addB v27 x28.1))))))
 else some (Sum.inr ())):=by kernel_rfl
def E3 (N:Nat):SEnv:=(E2 N).addLoop N 0 30 T0_30 O0_30
theorem ok3 (N:Nat):EnvOK tab (E3 N):=(ok2 N).addLoop N 0 30 T0_30 O0_30
end f72
def F72 (N:Nat) (x:(List (GType))×(List (List UInt8))×List (Func)):Option (Bool):=fnRun (f72.E3 N) fuelW 72 f72.args f72.ta f72.res f72.tr 0 x
open f72 in
theorem F72_eq (N:Nat) (p0:List (GType)) (p1:List (List UInt8)) (p2:List (Func)):F72 N (p0,p1,p2) =
 (Option.bind ((Option.bind (F70 N p0) fun y0=>
 (bif (y0 != (0:Int))
 then some true
 else (bif (decide ((p1.length:Int)>(32:Int)))
 then some true
 else (bif ((p2.length:Int)==(0:Int))
 then some true
 else some (decide ((p2.length:Int)>(32:Int)))))))) fun b1=>
 (bif b1
 then some false
 else (Option.bind (L0_6 N N ((p0.length:Int),(0:Int),p0,p1,p2)) fun y8=>
 (match y8 with
 |.inl a9=>some a9
 |.inr b10=>(Option.bind (L0_18 N N (b10.2.1,(b10.2.1.length:Int),(0:Int),b10.1,b10.2.1,b10.2.2)) fun y18=>
 (match y18 with
 |.inl a19=>some a19
 |.inr b20=>(Option.bind (L0_30 N N (b20.2.2,(b20.2.2.length:Int),(0:Int),b20.1,b20.2.1,b20.2.2,([]:List (List UInt8)))) fun y30=>
 (match y30 with
 |.inl a31=>some a31
 |.inr b32=>some true)))))))):=by kernel_rfl
def c72 (N:Nat):Sym.Callee:=⟨f72.args,f72.ta,f72.res,f72.tr,0,F72 N⟩
theorem ok72 (N:Nat):CalOK tab 72 (c72 N):=fn_ok (f72.ok3 N) fuelW 72 f72.args f72.ta f72.res f72.tr 0
namespace f96
def unr:Nat→Nat→Bool:=fun c i=>match c,i with
 |0,4=>true
 |_,_=>false
def ety:Nat→Nat→Option Ty:=fun c d=>match c,d with
 |0,2=>some (.int .u8)
 |1014000,5=>some (.int .u8)
 |1018000,5=>some (.int .u8)
 |_,_=>none
def args:List PSh:=[.c (.int .u64)]
def ta:List Ty:=[(.int .u64)]
def res:List (Bool×List CSh):=[(false,[.sl (.int .u8) .d])]
def tr:List Ty:=[(.sl (.int .u8))]
def E0 (N:Nat):SEnv:=SEnv.base tab cuts ccut bcut unr ety
theorem ok0 (N:Nat):EnvOK tab (E0 N):=base_ok tab cuts ccut bcut unr ety
def T0_100004:Tmpl:=⟨[(0,.c (.int .u64)),(3,.c (.ptr 0 3 0 0 0)),(4,.clo 108 [.ptr 0 3 0 0 0])],[],[(0,3,.box 0 [.ref 0 1108006 1 (.int .u8)]),(0,1108006,.row 1 (.int .u8))],1,[],2,[(.int .u64),(.sl (.int .u8))]⟩
def O0_100004:Outs:=[(.exit 0,⟨[(0,.c (.int .u64)),(3,.c (.ptr 0 3 0 0 0)),(4,.clo 108 [.ptr 0 3 0 0 0])],[],[(0,3,.box 0 [.ref 0 1108006 1 (.int .u8)]),(0,1108006,.row 1 (.int .u8))],1,[],2,[(.int .u64),(.sl (.int .u8))]⟩)]
def L0_100004 (N:Nat) (k:Nat) (x:(Int)×List (Int)):Option (((Int)×List (Int))):=loopF (loopStep (E0 N) fuelW 0 100004 (bodyAt t96 4) T0_100004 O0_100004) k x
theorem L0_100004_succ (N:Nat) (k:Nat) (v0:Int) (v1:List (Int)):L0_100004 N (k+1) (v0,v1) =
 (bif (decide (v0≥(128:Int)))
 then (chk (room (v1.length+1) 1)
 (L0_100004 N k ((Int.fdiv v0 128),(v1++[(ior .u8 (wu8 v0) (128:Int))]))))
 else some (v0,v1)):=by kernel_rfl
def E1 (N:Nat):SEnv:=(E0 N).addLoop N 0 100004 T0_100004 O0_100004
theorem ok1 (N:Nat):EnvOK tab (E1 N):=(ok0 N).addLoop N 0 100004 T0_100004 O0_100004
end f96
def F96 (N:Nat) (x:Int):Option (List (Int)):=fnRun (f96.E1 N) fuelW 96 f96.args f96.ta f96.res f96.tr 1 x
open f96 in
theorem F96_eq (N:Nat) (p0:Int):F96 N p0 =
 (bif (decide (p0≥(128:Int)))
 then (chk (room 1 1)
 ((Option.bind (L0_100004 N N ((Int.fdiv p0 128),[(ior .u8 (wu8 p0) (128:Int))])) fun y2=>
 (chk (room (y2.2.length+1) 1)
 (some (y2.2++[(wu8 y2.1)]))))))
 else (chk (room 1 1)
 (some [(wu8 p0)]))):=by kernel_rfl
def c96 (N:Nat):Sym.Callee:=⟨f96.args,f96.ta,f96.res,f96.tr,1,F96 N⟩
theorem ok96 (N:Nat):CalOK tab 96 (c96 N):=fn_ok (f96.ok1 N) fuelW 96 f96.args f96.ta f96.res f96.tr 1
namespace f97
def args:List PSh:=[.c (.int .i64)]
def ta:List Ty:=[(.int .i64)]
def res:List (Bool×List CSh):=[(false,[.sl (.int .u8) .d])]
def tr:List Ty:=[(.sl (.int .u8))]
def E0 (N:Nat):SEnv:=(SEnv.base tab cuts ccut bcut unr ety).addCal 96 (c96 N)
theorem ok0 (N:Nat):EnvOK tab (E0 N):=(base_ok tab cuts ccut bcut unr ety).addCal (ok96 N)
end f97
def F97 (N:Nat) (x:Int):Option (List (Int)):=fnRun (f97.E0 N) fuelW 97 f97.args f97.ta f97.res f97.tr 0 x
open f97 in
theorem F97_eq (N:Nat) (p0:Int):F97 N p0 =
 (Option.bind (F96 N (ixor .u64 (wu64 ((wu64 p0)*2)) (wu64 (Int.fdiv p0 9223372036854775808)))) fun y0=>
 some y0):=by kernel_rfl
def c97 (N:Nat):Sym.Callee:=⟨f97.args,f97.ta,f97.res,f97.tr,0,F97 N⟩
theorem ok97 (N:Nat):CalOK tab 97 (c97 N):=fn_ok (f97.ok0 N) fuelW 97 f97.args f97.ta f97.res f97.tr 0
namespace f98
def bcut:Nat→Nat→Option (Nat×Ty):=fun c i=>match c,i with
 |0,100017=>some (39,.bool)
 |0,17=>some (39,.bool)
 |_,_=>none
def unr:Nat→Nat→Bool:=fun c i=>match c,i with
 |0,9=>true
 |0,100009=>true
 |_,_=>false
def ety:Nat→Nat→Option Ty:=fun c d=>match c,d with
 |0,23=>some (.int .u8)
 |_,_=>none
def args:List PSh:=[.agg [.int .u8,.int .i64,.int .i64,.int .i64]]
def ta:List Ty:=[(.int .u8),(.int .i64),(.int .i64),(.int .i64)]
def res:List (Bool×List CSh):=[(false,[.sl (.int .u8) .d]),(false,[.int .i64])]
def tr:List Ty:=[(.sl (.int .u8)),(.int .i64)]
def E0 (N:Nat):SEnv:=(((((SEnv.base tab cuts ccut bcut unr ety).addCal 107 (c107 N)).addCal 109 (c109 N)).addCal 110 (c110 N)).addCal 97 (c97 N)).addCal 96 (c96 N)
theorem ok0 (N:Nat):EnvOK tab (E0 N):=(((((base_ok tab cuts ccut bcut unr ety).addCal (ok107 N)).addCal (ok109 N)).addCal (ok110 N)).addCal (ok97 N)).addCal (ok96 N)
end f98
def F98 (N:Nat) (x:(Int)×(Int)×(Int)×Int):Option ((List (Int))×Int):=fnRun (f98.E0 N) fuelW 98 f98.args f98.ta f98.res f98.tr 0 x
open f98 in
theorem F98_eq (N:Nat) (p0:Int) (p1:Int) (p2:Int) (p3:Int):F98 N (p0,p1,p2,p3) =
 (Option.bind (F107 N (p0,p1,p2,p3)) fun y0=>
 (bif (y0 != (0:Int))
 then some ([],y0)
 else (Option.bind (F109 N p0) fun y1=>
 (Option.bind (F110 N (p0,p1,p2,p3)) fun y2=>
 (bif (decide ((0:Int)≥y1.2.2.2.2.2.2.2.2.2.2.2.2))
 then (bif (decide ((1:Int)≥y1.2.2.2.2.2.2.2.2.2.2.2.2))
 then (bif (decide ((2:Int)≥y1.2.2.2.2.2.2.2.2.2.2.2.2))
 then some ([p0],(0:Int))
 else (bif (decide (y1.2.2.2.2.2.2.2.2.1<(0:Int)))
 then (Option.bind (F97 N y2.2.2) fun y4=>
 (chk (room (1+y4.length) 1)
 (some (([p0]++y4),(0:Int)))))
 else (Option.bind (F96 N (wu64 y2.2.2)) fun y5=>
 (chk (room (1+y5.length) 1)
 (some (([p0]++y5),(0:Int)))))))
 else (bif (decide (y1.2.2.2.2.1<(0:Int)))
 then (Option.bind (F97 N y2.2.1) fun y7=>
 (chk (room (1+y7.length) 1)
 ((bif (decide ((2:Int)≥y1.2.2.2.2.2.2.2.2.2.2.2.2))
 then some (([p0]++y7),(0:Int))
 else (bif (decide (y1.2.2.2.2.2.2.2.2.1<(0:Int)))
 then (Option.bind (F97 N y2.2.2) fun y9=>
 (chk (room (([p0]++y7).length+y9.length) 1)
 (some ((([p0]++y7)++y9),(0:Int)))))
 else (Option.bind (F96 N (wu64 y2.2.2)) fun y10=>
 (chk (room (([p0]++y7).length+y10.length) 1)
 (some ((([p0]++y7)++y10),(0:Int))))))))))
 else (Option.bind (F96 N (wu64 y2.2.1)) fun y11=>
 (chk (room (1+y11.length) 1)
 ((bif (decide ((2:Int)≥y1.2.2.2.2.2.2.2.2.2.2.2.2))
 then some (([p0]++y11),(0:Int))
 else (bif (decide (y1.2.2.2.2.2.2.2.2.1<(0:Int)))
 then (Option.bind (F97 N y2.2.2) fun y13=>
 (chk (room (([p0]++y11).length+y13.length) 1)
 (some ((([p0]++y11)++y13),(0:Int)))))
 else (Option.bind (F96 N (wu64 y2.2.2)) fun y14=>
 (chk (room (([p0]++y11).length+y14.length) 1)
 (some ((([p0]++y11)++y14),(0:Int))))))))))))
 else (bif (decide (y1.1<(0:Int)))
 then (Option.bind (F97 N y2.1) fun y16=>
 (chk (room (1+y16.length) 1)
 ((bif (decide ((1:Int)≥y1.2.2.2.2.2.2.2.2.2.2.2.2))
 then (bif (decide ((2:Int)≥y1.2.2.2.2.2.2.2.2.2.2.2.2))
 then some (([p0]++y16),(0:Int))
 else (bif (decide (y1.2.2.2.2.2.2.2.2.1<(0:Int)))
 then (Option.bind (F97 N y2.2.2) fun y18=>
 (chk (room (([p0]++y16).length+y18.length) 1)
 (some ((([p0]++y16)++y18),(0:Int)))))
 else (Option.bind (F96 N (wu64 y2.2.2)) fun y19=>
 (chk (room (([p0]++y16).length+y19.length) 1)
 (some ((([p0]++y16)++y19),(0:Int)))))))
 else (bif (decide (y1.2.2.2.2.1<(0:Int)))
 then (Option.bind (F97 N y2.2.1) fun y21=>
 (chk (room (([p0]++y16).length+y21.length) 1)
 ((bif (decide ((2:Int)≥y1.2.2.2.2.2.2.2.2.2.2.2.2))
 then some ((([p0]++y16)++y21),(0:Int))
 else (bif (decide (y1.2.2.2.2.2.2.2.2.1<(0:Int)))
 then (Option.bind (F97 N y2.2.2) fun y23=>
 (chk (room ((([p0]++y16)++y21).length+y23.length) 1)
 (some (((([p0]++y16)++y21)++y23),(0:Int)))))
 else (Option.bind (F96 N (wu64 y2.2.2)) fun y24=>
 (chk (room ((([p0]++y16)++y21).length+y24.length) 1)
 (some (((([p0]++y16)++y21)++y24),(0:Int))))))))))
 else (Option.bind (F96 N (wu64 y2.2.1)) fun y25=>
 (chk (room (([p0]++y16).length+y25.length) 1)
 ((bif (decide ((2:Int)≥y1.2.2.2.2.2.2.2.2.2.2.2.2))
 then some ((([p0]++y16)++y25),(0:Int))
 else (bif (decide (y1.2.2.2.2.2.2.2.2.1<(0:Int)))
 then (Option.bind (F97 N y2.2.2) fun y27=>
 (chk (room ((([p0]++y16)++y25).length+y27.length) 1)
 (some (((([p0]++y16)++y25)++y27),(0:Int)))))
 else (Option.bind (F96 N (wu64 y2.2.2)) fun y28=>
 (chk (room ((([p0]++y16)++y25).length+y28.length) 1)
 (some (((([p0]++y16)++y25)++y28),(0:Int)))))))))))))))
 else (Option.bind (F96 N (wu64 y2.1)) fun y29=>
 (chk (room (1+y29.length) 1)
 ((bif (decide ((1:Int)≥y1.2.2.2.2.2.2.2.2.2.2.2.2))
 then (bif (decide ((2:Int)≥y1.2.2.2.2.2.2.2.2.2.2.2.2))
 then some (([p0]++y29),(0:Int))
 else (bif (decide (y1.2.2.2.2.2.2.2.2.1<(0:Int)))
 then (Option.bind (F97 N y2.2.2) fun y31=>
 (chk (room (([p0]++y29).length+y31.length) 1)
 (some ((([p0]++y29)++y31),(0:Int)))))
 else (Option.bind (F96 N (wu64 y2.2.2)) fun y32=>
 (chk (room (([p0]++y29).length+y32.length) 1)
 (some ((([p0]++y29)++y32),(0:Int)))))))
 else (bif (decide (y1.2.2.2.2.1<(0:Int)))
 then (Option.bind (F97 N y2.2.1) fun y34=>
 (chk (room (([p0]++y29).length+y34.length) 1)
 ((bif (decide ((2:Int)≥y1.2.2.2.2.2.2.2.2.2.2.2.2))
 then some ((([p0]++y29)++y34),(0:Int))
 else (bif (decide (y1.2.2.2.2.2.2.2.2.1<(0:Int)))
 then (Option.bind (F97 N y2.2.2) fun y36=>
 (chk (room ((([p0]++y29)++y34).length+y36.length) 1)
 (some (((([p0]++y29)++y34)++y36),(0:Int)))))
 else (Option.bind (F96 N (wu64 y2.2.2)) fun y37=>
 (chk (room ((([p0]++y29)++y34).length+y37.length) 1)
 (some (((([p0]++y29)++y34)++y37),(0:Int))))))))))
 else (Option.bind (F96 N (wu64 y2.2.1)) fun y38=>
 (chk (room (([p0]++y29).length+y38.length) 1)
 ((bif (decide ((2:Int)≥y1.2.2.2.2.2.2.2.2.2.2.2.2))
 then some ((([p0]++y29)++y38),(0:Int))
 else (bif (decide (y1.2.2.2.2.2.2.2.2.1<(0:Int)))
 then (Option.bind (F97 N y2.2.2) fun y40=>
 (chk (room ((([p0]++y29)++y38).length+y40.length) 1)
 (some (((([p0]++y29)++y38)++y40),(0:Int)))))
 else (Option.bind (F96 N (wu64 y2.2.2)) fun y41=>
 (chk (room ((([p0]++y29)++y38).length+y41.length) 1)
 (some (((([p0]++y29)++y38)++y41),(0:Int))))))))))))))))))))):=by kernel_rfl
def c98 (N:Nat):Sym.Callee:=⟨f98.args,f98.ta,f98.res,f98.tr,0,F98 N⟩
theorem ok98 (N:Nat):CalOK tab 98 (c98 N):=fn_ok (f98.ok0 N) fuelW 98 f98.args f98.ta f98.res f98.tr 0
namespace f99
def args:List PSh:=[.c (.sl TRun .bor),.c (.int .i64)]
def ta:List Ty:=[(.sl TRun),(.int .i64)]
def res:List (Bool×List CSh):=[(false,[.sl (.int .u8) .d]),(false,[.int .i64])]
def tr:List Ty:=[(.sl (.int .u8)),(.int .i64)]
def E0 (N:Nat):SEnv:=((SEnv.base tab cuts ccut bcut unr ety).addCal 67 (c67 N)).addCal 96 (c96 N)
theorem ok0 (N:Nat):EnvOK tab (E0 N):=((base_ok tab cuts ccut bcut unr ety).addCal (ok67 N)).addCal (ok96 N)
def T0_9:Tmpl:=⟨[(7,.c (.ref 0 20 0 (.int .u8))),(8,.c (.int .i64)),(21,.c (.sl TRun .bor)),(22,.c (.int .i64)),(23,.c (.int .i64))],[],[(0,20,.row 0 (.int .u8))],1,[],1,[(.int .i64),(.sl TRun),(.int .i64),(.int .i64),(.sl (.int .u8))]⟩
def O0_9:Outs:=[(.exit 0,⟨[(7,.c (.ref 0 20 0 (.int .u8)))],[],[(0,20,.row 0 (.int .u8))],1,[],1,[(.sl (.int .u8))]⟩)]
def L0_9 (N:Nat) (k:Nat) (x:(Int)×(List (Run))×(Int)×(Int)×List (Int)):Option ((List (Int))):=loopF (loopStep (E0 N) fuelW 0 9 (bodyAt t99 9) T0_9 O0_9) k x
theorem L0_9_succ (N:Nat) (k:Nat) (v2:Int) (v3:List (Run)) (v4:Int) (v5:Int) (v6:List (Int)):L0_9 N (k+1) (v2,v3,v4,v5,v6) =
 (bif (decide (v5<v4))
 then (Option.bind (idx v3 v5) fun x7=>
 (Option.bind (F96 N (wu64 (wi64 (x7.1-v2)))) fun y8=>
 (chk (room (v6.length+y8.length) 1)
 ((Option.bind (F96 N x7.2) fun y9=>
 (chk (room ((v6++y8).length+y9.length) 1)
 (L0_9 N k (x7.1,v3,v4,(wi64 (v5+(1:Int))),((v6++y8)++y9)))))))))
 else some v6):=by kernel_rfl
def E1 (N:Nat):SEnv:=(E0 N).addLoop N 0 9 T0_9 O0_9
theorem ok1 (N:Nat):EnvOK tab (E1 N):=(ok0 N).addLoop N 0 9 T0_9 O0_9
end f99
def F99 (N:Nat) (x:(List (Run))×Int):Option ((List (Int))×Int):=fnRun (f99.E1 N) fuelW 99 f99.args f99.ta f99.res f99.tr 0 x
open f99 in
theorem F99_eq (N:Nat) (p0:List (Run)) (p1:Int):F99 N (p0,p1) =
 (Option.bind (F67 N (p0,p1)) fun y0=>
 (bif (y0 != (0:Int))
 then some ([],y0)
 else (Option.bind (F96 N (wu64 (p0.length:Int))) fun y1=>
 (Option.bind (L0_9 N N ((0:Int),p0,(p0.length:Int),(0:Int),y1)) fun y10=>
 some (y10,(0:Int)))))):=by kernel_rfl
def c99 (N:Nat):Sym.Callee:=⟨f99.args,f99.ta,f99.res,f99.tr,0,F99 N⟩
theorem ok99 (N:Nat):CalOK tab 99 (c99 N):=fn_ok (f99.ok1 N) fuelW 99 f99.args f99.ta f99.res f99.tr 0
namespace f49
def bcut:Nat→Nat→Option (Nat×Ty):=fun c i=>match c,i with
 |1015000,12=>some (29,.bool)
 |_,_=>none
def ety:Nat→Nat→Option Ty:=fun c d=>match c,d with
 |1015000,23=>some (.int .u8)
 |1042000,70=>some (.sl TRun)
 |_,_=>none
def args:List PSh:=[.agg [.sl TGType .bor,.sl .str .bor,.sl TFunc .bor]]
def ta:List Ty:=[(.sl TGType),(.sl .str),(.sl TFunc)]
def res:List (Bool×List CSh):=[(false,[.sl (.int .u8) .d]),(false,[.int .i64])]
def tr:List Ty:=[(.sl (.int .u8)),(.int .i64)]
def E0 (N:Nat):SEnv:=(((((SEnv.base tab cuts ccut bcut unr ety).addCal 72 (c72 N)).addCal 96 (c96 N)).addCal 97 (c97 N)).addCal 98 (c98 N)).addCal 99 (c99 N)
theorem ok0 (N:Nat):EnvOK tab (E0 N):=(((((base_ok tab cuts ccut bcut unr ety).addCal (ok72 N)).addCal (ok96 N)).addCal (ok97 N)).addCal (ok98 N)).addCal (ok99 N)
def T1015001051000_3:Tmpl:=⟨[(0,.c (.ptr 0 4 0 0 0)),(10,.c (.sl TField .d)),(11,.c (.int .i64)),(12,.c (.int .i64))],[[(0,.c (.ptr 0 4 0 0 0))],[(1,.c (.ptr 0 1 1 0 0)),(4,.c (.ptr 0 4 0 0 0))]],[(0,4,.box 0 [.sl (.int .u8) (.app 2)]),(0,1,.box 1 [.sl TGType .bor,.sl .str .bor,.sl TFunc .bor])],3,[2],3,[(.sl TField),(.int .i64),(.int .i64),(.sl (.int .u8)),(.sl TGType),(.sl .str),(.sl TFunc)]⟩
def O1015001051000_3:Outs:=[(.exit 0,⟨[],[[(0,.c (.ptr 0 4 0 0 0))],[(1,.c (.ptr 0 1 1 0 0)),(4,.c (.ptr 0 4 0 0 0))]],[(0,4,.box 0 [.sl (.int .u8) (.app 2)]),(0,1,.box 1 [.sl TGType .bor,.sl .str .bor,.sl TFunc .bor])],3,[2],3,[(.sl (.int .u8)),(.sl TGType),(.sl .str),(.sl TFunc)]⟩)]
def L1015001051000_3 (N:Nat) (k:Nat) (x:(List (Field))×(Int)×(Int)×(List (Int))×(List (GType))×(List (List UInt8))×List (Func)):Option (((List (Int))×(List (GType))×(List (List UInt8))×List (Func))):=loopF (loopStep (E0 N) fuelW 1015001051000 3 (bodyAt t95 3) T1015001051000_3 O1015001051000_3) k x
theorem L1015001051000_3_succ (N:Nat) (k:Nat) (v15:List (Field)) (v16:Int) (v17:Int) (v18:List (Int)) (v19:List (GType)) (v20:List (List UInt8)) (v21:List (Func)):L1015001051000_3 N (k+1) (v15,v16,v17,v18,v19,v20,v21) =
 (bif (decide (v17<v16))
 then (Option.bind (idx v15 v17) fun x22=>
 (Option.bind (F96 N (wu64 (x22.1.length:Int))) fun y23=>
 (chk (room (v18.length+y23.length) 1)
 ((chk (room ((v18++y23).length+(bytesL x22.1).length) 1)
 ((Option.bind (F96 N (wu64 x22.2)) fun y24=>
 (chk (room (((v18++y23)++(bytesL x22.1)).length+y24.length) 1)
 (L1015001051000_3 N k (v15,v16,(wi64 (v17+(1:Int))),(((v18++y23)++(bytesL x22.1))++y24),v19,v20,v21))))))))))
 else some (v18,v19,v20,v21)):=by kernel_rfl
def E1 (N:Nat):SEnv:=(E0 N).addLoop N 1015001051000 3 T1015001051000_3 O1015001051000_3
theorem ok1 (N:Nat):EnvOK tab (E1 N):=(ok0 N).addLoop N 1015001051000 3 T1015001051000_3 O1015001051000_3
def T1015000_3:Tmpl:=⟨[(0,.c (.ptr 0 4 0 0 0)),(10,.c (.sl TGType .bor)),(11,.c (.int .i64)),(12,.c (.int .i64))],[[(1,.c (.ptr 0 1 1 0 0)),(4,.c (.ptr 0 4 0 0 0))]],[(0,4,.box 0 [.sl (.int .u8) (.app 2)]),(0,1,.box 1 [.sl TGType .bor,.sl .str .bor,.sl TFunc .bor])],2,[2],3,[(.sl TGType),(.int .i64),(.int .i64),(.sl (.int .u8)),(.sl TGType),(.sl .str),(.sl TFunc)]⟩
def O1015000_3:Outs:=[(.exit 0,⟨[],[[(1,.c (.ptr 0 1 0 0 0)),(4,.c (.ptr 0 4 1 0 0))]],[(0,1,.box 0 [.sl TGType .bor,.sl .str .bor,.sl TFunc .bor]),(0,4,.box 1 [.sl (.int .u8) (.app 2)])],2,[2],3,[(.sl TGType),(.sl .str),(.sl TFunc),(.sl (.int .u8))]⟩)]
def L1015000_3 (N:Nat) (k:Nat) (x:(List (GType))×(Int)×(Int)×(List (Int))×(List (GType))×(List (List UInt8))×List (Func)):Option (((List (GType))×(List (List UInt8))×(List (Func))×List (Int))):=loopF (loopStep (E1 N) fuelW 1015000 3 (bodyAt t73 3) T1015000_3 O1015000_3) k x
theorem L1015000_3_succ (N:Nat) (k:Nat) (v2:List (GType)) (v3:Int) (v4:Int) (v5:List (Int)) (v6:List (GType)) (v7:List (List UInt8)) (v8:List (Func)):L1015000_3 N (k+1) (v2,v3,v4,v5,v6,v7,v8) =
 (bif (decide (v4<v3))
 then (Option.bind (idx v2 v4) fun x9=>
 (chk (room (v5.length+1) 1)
 ((Option.bind ((bif (x9.1==(4:Int))
 then some true
 else some (x9.1==(7:Int)))) fun b10=>
 (bif b10
 then (Option.bind (F96 N (wu64 x9.2.1)) fun y11=>
 (chk (room ((v5++[x9.1]).length+y11.length) 1)
 (L1015000_3 N k (v2,v3,(wi64 (v4+(1:Int))),((v5++[x9.1])++y11),v6,v7,v8))))
 else (bif (x9.1==(6:Int))
 then (Option.bind (F96 N (wu64 x9.2.1)) fun y12=>
 (chk (room ((v5++[x9.1]).length+y12.length) 1)
 ((Option.bind (F96 N (wu64 x9.2.2.1)) fun y13=>
 (chk (room (((v5++[x9.1])++y12).length+y13.length) 1)
 (L1015000_3 N k (v2,v3,(wi64 (v4+(1:Int))),(((v5++[x9.1])++y12)++y13),v6,v7,v8)))))))
 else (bif (x9.1==(5:Int))
 then (Option.bind (F96 N (wu64 (x9.2.2.2.length:Int))) fun y14=>
 (chk (room ((v5++[x9.1]).length+y14.length) 1)
 ((Option.bind (L1015001051000_3 N N (x9.2.2.2,(x9.2.2.2.length:Int),(0:Int),((v5++[x9.1])++y14),v6,v7,v8)) fun y25=>
 L1015000_3 N k (v2,v3,(wi64 (v4+(1:Int))),y25.1,y25.2.1,y25.2.2.1,y25.2.2.2)))))
 else L1015000_3 N k (v2,v3,(wi64 (v4+(1:Int))),(v5++[x9.1]),v6,v7,v8))))))))
 else some (v6,v7,v8,v5)):=by kernel_rfl
def E2 (N:Nat):SEnv:=(E1 N).addLoop N 1015000 3 T1015000_3 O1015000_3
theorem ok2 (N:Nat):EnvOK tab (E2 N):=(ok1 N).addLoop N 1015000 3 T1015000_3 O1015000_3
def T0_9:Tmpl:=⟨[(1,.c (.ptr 0 1 0 0 0)),(4,.c (.ptr 0 4 1 0 0)),(21,.c (.sl .str .bor)),(22,.c (.int .i64)),(23,.c (.int .i64))],[],[(0,1,.box 0 [.sl TGType .bor,.sl .str .bor,.sl TFunc .bor]),(0,4,.box 1 [.sl (.int .u8) (.app 2)])],1,[2],3,[(.sl .str),(.int .i64),(.int .i64),(.sl TGType),(.sl .str),(.sl TFunc),(.sl (.int .u8))]⟩
def O0_9:Outs:=[(.exit 0,⟨[(1,.c (.ptr 0 1 0 0 0)),(4,.c (.ptr 0 4 1 0 0))],[],[(0,1,.box 0 [.sl TGType .bor,.sl .str .bor,.sl TFunc .bor]),(0,4,.box 1 [.sl (.int .u8) (.app 2)])],1,[2],3,[(.sl TGType),(.sl .str),(.sl TFunc),(.sl (.int .u8))]⟩)]
def L0_9 (N:Nat) (k:Nat) (x:(List (List UInt8))×(Int)×(Int)×(List (GType))×(List (List UInt8))×(List (Func))×List (Int)):Option (((List (GType))×(List (List UInt8))×(List (Func))×List (Int))):=loopF (loopStep (E2 N) fuelW 0 9 (bodyAt t49 9) T0_9 O0_9) k x
theorem L0_9_succ (N:Nat) (k:Nat) (v28:List (List UInt8)) (v29:Int) (v30:Int) (v31:List (GType)) (v32:List (List UInt8)) (v33:List (Func)) (v34:List (Int)):L0_9 N (k+1) (v28,v29,v30,v31,v32,v33,v34) =
 (bif (decide (v30<v29))
 then (Option.bind (idx v28 v30) fun x35=>
 (Option.bind (F96 N (wu64 (x35.length:Int))) fun y36=>
 (chk (room (v34.length+y36.length) 1)
 ((chk (room ((v34++y36).length+(bytesL x35).length) 1)
 (L0_9 N k (v28,v29,(wi64 (v30+(1:Int))),v31,v32,v33,((v34++y36)++(bytesL x35)))))))))
 else some (v31,v32,v33,v34)):=by kernel_rfl
def E3 (N:Nat):SEnv:=(E2 N).addLoop N 0 9 T0_9 O0_9
theorem ok3 (N:Nat):EnvOK tab (E3 N):=(ok2 N).addLoop N 0 9 T0_9 O0_9
def T1042001035000_3:Tmpl:=⟨[(0,.c (.ptr 0 4 0 0 0)),(10,.c (.sl TField .d)),(11,.c (.int .i64)),(12,.c (.int .i64))],[[(0,.c (.ptr 0 4 0 0 0)),(3,.c (.ptr 1 3 1 0 0))],[(4,.c (.ptr 0 4 0 0 0))]],[(0,4,.box 0 [.sl (.int .u8) (.app 2)]),(1,3,.box 1 [.str,.int .i64,.int .i64,.sl TField .d,.sl TInstr .d,.sl TRun .d,.sl TRun .d])],3,[2],3,[(.sl TField),(.int .i64),(.int .i64),(.sl (.int .u8)),.str,(.int .i64),(.int .i64),(.sl TField),(.sl TInstr),(.sl TRun),(.sl TRun)]⟩
def O1042001035000_3:Outs:=[(.exit 0,⟨[],[[(0,.c (.ptr 0 4 0 0 0)),(3,.c (.ptr 1 3 1 0 0))],[(4,.c (.ptr 0 4 0 0 0))]],[(0,4,.box 0 [.sl (.int .u8) (.app 2)]),(1,3,.box 1 [.str,.int .i64,.int .i64,.sl TField .d,.sl TInstr .d,.sl TRun .d,.sl TRun .d])],3,[2],3,[(.sl (.int .u8)),.str,(.int .i64),(.int .i64),(.sl TField),(.sl TInstr),(.sl TRun),(.sl TRun)]⟩)]
def L1042001035000_3 (N:Nat) (k:Nat) (x:(List (Field))×(Int)×(Int)×(List (Int))×(List UInt8)×(Int)×(Int)×(List (Field))×(List (Instr))×(List (Run))×List (Run)):Option (((List (Int))×(List UInt8)×(Int)×(Int)×(List (Field))×(List (Instr))×(List (Run))×List (Run))):=loopF (loopStep (E3 N) fuelW 1042001035000 3 (bodyAt t95 3) T1042001035000_3 O1042001035000_3) k x
theorem L1042001035000_3_succ (N:Nat) (k:Nat) (v48:List (Field)) (v49:Int) (v50:Int) (v51:List (Int)) (v52:List UInt8) (v53:Int) (v54:Int) (v55:List (Field)) (v56:List (Instr)) (v57:List (Run)) (v58:List (Run)):L1042001035000_3 N (k+1) (v48,v49,v50,v51,v52,v53,v54,v55,v56,v57,v58) =
 (bif (decide (v50<v49))
 then (Option.bind (idx v48 v50) fun x59=>
 (Option.bind (F96 N (wu64 (x59.1.length:Int))) fun y60=>
 (chk (room (v51.length+y60.length) 1)
 ((chk (room ((v51++y60).length+(bytesL x59.1).length) 1)
 ((Option.bind (F96 N (wu64 x59.2)) fun y61=>
 (chk (room (((v51++y60)++(bytesL x59.1)).length+y61.length) 1)
 (L1042001035000_3 N k (v48,v49,(wi64 (v50+(1:Int))),(((v51++y60)++(bytesL x59.1))++y61),v52,v53,v54,v55,v56,v57,v58))))))))))
 else some (v51,v52,v53,v54,v55,v56,v57,v58)):=by kernel_rfl
def E4 (N:Nat):SEnv:=(E3 N).addLoop N 1042001035000 3 T1042001035000_3 O1042001035000_3
theorem ok4 (N:Nat):EnvOK tab (E4 N):=(ok3 N).addLoop N 1042001035000 3 T1042001035000_3 O1042001035000_3
def T1042000_8:Tmpl:=⟨[(0,.c (.ptr 0 4 0 0 0)),(3,.c (.ptr 1 3 1 0 0)),(42,.c (.sl TInstr .d)),(43,.c (.int .i64)),(44,.c (.int .i64))],[[(4,.c (.ptr 0 4 0 0 0))]],[(0,4,.box 0 [.sl (.int .u8) (.app 2)]),(1,3,.box 1 [.str,.int .i64,.int .i64,.sl TField .d,.sl TInstr .d,.sl TRun .d,.sl TRun .d])],2,[2],3,[(.sl TInstr),(.int .i64),(.int .i64),(.sl (.int .u8)),.str,(.int .i64),(.int .i64),(.sl TField),(.sl TInstr),(.sl TRun),(.sl TRun)]⟩
def O1042000_8:Outs:=[(.ret,⟨[(4,.c (.int .i64))],[[(4,.c (.ptr 0 4 0 0 0))]],[(0,4,.box 0 [.sl (.int .u8) (.app 1)])],2,[1],2,[(.int .i64),(.sl (.int .u8))]⟩),(.exit 0,⟨[(0,.c (.ptr 0 4 0 0 0)),(3,.c (.ptr 1 3 1 0 0))],[[(4,.c (.ptr 0 4 0 0 0))]],[(0,4,.box 0 [.sl (.int .u8) (.app 2)]),(1,3,.box 1 [.str,.int .i64,.int .i64,.sl TField .d,.sl TInstr .d,.sl TRun .d,.sl TRun .d])],2,[2],3,[(.sl (.int .u8)),.str,(.int .i64),(.int .i64),(.sl TField),(.sl TInstr),(.sl TRun),(.sl TRun)]⟩)]
def L1042000_8 (N:Nat) (k:Nat) (x:(List (Instr))×(Int)×(Int)×(List (Int))×(List UInt8)×(Int)×(Int)×(List (Field))×(List (Instr))×(List (Run))×List (Run)):Option (((Int)×List (Int))⊕((List (Int))×(List UInt8)×(Int)×(Int)×(List (Field))×(List (Instr))×(List (Run))×List (Run))):=loopF (loopStep (E4 N) fuelW 1042000 8 (bodyAt t76 8) T1042000_8 O1042000_8) k x
theorem L1042000_8_succ (N:Nat) (k:Nat) (v64:List (Instr)) (v65:Int) (v66:Int) (v67:List (Int)) (v68:List UInt8) (v69:Int) (v70:Int) (v71:List (Field)) (v72:List (Instr)) (v73:List (Run)) (v74:List (Run)):L1042000_8 N (k+1) (v64,v65,v66,v67,v68,v69,v70,v71,v72,v73,v74) =
 (bif (decide (v66<v65))
 then (Option.bind (idx v64 v66) fun x75=>
 (Option.bind (F98 N (x75.1,x75.2.1,x75.2.2.1,x75.2.2.2)) fun y76=>
 (bif (y76.2 != (0:Int))
 then some (Sum.inl (y76.2,v67))
 else (chk (room (v67.length+y76.1.length) 1)
 (L1042000_8 N k (v64,v65,(wi64 (v66+(1:Int))),(v67++y76.1),v68,v69,v70,v71,v72,v73,v74))))))
 else some (Sum.inr (v67,v68,v69,v70,v71,v72,v73,v74))):=by kernel_rfl
def E5 (N:Nat):SEnv:=(E4 N).addLoop N 1042000 8 T1042000_8 O1042000_8
theorem ok5 (N:Nat):EnvOK tab (E5 N):=(ok4 N).addLoop N 1042000 8 T1042000_8 O1042000_8
def T1042000_21:Tmpl:=⟨[(0,.c (.ptr 0 4 0 0 0)),(3,.c (.ptr 1 3 1 0 0)),(70,.c (.sl (.sl TRun) .full)),(71,.c (.int .i64)),(72,.c (.int .i64))],[[(4,.c (.ptr 0 4 0 0 0))]],[(0,4,.box 0 [.sl (.int .u8) (.app 2)]),(1,3,.box 1 [.str,.int .i64,.int .i64,.sl TField .d,.sl TInstr .d,.sl TRun .d,.sl TRun .d])],2,[2],3,[(.sl (.sl TRun)),(.int .i64),(.int .i64),(.sl (.int .u8)),.str,(.int .i64),(.int .i64),(.sl TField),(.sl TInstr),(.sl TRun),(.sl TRun)]⟩
def O1042000_21:Outs:=[(.ret,⟨[(4,.c (.int .i64))],[[(4,.c (.ptr 0 4 0 0 0))]],[(0,4,.box 0 [.sl (.int .u8) (.app 1)])],2,[1],2,[(.int .i64),(.sl (.int .u8))]⟩),(.exit 2,⟨[],[[(4,.c (.ptr 0 4 0 0 0))]],[(0,4,.box 0 [.sl (.int .u8) (.app 1)])],2,[1],2,[(.sl (.int .u8))]⟩)]
def L1042000_21 (N:Nat) (k:Nat) (x:(List (List (Run)))×(Int)×(Int)×(List (Int))×(List UInt8)×(Int)×(Int)×(List (Field))×(List (Instr))×(List (Run))×List (Run)):Option (((Int)×List (Int))⊕(List (Int))):=loopF (loopStep (E5 N) fuelW 1042000 21 (bodyAt t76 21) T1042000_21 O1042000_21) k x
theorem L1042000_21_succ (N:Nat) (k:Nat) (v80:List (List (Run))) (v81:Int) (v82:Int) (v83:List (Int)) (v84:List UInt8) (v85:Int) (v86:Int) (v87:List (Field)) (v88:List (Instr)) (v89:List (Run)) (v90:List (Run)):L1042000_21 N (k+1) (v80,v81,v82,v83,v84,v85,v86,v87,v88,v89,v90) =
 (bif (decide (v82<v81))
 then (Option.bind (idx v80 v82) fun x91=>
 (Option.bind (F99 N (x91,(v88.length:Int))) fun y92=>
 (bif (y92.2 != (0:Int))
 then some (Sum.inl (y92.2,v83))
 else (chk (room (v83.length+y92.1.length) 1)
 (L1042000_21 N k (v80,v81,(wi64 (v82+(1:Int))),(v83++y92.1),v84,v85,v86,v87,v88,v89,v90))))))
 else some (Sum.inr v83)):=by kernel_rfl
def E6 (N:Nat):SEnv:=(E5 N).addLoop N 1042000 21 T1042000_21 O1042000_21
theorem ok6 (N:Nat):EnvOK tab (E6 N):=(ok5 N).addLoop N 1042000 21 T1042000_21 O1042000_21
def T0_19:Tmpl:=⟨[(4,.c (.ptr 0 4 0 0 0)),(35,.c (.sl TFunc .bor)),(36,.c (.int .i64)),(37,.c (.int .i64))],[],[(0,4,.box 0 [.sl (.int .u8) (.app 1)])],1,[1],2,[(.sl TFunc),(.int .i64),(.int .i64),(.sl (.int .u8))]⟩
def O0_19:Outs:=[(.ret,⟨[(2,.c (.nil true)),(3,.c (.int .i64))],[],[],1,[],0,[(.int .i64)]⟩),(.exit 2,⟨[(4,.c (.ptr 0 4 0 0 0))],[],[(0,4,.box 0 [.sl (.int .u8) (.app 1)])],1,[1],2,[(.sl (.int .u8))]⟩)]
def L0_19 (N:Nat) (k:Nat) (x:(List (Func))×(Int)×(Int)×List (Int)):Option ((Int)⊕(List (Int))):=loopF (loopStep (E6 N) fuelW 0 19 (bodyAt t49 19) T0_19 O0_19) k x
theorem L0_19_succ (N:Nat) (k:Nat) (v39:List (Func)) (v40:Int) (v41:Int) (v42:List (Int)):L0_19 N (k+1) (v39,v40,v41,v42) =
 (bif (decide (v41<v40))
 then (Option.bind (idx v39 v41) fun x43=>
 (Option.bind (F96 N (wu64 (x43.1.length:Int))) fun y44=>
 (chk (room (v42.length+y44.length) 1)
 ((chk (room ((v42++y44).length+(bytesL x43.1).length) 1)
 ((Option.bind (F96 N (wu64 x43.2.1)) fun y45=>
 (chk (room (((v42++y44)++(bytesL x43.1)).length+y45.length) 1)
 ((Option.bind (F97 N x43.2.2.1) fun y46=>
 (chk (room ((((v42++y44)++(bytesL x43.1))++y45).length+y46.length) 1)
 ((Option.bind (F96 N (wu64 (x43.2.2.2.1.length:Int))) fun y47=>
 (chk (room (((((v42++y44)++(bytesL x43.1))++y45)++y46).length+y47.length) 1)
 ((Option.bind (L1042001035000_3 N N (x43.2.2.2.1,(x43.2.2.2.1.length:Int),(0:Int),(((((v42++y44)++(bytesL x43.1))++y45)++y46)++y47),x43.1,x43.2.1,x43.2.2.1,x43.2.2.2.1,x43.2.2.2.2.1,x43.2.2.2.2.2.1,x43.2.2.2.2.2.2)) fun y62=>
 (Option.bind (F96 N (wu64 (y62.2.2.2.2.2.1.length:Int))) fun y63=>
 (chk (room (y62.1.length+y63.length) 1)
 ((Option.bind (L1042000_8 N N (y62.2.2.2.2.2.1,(y62.2.2.2.2.2.1.length:Int),(0:Int),(y62.1++y63),y62.2.1,y62.2.2.1,y62.2.2.2.1,y62.2.2.2.2.1,y62.2.2.2.2.2.1,y62.2.2.2.2.2.2.1,y62.2.2.2.2.2.2.2)) fun y77=>
 (match y77 with
 |.inl a78=>(bif (a78.1 != (0:Int))
 then some (Sum.inl a78.1)
 else L0_19 N k (v39,v40,(wi64 (v41+(1:Int))),a78.2))
 |.inr b79=>(Option.bind (L1042000_21 N N ([b79.2.2.2.2.2.2.1,b79.2.2.2.2.2.2.2],(2:Int),(0:Int),b79.1,b79.2.1,b79.2.2.1,b79.2.2.2.1,b79.2.2.2.2.1,b79.2.2.2.2.2.1,b79.2.2.2.2.2.2.1,b79.2.2.2.2.2.2.2)) fun y93=>
 (match y93 with
 |.inl a94=>(bif (a94.1 != (0:Int))
 then some (Sum.inl a94.1)
 else L0_19 N k (v39,v40,(wi64 (v41+(1:Int))),a94.2))
 |.inr b95=>L0_19 N k (v39,v40,(wi64 (v41+(1:Int))),b95))))))))))))))))))))))))
 else some (Sum.inr v42)):=by kernel_rfl
def E7 (N:Nat):SEnv:=(E6 N).addLoop N 0 19 T0_19 O0_19
theorem ok7 (N:Nat):EnvOK tab (E7 N):=(ok6 N).addLoop N 0 19 T0_19 O0_19
end f49
def F49 (N:Nat) (x:(List (GType))×(List (List UInt8))×List (Func)):Option ((List (Int))×Int):=fnRun (f49.E7 N) fuelW 49 f49.args f49.ta f49.res f49.tr 0 x
open f49 in
theorem F49_eq (N:Nat) (p0:List (GType)) (p1:List (List UInt8)) (p2:List (Func)):F49 N (p0,p1,p2) =
 (Option.bind (F72 N (p0,p1,p2)) fun y0=>
 (bif (!y0)
 then some ([],(8:Int))
 else (Option.bind (F96 N (wu64 (p0.length:Int))) fun y1=>
 (chk (room y1.length 1)
 ((Option.bind (L1015000_3 N N (p0,(p0.length:Int),(0:Int),y1,p0,p1,p2)) fun y26=>
 (Option.bind (F96 N (wu64 (y26.2.1.length:Int))) fun y27=>
 (chk (room (y26.2.2.2.length+y27.length) 1)
 ((Option.bind (L0_9 N N (y26.2.1,(y26.2.1.length:Int),(0:Int),y26.1,y26.2.1,y26.2.2.1,(y26.2.2.2++y27))) fun y37=>
 (Option.bind (F96 N (wu64 (y37.2.2.1.length:Int))) fun y38=>
 (chk (room (y37.2.2.2.length+y38.length) 1)
 ((Option.bind (L0_19 N N (y37.2.2.1,(y37.2.2.1.length:Int),(0:Int),(y37.2.2.2++y38))) fun y96=>
 (match y96 with
 |.inl a97=>some ([],a97)
 |.inr b98=>(bif (decide ((b98.length:Int)>(20000:Int)))
 then some ([],(4:Int))
 else some (b98,(0:Int)))))))))))))))))):=by kernel_rfl
def c49 (N:Nat):Sym.Callee:=⟨f49.args,f49.ta,f49.res,f49.tr,0,F49 N⟩
theorem ok49 (N:Nat):CalOK tab 49 (c49 N):=fn_ok (f49.ok7 N) fuelW 49 f49.args f49.ta f49.res f49.tr 0
namespace f28
def args:List PSh:=[.agg [.sl TGType .bor,.sl .str .bor,.sl TFunc .bor]]
def ta:List Ty:=[(.sl TGType),(.sl .str),(.sl TFunc)]
def res:List (Bool×List CSh):=[(false,[.int .i64])]
def tr:List Ty:=[(.int .i64)]
def E0 (N:Nat):SEnv:=(SEnv.base tab cuts ccut bcut unr ety).addCal 49 (c49 N)
theorem ok0 (N:Nat):EnvOK tab (E0 N):=(base_ok tab cuts ccut bcut unr ety).addCal (ok49 N)
end f28
def F28 (N:Nat) (x:(List (GType))×(List (List UInt8))×List (Func)):Option (Int):=fnRun (f28.E0 N) fuelW 28 f28.args f28.ta f28.res f28.tr 0 x
open f28 in
theorem F28_eq (N:Nat) (p0:List (GType)) (p1:List (List UInt8)) (p2:List (Func)):F28 N (p0,p1,p2) =
 (Option.bind (F49 N (p0,p1,p2)) fun y0=>
 some y0.2):=by kernel_rfl
def c28 (N:Nat):Sym.Callee:=⟨f28.args,f28.ta,f28.res,f28.tr,0,F28 N⟩
theorem ok28 (N:Nat):CalOK tab 28 (c28 N):=fn_ok (f28.ok0 N) fuelW 28 f28.args f28.ta f28.res f28.tr 0
namespace f50
def bcut:Nat→Nat→Option (Nat×Ty):=fun c i=>match c,i with
 |0,16=>some (40,.bool)
 |_,_=>none
def args:List PSh:=[.c (.sl TGType .bor),.c (.sl TField .bor)]
def ta:List Ty:=[(.sl TGType),(.sl TField)]
def res:List (Bool×List CSh):=[(false,[.sl (.int .i64) .d]),(false,[.int .i64]),(false,[.int .i64]),(false,[.int .i64])]
def tr:List Ty:=[(.sl (.int .i64)),(.int .i64),(.int .i64),(.int .i64)]
def E0 (N:Nat):SEnv:=(((SEnv.base tab cuts ccut bcut unr ety).addCal 70 (c70 N)).addCal 71 (c71 N)).addCal 77 (c77 N)
theorem ok0 (N:Nat):EnvOK tab (E0 N):=(((base_ok tab cuts ccut bcut unr ety).addCal (ok70 N)).addCal (ok71 N)).addCal (ok77 N)
def T0_11:Tmpl:=⟨[(0,.c (.sl TGType .bor)),(1,.c (.sl TField .bor)),(9,.c (.sl Textent .d)),(25,.c (.sl TField .bor)),(26,.c (.int .i64)),(27,.c (.int .i64))],[],[],1,[],0,[(.sl TGType),(.sl TField),(.sl Textent),(.sl TField),(.int .i64),(.int .i64)]⟩
def O0_11:Outs:=[(.ret,⟨[(4,.c (.nil true)),(5,.c (.int .i64)),(6,.c (.int .i64)),(7,.c (.int .i64))],[],[],1,[],0,[(.int .i64),(.int .i64),(.int .i64)]⟩),(.exit 0,⟨[(1,.c (.sl TField .bor)),(9,.c (.sl Textent .d))],[],[],1,[],0,[(.sl TField),(.sl Textent)]⟩)]
def L0_11 (N:Nat) (k:Nat) (x:(List (GType))×(List (Field))×(List (extent))×(List (Field))×(Int)×Int):Option (((Int)×(Int)×Int)⊕((List (Field))×List (extent))):=loopF (loopStep (E0 N) fuelW 0 11 (bodyAt t50 11) T0_11 O0_11) k x
theorem L0_11_succ (N:Nat) (k:Nat) (v2:List (GType)) (v3:List (Field)) (v4:List (extent)) (v5:List (Field)) (v6:Int) (v7:Int):L0_11 N (k+1) (v2,v3,v4,v5,v6,v7) =
 (bif (decide (v7<v6))
 then (Option.bind (idx v5 v7) fun x8=>
 (Option.bind ((bif (decide (x8.2<(0:Int)))
 then some true
 else some (decide (x8.2≥(v2.length:Int))))) fun b9=>
 (bif b9
 then some (Sum.inl ((0:Int),(0:Int),(2:Int)))
 else L0_11 N k (v2,v3,v4,v5,v6,(wi64 (v7+(1:Int)))))))
 else some (Sum.inr (v3,v4))):=by kernel_rfl
def E1 (N:Nat):SEnv:=(E0 N).addLoop N 0 11 T0_11 O0_11
theorem ok1 (N:Nat):EnvOK tab (E1 N):=(ok0 N).addLoop N 0 11 T0_11 O0_11
def T0_22:Tmpl:=⟨[(1,.c (.sl TField .bor)),(9,.c (.sl Textent .d)),(42,.c (.sl TField .bor)),(43,.c (.int .i64)),(44,.c (.int .i64))],[],[],1,[],0,[(.sl TField),(.sl Textent),(.sl TField),(.int .i64),(.int .i64)]⟩
def O0_22:Outs:=[(.ret,⟨[(4,.c (.nil true)),(5,.c (.int .i64)),(6,.c (.int .i64)),(7,.c (.int .i64))],[],[],1,[],0,[(.int .i64),(.int .i64),(.int .i64)]⟩),(.exit 2,⟨[(1,.c (.sl TField .bor)),(9,.c (.sl Textent .d))],[],[],1,[],0,[(.sl TField),(.sl Textent)]⟩)]
def L0_22 (N:Nat) (k:Nat) (x:(List (Field))×(List (extent))×(List (Field))×(Int)×Int):Option (((Int)×(Int)×Int)⊕((List (Field))×List (extent))):=loopF (loopStep (E1 N) fuelW 0 22 (bodyAt t50 22) T0_22 O0_22) k x
theorem L0_22_succ (N:Nat) (k:Nat) (v13:List (Field)) (v14:List (extent)) (v15:List (Field)) (v16:Int) (v17:Int):L0_22 N (k+1) (v13,v14,v15,v16,v17) =
 (bif (decide (v17<v16))
 then (Option.bind (idx v15 v17) fun x18=>
 (Option.bind (idx v14 x18.2) fun x19=>
 (bif (decide (x19.1>(256:Int)))
 then some (Sum.inl ((0:Int),(0:Int),(16:Int)))
 else L0_22 N k (v13,v14,v15,v16,(wi64 (v17+(1:Int)))))))
 else some (Sum.inr (v13,v14))):=by kernel_rfl
def E2 (N:Nat):SEnv:=(E1 N).addLoop N 0 22 T0_22 O0_22
theorem ok2 (N:Nat):EnvOK tab (E2 N):=(ok1 N).addLoop N 0 22 T0_22 O0_22
end f50
def F50 (N:Nat) (x:(List (GType))×List (Field)):Option ((List (Int))×(Int)×(Int)×Int):=fnRun (f50.E2 N) fuelW 50 f50.args f50.ta f50.res f50.tr 0 x
open f50 in
theorem F50_eq (N:Nat) (p0:List (GType)) (p1:List (Field)):F50 N (p0,p1) =
 (Option.bind (F70 N p0) fun y0=>
 (bif (y0 != (0:Int))
 then some ([],(0:Int),(0:Int),y0)
 else (bif (decide ((p1.length:Int)>(16:Int)))
 then some ([],(0:Int),(0:Int),(4:Int))
 else (Option.bind (F71 N p0) fun y1=>
 (Option.bind (L0_11 N N (p0,p1,y1,p1,(p1.length:Int),(0:Int))) fun y10=>
 (match y10 with
 |.inl a11=>some ([],a11.1,a11.2.1,a11.2.2)
 |.inr b12=>(Option.bind (L0_22 N N (b12.1,b12.2,b12.1,(b12.1.length:Int),(0:Int))) fun y20=>
 (match y20 with
 |.inl a21=>some ([],a21.1,a21.2.1,a21.2.2)
 |.inr b22=>(Option.bind (F77 N (b22.2,b22.1)) fun y23=>
 some (y23.1,y23.2.1,y23.2.2,(0:Int))))))))))):=by kernel_rfl
def c50 (N:Nat):Sym.Callee:=⟨f50.args,f50.ta,f50.res,f50.tr,0,F50 N⟩
theorem ok50 (N:Nat):CalOK tab 50 (c50 N):=fn_ok (f50.ok2 N) fuelW 50 f50.args f50.ta f50.res f50.tr 0
namespace f31
def bcut:Nat→Nat→Option (Nat×Ty):=fun c i=>match c,i with
 |0,1=>some (9,.bool)
 |_,_=>none
def args:List PSh:=[.c (.int .i64)]
def ta:List Ty:=[(.int .i64)]
def res:List (Bool×List CSh):=[(false,[.int .i64]),(false,[.int .i64])]
def tr:List Ty:=[(.int .i64),(.int .i64)]
def E0 (N:Nat):SEnv:=SEnv.base tab cuts ccut bcut unr ety
theorem ok0 (N:Nat):EnvOK tab (E0 N):=base_ok tab cuts ccut bcut unr ety
end f31
def F31 (N:Nat) (x:Int):Option ((Int)×Int):=fnRun (f31.E0 N) fuelW 31 f31.args f31.ta f31.res f31.tr 0 x
open f31 in
theorem F31_eq (N:Nat) (p0:Int):F31 N p0 =
 (Option.bind ((bif (decide (p0<(0:Int)))
 then some true
 else some (decide (p0>(1073741824:Int))))) fun b0=>
 (bif b0
 then some ((0:Int),(2:Int))
 else some ((iandnot .i64 (wi64 (p0+(7:Int))) (7:Int)),(0:Int)))):=by kernel_rfl
def c31 (N:Nat):Sym.Callee:=⟨f31.args,f31.ta,f31.res,f31.tr,0,F31 N⟩
theorem ok31 (N:Nat):CalOK tab 31 (c31 N):=fn_ok (f31.ok0 N) fuelW 31 f31.args f31.ta f31.res f31.tr 0
namespace f30
def args:List PSh:=[.agg [.sl TGType .bor,.sl .str .bor,.sl TFunc .bor],.c (.int .i64)]
def ta:List Ty:=[(.sl TGType),(.sl .str),(.sl TFunc),(.int .i64)]
def res:List (Bool×List CSh):=[(false,[.sl (.int .i64) .d]),(false,[.int .i64])]
def tr:List Ty:=[(.sl (.int .i64)),(.int .i64)]
def E0 (N:Nat):SEnv:=((SEnv.base tab cuts ccut bcut unr ety).addCal 50 (c50 N)).addCal 31 (c31 N)
theorem ok0 (N:Nat):EnvOK tab (E0 N):=((base_ok tab cuts ccut bcut unr ety).addCal (ok50 N)).addCal (ok31 N)
end f30
def F30 (N:Nat) (x:(List (GType))×(List (List UInt8))×(List (Func))×Int):Option ((List (Int))×Int):=fnRun (f30.E0 N) fuelW 30 f30.args f30.ta f30.res f30.tr 0 x
open f30 in
theorem F30_eq (N:Nat) (p0:List (GType)) (p1:List (List UInt8)) (p2:List (Func)) (p3:Int):F30 N (p0,p1,p2,p3) =
 (Option.bind (idx p2 p3) fun x0=>
 (Option.bind (F50 N (p0,x0.2.2.2.1)) fun y1=>
 (Option.bind (F31 N y1.2.1) fun y2=>
 some (y1.1,y2.1)))):=by kernel_rfl
def c30 (N:Nat):Sym.Callee:=⟨f30.args,f30.ta,f30.res,f30.tr,0,F30 N⟩
theorem ok30 (N:Nat):CalOK tab 30 (c30 N):=fn_ok (f30.ok0 N) fuelW 30 f30.args f30.ta f30.res f30.tr 0
namespace f44
def bcut:Nat→Nat→Option (Nat×Ty):=fun c i=>match c,i with
 |0,6=>some (40,.bool)
 |_,_=>none
def args:List PSh:=[.agg [.sl TGType .bor,.sl .str .bor,.sl TFunc .bor],.c (.int .u64)]
def ta:List Ty:=[(.sl TGType),(.sl .str),(.sl TFunc),(.int .u64)]
def res:List (Bool×List CSh):=[(false,[.int .i64]),(false,[.int .i64]),(false,[.int .i64])]
def tr:List Ty:=[(.int .i64),(.int .i64),(.int .i64)]
def E0 (N:Nat):SEnv:=(SEnv.base tab cuts ccut bcut unr ety).addCal 28 (c28 N)
theorem ok0 (N:Nat):EnvOK tab (E0 N):=(base_ok tab cuts ccut bcut unr ety).addCal (ok28 N)
end f44
def F44 (N:Nat) (x:(List (GType))×(List (List UInt8))×(List (Func))×Int):Option ((Int)×(Int)×Int):=fnRun (f44.E0 N) fuelW 44 f44.args f44.ta f44.res f44.tr 0 x
open f44 in
theorem F44_eq (N:Nat) (p0:List (GType)) (p1:List (List UInt8)) (p2:List (Func)) (p3:Int):F44 N (p0,p1,p2,p3) =
 (Option.bind (F28 N (p0,p1,p2)) fun y0=>
 (bif (y0 != (0:Int))
 then some ((0:Int),(0:Int),y0)
 else (Option.bind ((bif ((Int.fdiv p3 256)==(0:Int))
 then some true
 else (bif (decide ((Int.fdiv p3 256)>(wu64 (p2.length:Int))))
 then some true
 else (Option.bind (idx p2 (wu64 ((Int.fdiv p3 256)-(1:Int)))) fun x1=>
 some (decide ((wi64 (iand .u64 p3 (255:Int)))≥(x1.2.2.2.2.1.length:Int))))))) fun b2=>
 (bif b2
 then some ((0:Int),(0:Int),(6:Int))
 else some ((wi64 ((wi64 (Int.fdiv p3 256))-(1:Int))),(wi64 (iand .u64 p3 (255:Int))),(0:Int)))))):=by kernel_rfl
def c44 (N:Nat):Sym.Callee:=⟨f44.args,f44.ta,f44.res,f44.tr,0,F44 N⟩
theorem ok44 (N:Nat):CalOK tab 44 (c44 N):=fn_ok (f44.ok0 N) fuelW 44 f44.args f44.ta f44.res f44.tr 0
namespace f45
def bcut:Nat→Nat→Option (Nat×Ty):=fun c i=>match c,i with
 |0,5=>some (22,.bool)
 |_,_=>none
def args:List PSh:=[.c (.sl TRun .bor),.c (.int .i64),.c (.int .i64)]
def ta:List Ty:=[(.sl TRun),(.int .i64),(.int .i64)]
def res:List (Bool×List CSh):=[(false,[.int .u64]),(false,[.int .i64])]
def tr:List Ty:=[(.int .u64),(.int .i64)]
def E0 (N:Nat):SEnv:=(SEnv.base tab cuts ccut bcut unr ety).addCal 67 (c67 N)
theorem ok0 (N:Nat):EnvOK tab (E0 N):=(base_ok tab cuts ccut bcut unr ety).addCal (ok67 N)
def T1026000_3:Tmpl:=⟨[(1,.clo 69 [.ptr 0 3 0 0 0,.ptr 0 5 1 0 0]),(5,.c (.int .i64)),(6,.c (.int .i64))],[[(3,.c (.ptr 0 3 0 0 0))]],[(0,3,.box 0 [.sl TRun .bor]),(0,5,.box 1 [.int .i64])],2,[],2,[(.int .i64),(.int .i64),(.sl TRun),(.int .i64)]⟩
def O1026000_3:Outs:=[(.exit 0,⟨[(5,.c (.int .i64))],[[(3,.c (.ptr 0 3 0 0 0))]],[(0,3,.box 0 [.sl TRun .bor])],2,[],1,[(.int .i64),(.sl TRun)]⟩)]
def L1026000_3 (N:Nat) (k:Nat) (x:(Int)×(Int)×(List (Run))×Int):Option (((Int)×List (Run))):=loopF (loopStep (E0 N) fuelW 1026000 3 (bodyAt t68 3) T1026000_3 O1026000_3) k x
theorem L1026000_3_succ (N:Nat) (k:Nat) (v2:Int) (v3:Int) (v4:List (Run)) (v5:Int):L1026000_3 N (k+1) (v2,v3,v4,v5) =
 (bif (decide (v2<v3))
 then (Option.bind (idx v4 (wi64 (Int.fdiv (wu64 (wi64 (v2+v3))) 2))) fun x6=>
 (bif (!(decide (x6.1>v5)))
 then L1026000_3 N k ((wi64 ((wi64 (Int.fdiv (wu64 (wi64 (v2+v3))) 2))+(1:Int))),v3,v4,v5)
 else L1026000_3 N k (v2,(wi64 (Int.fdiv (wu64 (wi64 (v2+v3))) 2)),v4,v5)))
 else some (v2,v4)):=by kernel_rfl
def E1 (N:Nat):SEnv:=(E0 N).addLoop N 1026000 3 T1026000_3 O1026000_3
theorem ok1 (N:Nat):EnvOK tab (E1 N):=(ok0 N).addLoop N 1026000 3 T1026000_3 O1026000_3
end f45
def F45 (N:Nat) (x:(List (Run))×(Int)×Int):Option ((Int)×Int):=fnRun (f45.E1 N) fuelW 45 f45.args f45.ta f45.res f45.tr 0 x
open f45 in
theorem F45_eq (N:Nat) (p0:List (Run)) (p1:Int) (p2:Int):F45 N (p0,p1,p2) =
 (Option.bind (F67 N (p0,p1)) fun y0=>
 (bif (y0 != (0:Int))
 then some ((0:Int),y0)
 else (Option.bind ((bif (decide (p2<(0:Int)))
 then some true
 else some (decide (p2≥p1)))) fun b1=>
 (bif b1
 then some ((0:Int),(2:Int))
 else (Option.bind (L1026000_3 N N ((0:Int),(p0.length:Int),p0,p2)) fun y7=>
 (Option.bind (idx y7.2 (wi64 (y7.1-(1:Int)))) fun x8=>
 some (x8.2,(0:Int)))))))):=by kernel_rfl
def c45 (N:Nat):Sym.Callee:=⟨f45.args,f45.ta,f45.res,f45.tr,0,F45 N⟩
theorem ok45 (N:Nat):CalOK tab 45 (c45 N):=fn_ok (f45.ok1 N) fuelW 45 f45.args f45.ta f45.res f45.tr 0
namespace f17
def bcut:Nat→Nat→Option (Nat×Ty):=fun c i=>match c,i with
 |0,7=>some (56,.bool)
 |_,_=>none
def args:List PSh:=[.agg [.sl TGType .bor,.sl .str .bor,.sl TFunc .bor],.c (.int .u64)]
def ta:List Ty:=[(.sl TGType),(.sl .str),(.sl TFunc),(.int .u64)]
def res:List (Bool×List CSh):=[(false,[.int .i64]),(false,[.int .i64])]
def tr:List Ty:=[(.int .i64),(.int .i64)]
def E0 (N:Nat):SEnv:=(((SEnv.base tab cuts ccut bcut unr ety).addCal 44 (c44 N)).addCal 30 (c30 N)).addCal 45 (c45 N)
theorem ok0 (N:Nat):EnvOK tab (E0 N):=(((base_ok tab cuts ccut bcut unr ety).addCal (ok44 N)).addCal (ok30 N)).addCal (ok45 N)
end f17
def F17 (N:Nat) (x:(List (GType))×(List (List UInt8))×(List (Func))×Int):Option ((Int)×Int):=fnRun (f17.E0 N) fuelW 17 f17.args f17.ta f17.res f17.tr 0 x
open f17 in
theorem F17_eq (N:Nat) (p0:List (GType)) (p1:List (List UInt8)) (p2:List (Func)) (p3:Int):F17 N (p0,p1,p2,p3) =
 (Option.bind (F44 N (p0,p1,p2,p3)) fun y0=>
 (bif (y0.2.2 != (0:Int))
 then some ((0:Int),y0.2.2)
 else (Option.bind (F30 N (p0,p1,p2,y0.1)) fun y1=>
 (Option.bind (idx p2 y0.1) fun x2=>
 (Option.bind (idx p2 y0.1) fun x3=>
 (Option.bind (F45 N (x2.2.2.2.2.2.1,(x3.2.2.2.2.1.length:Int),y0.2.1)) fun y4=>
 (Option.bind ((bif (decide (y4.1>(4096:Int)))
 then some true
 else some (decide ((wi64 ((wi64 ((24:Int)+y1.2))+(wi64 y4.1)))>(4096:Int))))) fun b5=>
 (bif b5
 then some ((0:Int),(16:Int))
 else some ((wi64 ((wi64 ((24:Int)+y1.2))+(wi64 y4.1))),(0:Int)))))))))):=by kernel_rfl
def c17 (N:Nat):Sym.Callee:=⟨f17.args,f17.ta,f17.res,f17.tr,0,F17 N⟩
theorem ok17 (N:Nat):CalOK tab 17 (c17 N):=fn_ok (f17.ok0 N) fuelW 17 f17.args f17.ta f17.res f17.tr 0
namespace f27
def bcut:Nat→Nat→Option (Nat×Ty):=fun c i=>match c,i with
 |0,2=>some (31,.bool)
 |_,_=>none
def args:List PSh:=[.agg [.int .u64,.sl (.int .u8) .bor]]
def ta:List Ty:=[(.int .u64),(.sl (.int .u8))]
def res:List (Bool×List CSh):=[(false,[.int .i64])]
def tr:List Ty:=[(.int .i64)]
def E0 (N:Nat):SEnv:=SEnv.base tab cuts ccut bcut unr ety
theorem ok0 (N:Nat):EnvOK tab (E0 N):=base_ok tab cuts ccut bcut unr ety
end f27
def F27 (N:Nat) (x:(Int)×List (Int)):Option (Int):=fnRun (f27.E0 N) fuelW 27 f27.args f27.ta f27.res f27.tr 0 x
open f27 in
theorem F27_eq (N:Nat) (p0:Int) (p1:List (Int)):F27 N (p0,p1) =
 (Option.bind ((bif ((Int.tmod p0 (16777216:Int)) != (0:Int))
 then some true
 else (bif (decide ((wu64 (Int.tdiv p0 (16777216:Int)))<(1:Int)))
 then some true
 else (bif (decide ((wu64 (Int.tdiv p0 (16777216:Int)))>(16:Int)))
 then some true
 else (bif ((Int.tmod (p1.length:Int) (8:Int)) != (0:Int))
 then some true
 else some (decide ((p1.length:Int)>(4096:Int)))))))) fun b0=>
 (bif b0
 then some (8:Int)
 else some (0:Int))):=by kernel_rfl
def c27 (N:Nat):Sym.Callee:=⟨f27.args,f27.ta,f27.res,f27.tr,0,F27 N⟩
theorem ok27 (N:Nat):CalOK tab 27 (c27 N):=fn_ok (f27.ok0 N) fuelW 27 f27.args f27.ta f27.res f27.tr 0
namespace f29
def bcut:Nat→Nat→Option (Nat×Ty):=fun c i=>match c,i with
 |0,1=>some (4,.bool)
 |_,_=>none
def args:List PSh:=[.c (.int .u64),.c (.int .u64)]
def ta:List Ty:=[(.int .u64),(.int .u64)]
def res:List (Bool×List CSh):=[(false,[.bool])]
def tr:List Ty:=[.bool]
def E0 (N:Nat):SEnv:=SEnv.base tab cuts ccut bcut unr ety
theorem ok0 (N:Nat):EnvOK tab (E0 N):=base_ok tab cuts ccut bcut unr ety
end f29
def F29 (N:Nat) (x:(Int)×Int):Option (Bool):=fnRun (f29.E0 N) fuelW 29 f29.args f29.ta f29.res f29.tr 0 x
open f29 in
theorem F29_eq (N:Nat) (p0:Int) (p1:Int):F29 N (p0,p1) =
 (Option.bind ((bif (decide (p0≤(3:Int)))
 then some ((p1 != (0:Int))==(decide (p0≥(2:Int))))
 else some false)) fun b0=>
 some b0):=by kernel_rfl
def c29 (N:Nat):Sym.Callee:=⟨f29.args,f29.ta,f29.res,f29.tr,0,F29 N⟩
theorem ok29 (N:Nat):CalOK tab 29 (c29 N):=fn_ok (f29.ok0 N) fuelW 29 f29.args f29.ta f29.res f29.tr 0
namespace f32
def ety:Nat→Nat→Option Ty:=fun c d=>match c,d with
 |0,2=>some (.int .u8)
 |1024000,4=>some (.int .u8)
 |1024000,22=>some (.int .u8)
 |_,_=>none
def args:List PSh:=[.c (.sl (.sl (.int .u8)) .bor)]
def ta:List Ty:=[(.sl (.sl (.int .u8)))]
def res:List (Bool×List CSh):=[(false,[.sl (.int .u8) .d])]
def tr:List Ty:=[(.sl (.int .u8))]
def E0 (N:Nat):SEnv:=SEnv.base tab cuts ccut bcut unr ety
theorem ok0 (N:Nat):EnvOK tab (E0 N):=base_ok tab cuts ccut bcut unr ety
def T0_4:Tmpl:=⟨[(0,.c (.sl (.sl (.int .u8)) .bor)),(3,.c (.int .i64)),(9,.c (.sl (.sl (.int .u8)) .bor)),(10,.c (.int .i64)),(11,.c (.int .i64))],[],[],1,[],0,[(.sl (.sl (.int .u8))),(.int .i64),(.sl (.sl (.int .u8))),(.int .i64),(.int .i64)]⟩
def O0_4:Outs:=[(.exit 0,⟨[(0,.c (.sl (.sl (.int .u8)) .bor)),(3,.c (.int .i64))],[],[],1,[],0,[(.sl (.sl (.int .u8))),(.int .i64)]⟩)]
def L0_4 (N:Nat) (k:Nat) (x:(List (List (Int)))×(Int)×(List (List (Int)))×(Int)×Int):Option (((List (List (Int)))×Int)):=loopF (loopStep (E0 N) fuelW 0 4 (bodyAt t32 4) T0_4 O0_4) k x
theorem L0_4_succ (N:Nat) (k:Nat) (v0:List (List (Int))) (v1:Int) (v2:List (List (Int))) (v3:Int) (v4:Int):L0_4 N (k+1) (v0,v1,v2,v3,v4) =
 (bif (decide (v4<v3))
 then (Option.bind (idx v2 v4) fun x5=>
 (bif (decide ((wi64 (v1+(x5.length:Int)))<(0:Int)))
 then none
 else L0_4 N k (v0,(wi64 (v1+(x5.length:Int))),v2,v3,(wi64 (v4+(1:Int))))))
 else some (v0,v1)):=by kernel_rfl
def E1 (N:Nat):SEnv:=(E0 N).addLoop N 0 4 T0_4 O0_4
theorem ok1 (N:Nat):EnvOK tab (E1 N):=(ok0 N).addLoop N 0 4 T0_4 O0_4
def T0_17:Tmpl:=⟨[(6,.c (.ref 0 24 0 (.int .u8))),(25,.c (.sl (.sl (.int .u8)) .bor)),(26,.c (.int .i64)),(27,.c (.int .i64))],[],[(0,24,.row 0 (.int .u8))],1,[],1,[(.sl (.sl (.int .u8))),(.int .i64),(.int .i64),(.sl (.int .u8))]⟩
def O0_17:Outs:=[(.exit 2,⟨[(6,.c (.ref 0 24 0 (.int .u8)))],[],[(0,24,.row 0 (.int .u8))],1,[],1,[(.sl (.int .u8))]⟩)]
def L0_17 (N:Nat) (k:Nat) (x:(List (List (Int)))×(Int)×(Int)×List (Int)):Option ((List (Int))):=loopF (loopStep (E1 N) fuelW 0 17 (bodyAt t32 17) T0_17 O0_17) k x
theorem L0_17_succ (N:Nat) (k:Nat) (v7:List (List (Int))) (v8:Int) (v9:Int) (v10:List (Int)):L0_17 N (k+1) (v7,v8,v9,v10) =
 (bif (decide (v9<v8))
 then (Option.bind (idx v7 v9) fun x11=>
 (chk (room (v10.length+x11.length) 1)
 (L0_17 N k (v7,v8,(wi64 (v9+(1:Int))),(v10++x11)))))
 else some v10):=by kernel_rfl
def E2 (N:Nat):SEnv:=(E1 N).addLoop N 0 17 T0_17 O0_17
theorem ok2 (N:Nat):EnvOK tab (E2 N):=(ok1 N).addLoop N 0 17 T0_17 O0_17
end f32
def F32 (N:Nat) (x:List (List (Int))):Option (List (Int)):=fnRun (f32.E2 N) fuelW 32 f32.args f32.ta f32.res f32.tr 1 x
open f32 in
theorem F32_eq (N:Nat) (p0:List (List (Int))):F32 N p0 =
 (Option.bind (L0_4 N N (p0,(0:Int),p0,(p0.length:Int),(0:Int))) fun y6=>
 (bif (decide (y6.2<(0:Int)))
 then none
 else (bif (decide ((wi64 (y6.2-(0:Int)))>(0:Int)))
 then (chk (decide (0≤0))
 ((chk (decide (0≤(wi64 (y6.2-(0:Int)))))
 ((chk (room (Int.toNat (wi64 (y6.2-(0:Int)))) 1)
 ((chk (room (List.replicate (Int.toNat (wi64 (y6.2-(0:Int)))) ((0:Int):Int)).length 1)
 ((chk (decide (0≤(List.replicate (Int.toNat (wi64 (y6.2-(0:Int)))) ((0:Int):Int)).length))
 ((Option.bind (L0_17 N N (y6.1,(y6.1.length:Int),(0:Int),(((List.replicate (Int.toNat (wi64 (y6.2-(0:Int)))) ((0:Int):Int)).drop 0).take (0-0)))) fun y12=>
 some y12)))))))))))
 else (Option.bind (L0_17 N N (y6.1,(y6.1.length:Int),(0:Int),([]:List (Int)))) fun y13=>
 some y13)))):=by kernel_rfl
def c32 (N:Nat):Sym.Callee:=⟨f32.args,f32.ta,f32.res,f32.tr,1,F32 N⟩
theorem ok32 (N:Nat):CalOK tab 32 (c32 N):=fn_ok (f32.ok2 N) fuelW 32 f32.args f32.ta f32.res f32.tr 1
namespace f8
def bcut:Nat→Nat→Option (Nat×Ty):=fun c i=>match c,i with
 |0,9=>some (69,.bool)
 |_,_=>none
def ety:Nat→Nat→Option Ty:=fun c d=>match c,d with
 |0,79=>some (.int .u8)
 |0,182=>some (.sl (.int .u8))
 |_,_=>none
def args:List PSh:=[.agg [.int .u64,.sl (.int .u8) .d],.agg [.sl TGType .d,.sl .str .d,.sl TFunc .d],.c (.int .i64),.c (.int .u64),.c (.int .u64),.c (.int .u64),.c (.sl (.int .u8) .bor),.c (.int .i64)]
def ta:List Ty:=[(.int .u64),(.sl (.int .u8)),(.sl TGType),(.sl .str),(.sl TFunc),(.int .i64),(.int .u64),(.int .u64),(.int .u64),(.sl (.int .u8)),(.int .i64)]
def res:List (Bool×List CSh):=[(true,[.int .u64,.sl (.int .u8) .d]),(false,[.int .u64]),(false,[.int .i64])]
def tr:List Ty:=[(.int .u64),(.sl (.int .u8)),(.int .u64),(.int .i64)]
def E0 (N:Nat):SEnv:=(((((((SEnv.base tab cuts ccut bcut unr ety).addCal 27 (c27 N)).addCal 28 (c28 N)).addCal 29 (c29 N)).addCal 30 (c30 N)).addCal 24 (c24 N)).addCal 31 (c31 N)).addCal 32 (c32 N)
theorem ok0 (N:Nat):EnvOK tab (E0 N):=(((((((base_ok tab cuts ccut bcut unr ety).addCal (ok27 N)).addCal (ok28 N)).addCal (ok29 N)).addCal (ok30 N)).addCal (ok24 N)).addCal (ok31 N)).addCal (ok32 N)
def T0_23:Tmpl:=⟨[(2,.c (.int .i64)),(6,.c (.sl (.int .u8) .bor)),(7,.c (.int .i64)),(8,.c (.ptr 0 8 0 0 0)),(9,.c (.ptr 0 9 1 0 0)),(16,.c (.ptr 0 16 2 0 0)),(21,.c (.sl (.int .i64) .d)),(23,.c (.ref 0 79 3 (.int .u8))),(24,.c (.int .i64)),(25,.c (.int .u64)),(83,.agg [.int .u64,.int .u64,.int .u64]),(84,.c (.int .i64)),(88,.c (.int .i64))],[],[(0,8,.box 0 [.int .u64,.sl (.int .u8) .d]),(0,9,.box 1 [.sl TGType .d,.sl .str .d,.sl TFunc .d]),(0,16,.box 2 [.int .u64,.nil true]),(0,79,.row 3 (.int .u8))],1,[],4,[(.int .i64),(.sl (.int .u8)),(.int .i64),(.sl (.int .i64)),(.int .i64),(.int .u64),(.int .u64),(.int .u64),(.int .u64),(.int .i64),(.int .i64),(.int .u64),(.sl (.int .u8)),(.sl TGType),(.sl .str),(.sl TFunc),(.int .u64),(.sl (.int .u8))]⟩
def O0_23:Outs:=[(.exit 2,⟨[(2,.c (.int .i64)),(6,.c (.sl (.int .u8) .bor)),(7,.c (.int .i64)),(8,.c (.ptr 0 8 0 0 0)),(9,.c (.ptr 0 9 1 0 0)),(16,.c (.ptr 0 16 2 0 0)),(21,.c (.sl (.int .i64) .d)),(23,.c (.ref 0 79 3 (.int .u8))),(83,.agg [.int .u64,.int .u64,.int .u64]),(84,.c (.int .i64))],[],[(0,8,.box 0 [.int .u64,.sl (.int .u8) .d]),(0,9,.box 1 [.sl TGType .d,.sl .str .d,.sl TFunc .d]),(0,16,.box 2 [.int .u64,.nil true]),(0,79,.row 3 (.int .u8))],1,[],4,[(.int .i64),(.sl (.int .u8)),(.int .i64),(.sl (.int .i64)),(.int .u64),(.int .u64),(.int .u64),(.int .i64),(.int .u64),(.sl (.int .u8)),(.sl TGType),(.sl .str),(.sl TFunc),(.int .u64),(.sl (.int .u8))]⟩)]
def L0_23 (N:Nat) (k:Nat) (x:(Int)×(List (Int))×(Int)×(List (Int))×(Int)×(Int)×(Int)×(Int)×(Int)×(Int)×(Int)×(Int)×(List (Int))×(List (GType))×(List (List UInt8))×(List (Func))×(Int)×List (Int)):Option (((Int)×(List (Int))×(Int)×(List (Int))×(Int)×(Int)×(Int)×(Int)×(Int)×(List (Int))×(List (GType))×(List (List UInt8))×(List (Func))×(Int)×List (Int))):=loopF (loopStep (E0 N) fuelW 0 23 (bodyAt t8 23) T0_23 O0_23) k x
theorem L0_23_succ (N:Nat) (k:Nat) (v20:Int) (v21:List (Int)) (v22:Int) (v23:List (Int)) (v24:Int) (v25:Int) (v26:Int) (v27:Int) (v28:Int) (v29:Int) (v30:Int) (v31:Int) (v32:List (Int)) (v33:List (GType)) (v34:List (List UInt8)) (v35:List (Func)) (v36:Int) (v37:List (Int)):L0_23 N (k+1) (v20,v21,v22,v23,v24,v25,v26,v27,v28,v29,v30,v31,v32,v33,v34,v35,v36,v37) =
 (bif (decide (v30<(8:Int)))
 then (chk (!decide ((wi64 ((8:Int)*v30))<0))
 ((chk (inR (wi64 ((wi64 ((8:Int)*v24))+v30)) v37.length)
 ((Option.bind (v37[(Int.toNat (wi64 ((wi64 ((8:Int)*v24))+v30)))]?) fun x38=>
 L0_23 N k (v20,v21,v22,v23,v24,v25,v26,v27,v28,v29,(wi64 (v30+(1:Int))),v31,v32,v33,v34,v35,v36,(v37.set (Int.toNat (wi64 ((wi64 ((8:Int)*v24))+v30))) (wu8 (Int.fdiv v25 (2 ^ min (Int.toNat (wi64 ((8:Int)*v30))) 64))))))))))
 else some (v20,v21,v22,v23,v26,v27,v28,v29,v31,v32,v33,v34,v35,v36,v37)):=by kernel_rfl
def E1 (N:Nat):SEnv:=(E0 N).addLoop N 0 23 T0_23 O0_23
theorem ok1 (N:Nat):EnvOK tab (E1 N):=(ok0 N).addLoop N 0 23 T0_23 O0_23
def T0_16:Tmpl:=⟨[(2,.c (.int .i64)),(6,.c (.sl (.int .u8) .bor)),(7,.c (.int .i64)),(8,.c (.ptr 0 8 0 0 0)),(9,.c (.ptr 0 9 1 0 0)),(16,.c (.ptr 0 16 2 0 0)),(21,.c (.sl (.int .i64) .d)),(23,.c (.ref 0 79 3 (.int .u8))),(83,.agg [.int .u64,.int .u64,.int .u64]),(84,.c (.int .i64))],[],[(0,8,.box 0 [.int .u64,.sl (.int .u8) .d]),(0,9,.box 1 [.sl TGType .d,.sl .str .d,.sl TFunc .d]),(0,16,.box 2 [.int .u64,.nil true]),(0,79,.row 3 (.int .u8))],1,[],4,[(.int .i64),(.sl (.int .u8)),(.int .i64),(.sl (.int .i64)),(.int .u64),(.int .u64),(.int .u64),(.int .i64),(.int .u64),(.sl (.int .u8)),(.sl TGType),(.sl .str),(.sl TFunc),(.int .u64),(.sl (.int .u8))]⟩
def O0_16:Outs:=[(.exit 0,⟨[(2,.c (.int .i64)),(6,.c (.sl (.int .u8) .bor)),(7,.c (.int .i64)),(8,.c (.ptr 0 8 0 0 0)),(9,.c (.ptr 0 9 1 0 0)),(16,.c (.ptr 0 16 2 0 0)),(21,.c (.sl (.int .i64) .d)),(23,.c (.ref 0 79 3 (.int .u8)))],[],[(0,8,.box 0 [.int .u64,.sl (.int .u8) .d]),(0,9,.box 1 [.sl TGType .d,.sl .str .d,.sl TFunc .d]),(0,16,.box 2 [.int .u64,.nil true]),(0,79,.row 3 (.int .u8))],1,[],4,[(.int .i64),(.sl (.int .u8)),(.int .i64),(.sl (.int .i64)),(.int .u64),(.sl (.int .u8)),(.sl TGType),(.sl .str),(.sl TFunc),(.int .u64),(.sl (.int .u8))]⟩)]
def L0_16 (N:Nat) (k:Nat) (x:(Int)×(List (Int))×(Int)×(List (Int))×(Int)×(Int)×(Int)×(Int)×(Int)×(List (Int))×(List (GType))×(List (List UInt8))×(List (Func))×(Int)×List (Int)):Option (((Int)×(List (Int))×(Int)×(List (Int))×(Int)×(List (Int))×(List (GType))×(List (List UInt8))×(List (Func))×(Int)×List (Int))):=loopF (loopStep (E1 N) fuelW 0 16 (bodyAt t8 16) T0_16 O0_16) k x
theorem L0_16_succ (N:Nat) (k:Nat) (v5:Int) (v6:List (Int)) (v7:Int) (v8:List (Int)) (v9:Int) (v10:Int) (v11:Int) (v12:Int) (v13:Int) (v14:List (Int)) (v15:List (GType)) (v16:List (List UInt8)) (v17:List (Func)) (v18:Int) (v19:List (Int)):L0_16 N (k+1) (v5,v6,v7,v8,v9,v10,v11,v12,v13,v14,v15,v16,v17,v18,v19) =
 (bif (decide (v12<(3:Int)))
 then (chk (decide (0≤v12))
 ((bif (Nat.beq (Int.toNat v12) 2)
 then (Option.bind (L0_23 N N (v5,v6,v7,v8,v12,v11,v9,v10,v11,v12,(0:Int),v13,v14,v15,v16,v17,v18,v19)) fun y41=>
 L0_16 N k (y41.1,y41.2.1,y41.2.2.1,y41.2.2.2.1,y41.2.2.2.2.1,y41.2.2.2.2.2.1,y41.2.2.2.2.2.2.1,(wi64 (y41.2.2.2.2.2.2.2.1+(1:Int))),y41.2.2.2.2.2.2.2.2.1,y41.2.2.2.2.2.2.2.2.2.1,y41.2.2.2.2.2.2.2.2.2.2.1,y41.2.2.2.2.2.2.2.2.2.2.2.1,y41.2.2.2.2.2.2.2.2.2.2.2.2.1,y41.2.2.2.2.2.2.2.2.2.2.2.2.2.1,y41.2.2.2.2.2.2.2.2.2.2.2.2.2.2))
 else (bif (Nat.beq (Int.toNat v12) 1)
 then (Option.bind (L0_23 N N (v5,v6,v7,v8,v12,v10,v9,v10,v11,v12,(0:Int),v13,v14,v15,v16,v17,v18,v19)) fun y40=>
 L0_16 N k (y40.1,y40.2.1,y40.2.2.1,y40.2.2.2.1,y40.2.2.2.2.1,y40.2.2.2.2.2.1,y40.2.2.2.2.2.2.1,(wi64 (y40.2.2.2.2.2.2.2.1+(1:Int))),y40.2.2.2.2.2.2.2.2.1,y40.2.2.2.2.2.2.2.2.2.1,y40.2.2.2.2.2.2.2.2.2.2.1,y40.2.2.2.2.2.2.2.2.2.2.2.1,y40.2.2.2.2.2.2.2.2.2.2.2.2.1,y40.2.2.2.2.2.2.2.2.2.2.2.2.2.1,y40.2.2.2.2.2.2.2.2.2.2.2.2.2.2))
 else (bif (Nat.beq (Int.toNat v12) 0)
 then (Option.bind (L0_23 N N (v5,v6,v7,v8,v12,v9,v9,v10,v11,v12,(0:Int),v13,v14,v15,v16,v17,v18,v19)) fun y39=>
 L0_16 N k (y39.1,y39.2.1,y39.2.2.1,y39.2.2.2.1,y39.2.2.2.2.1,y39.2.2.2.2.2.1,y39.2.2.2.2.2.2.1,(wi64 (y39.2.2.2.2.2.2.2.1+(1:Int))),y39.2.2.2.2.2.2.2.2.1,y39.2.2.2.2.2.2.2.2.2.1,y39.2.2.2.2.2.2.2.2.2.2.1,y39.2.2.2.2.2.2.2.2.2.2.2.1,y39.2.2.2.2.2.2.2.2.2.2.2.2.1,y39.2.2.2.2.2.2.2.2.2.2.2.2.2.1,y39.2.2.2.2.2.2.2.2.2.2.2.2.2.2))
 else none)))))
 else some (v5,v6,v7,v8,v13,v14,v15,v16,v17,v18,v19)):=by kernel_rfl
def E2 (N:Nat):SEnv:=(E1 N).addLoop N 0 16 T0_16 O0_16
theorem ok2 (N:Nat):EnvOK tab (E2 N):=(ok1 N).addLoop N 0 16 T0_16 O0_16
def T0_33:Tmpl:=⟨[(6,.c (.sl (.int .u8) .bor)),(7,.c (.int .i64)),(8,.c (.ptr 0 8 0 0 0)),(9,.c (.ptr 0 9 1 0 0)),(16,.c (.ptr 0 16 2 0 0)),(21,.c (.sl (.int .i64) .d)),(23,.c (.ref 0 79 3 (.int .u8))),(116,.c (.sl TField .d)),(117,.c (.int .i64)),(118,.c (.int .i64))],[],[(0,8,.box 0 [.int .u64,.sl (.int .u8) .d]),(0,9,.box 1 [.sl TGType .d,.sl .str .d,.sl TFunc .d]),(0,16,.box 2 [.int .u64,.nil true]),(0,79,.row 3 (.int .u8))],1,[],4,[(.sl (.int .u8)),(.int .i64),(.sl (.int .i64)),(.sl TField),(.int .i64),(.int .i64),(.int .u64),(.sl (.int .u8)),(.sl TGType),(.sl .str),(.sl TFunc),(.int .u64),(.sl (.int .u8))]⟩
def O0_33:Outs:=[(.ret,⟨[(16,.c (.ptr 0 16 0 0 0)),(17,.c (.int .u64)),(18,.c (.int .i64))],[],[(0,16,.box 0 [.int .u64,.nil true])],1,[],1,[(.int .u64),(.int .i64),(.int .u64)]⟩),(.exit 4,⟨[(6,.c (.sl (.int .u8) .bor)),(7,.c (.int .i64)),(8,.c (.ptr 0 8 0 0 0)),(16,.c (.ptr 0 16 1 0 0)),(23,.c (.ref 0 79 2 (.int .u8)))],[],[(0,8,.box 0 [.int .u64,.sl (.int .u8) .d]),(0,16,.box 1 [.int .u64,.nil true]),(0,79,.row 2 (.int .u8))],1,[],3,[(.sl (.int .u8)),(.int .i64),(.int .u64),(.sl (.int .u8)),(.int .u64),(.sl (.int .u8))]⟩)]
def L0_33 (N:Nat) (k:Nat) (x:(List (Int))×(Int)×(List (Int))×(List (Field))×(Int)×(Int)×(Int)×(List (Int))×(List (GType))×(List (List UInt8))×(List (Func))×(Int)×List (Int)):Option (((Int)×(Int)×Int)⊕((List (Int))×(Int)×(Int)×(List (Int))×(Int)×List (Int))):=loopF (loopStep (E2 N) fuelW 0 33 (bodyAt t8 33) T0_33 O0_33) k x
theorem L0_33_succ (N:Nat) (k:Nat) (v45:List (Int)) (v46:Int) (v47:List (Int)) (v48:List (Field)) (v49:Int) (v50:Int) (v51:Int) (v52:List (Int)) (v53:List (GType)) (v54:List (List UInt8)) (v55:List (Func)) (v56:Int) (v57:List (Int)):L0_33 N (k+1) (v45,v46,v47,v48,v49,v50,v51,v52,v53,v54,v55,v56,v57) =
 (bif (decide (v50<v49))
 then (Option.bind (idx v48 v50) fun x58=>
 (Option.bind (F24 N (v53,x58.2)) fun y59=>
 (Option.bind (F31 N y59.1) fun y60=>
 (bif (decide ((v45.length:Int)<y60.1))
 then some (Sum.inl ((0:Int),(2:Int),(0:Int)))
 else (Option.bind (idx v47 v50) fun x61=>
 (chk (decide (0≤(wi64 ((24:Int)+x61))))
 ((chk (decide ((Int.toNat (wi64 ((24:Int)+x61)))≤v57.length))
 ((chk (decide (0≤y59.1))
 ((chk (decide ((Int.toNat y59.1)≤v45.length))
 ((chk (decide ((Int.toNat (wi64 ((24:Int)+x61)))+(v57.length-(Int.toNat (wi64 ((24:Int)+x61))))≤v57.length))
 ((chk (decide (0≤y60.1))
 ((chk (decide ((Int.toNat y60.1)≤v45.length))
 (L0_33 N k ((v45.drop (Int.toNat y60.1)),v46,v47,v48,v49,(wi64 (v50+(1:Int))),v51,v52,v53,v54,v55,v56,(v57.take (Int.toNat (wi64 ((24:Int)+x61)))++((v45.take (Int.toNat y59.1)).take (min (v45.take (Int.toNat y59.1)).length (v57.length-(Int.toNat (wi64 ((24:Int)+x61)))))++v57.drop ((Int.toNat (wi64 ((24:Int)+x61)))+((v45.take (Int.toNat y59.1)).take (min (v45.take (Int.toNat y59.1)).length (v57.length-(Int.toNat (wi64 ((24:Int)+x61)))))).length)))))))))))))))))))))))
 else some (Sum.inr (v45,v46,v51,v52,v56,v57))):=by kernel_rfl
def E3 (N:Nat):SEnv:=(E2 N).addLoop N 0 33 T0_33 O0_33
theorem ok3 (N:Nat):EnvOK tab (E3 N):=(ok2 N).addLoop N 0 33 T0_33 O0_33
end f8
def F8 (N:Nat) (x:(Int)×(List (Int))×(List (GType))×(List (List UInt8))×(List (Func))×(Int)×(Int)×(Int)×(Int)×(List (Int))×Int):Option ((Int)×(List (Int))×(Int)×Int):=fnRun (f8.E3 N) fuelW 8 f8.args f8.ta f8.res f8.tr 2 x
open f8 in
theorem F8_eq (N:Nat) (p0:Int) (p1:List (Int)) (p2:List (GType)) (p3:List (List UInt8)) (p4:List (Func)) (p5:Int) (p6:Int) (p7:Int) (p8:Int) (p9:List (Int)) (p10:Int):F8 N (p0,p1,p2,p3,p4,p5,p6,p7,p8,p9,p10) =
 (Option.bind (F27 N (p0,p1)) fun y0=>
 (bif (y0 != (0:Int))
 then some ((0:Int),[],(0:Int),y0)
 else (Option.bind (F28 N (p2,p3,p4)) fun y1=>
 (bif (y1 != (0:Int))
 then some ((0:Int),[],(0:Int),y1)
 else (Option.bind ((bif (decide (p5<(0:Int)))
 then some true
 else (bif (decide (p5≥(p4.length:Int)))
 then some true
 else (Option.bind (F29 N (p7,p8)) fun y2=>
 (bif (!y2)
 then some true
 else (bif (decide (p10<(0:Int)))
 then some true
 else some (decide (p10>(4096:Int))))))))) fun b3=>
 (bif b3
 then some ((0:Int),[],(0:Int),(2:Int))
 else (Option.bind (F30 N (p2,p3,p4,p5)) fun y4=>
 (chk (decide (0≤(wi64 ((24:Int)+y4.2))))
 ((chk (decide (0≤(wi64 ((24:Int)+y4.2))))
 ((chk (decide ((Int.toNat (wi64 ((24:Int)+y4.2)))≤(Int.toNat (wi64 ((24:Int)+y4.2))))&&room (Int.toNat (wi64 ((24:Int)+y4.2))) 1)
 ((Option.bind (L0_16 N N (p5,p9,p10,y4.1,p6,p7,p8,(0:Int),p0,p1,p2,p3,p4,(0:Int),(List.replicate (Int.toNat (wi64 ((24:Int)+y4.2))) (0:Int)))) fun y42=>
 (Option.bind (idx y42.2.2.2.2.2.2.2.2.1 y42.1) fun x43=>
 (Option.bind (idx y42.2.2.2.2.2.2.2.2.1 y42.1) fun x44=>
 (chk (decide (0≤x44.2.1))
 ((chk (decide ((Int.toNat x44.2.1)≤x43.2.2.2.1.length))
 ((Option.bind (L0_33 N N (y42.2.1,y42.2.2.1,y42.2.2.2.1,(x43.2.2.2.1.take (Int.toNat x44.2.1)),((x43.2.2.2.1.take (Int.toNat x44.2.1)).length:Int),(0:Int),y42.2.2.2.2.1,y42.2.2.2.2.2.1,y42.2.2.2.2.2.2.1,y42.2.2.2.2.2.2.2.1,y42.2.2.2.2.2.2.2.2.1,y42.2.2.2.2.2.2.2.2.2.1,y42.2.2.2.2.2.2.2.2.2.2)) fun y62=>
 (match y62 with
 |.inl a63=>some (a63.2.2,[],a63.1,a63.2.1)
 |.inr b64=>(bif (decide ((b64.1.length:Int)>(0:Int)))
 then some ((0:Int),[],(0:Int),(2:Int))
 else (bif (decide ((wi64 ((b64.2.2.2.1.length:Int)+(b64.2.2.2.2.2.length:Int)))>b64.2.1))
 then some ((0:Int),[],(0:Int),(18:Int))
 else (Option.bind (F32 N [b64.2.2.2.1,b64.2.2.2.2.2]) fun y65=>
 some (b64.2.2.1,y65,(wu64 (b64.2.2.1+(wu64 (b64.2.2.2.1.length:Int)))),(0:Int))))))))))))))))))))))))))):=by kernel_rfl
def c8 (N:Nat):Sym.Callee:=⟨f8.args,f8.ta,f8.res,f8.tr,2,F8 N⟩
theorem ok8 (N:Nat):CalOK tab 8 (c8 N):=fn_ok (f8.ok3 N) fuelW 8 f8.args f8.ta f8.res f8.tr 2
namespace f79
def bcut:Nat→Nat→Option (Nat×Ty):=fun c i=>match c,i with
 |0,1=>some (2,.bool)
 |_,_=>none
def args:List PSh:=[.c (.int .u64)]
def ta:List Ty:=[(.int .u64)]
def res:List (Bool×List CSh):=[(false,[.bool])]
def tr:List Ty:=[.bool]
def E0 (N:Nat):SEnv:=SEnv.base tab cuts ccut bcut unr ety
theorem ok0 (N:Nat):EnvOK tab (E0 N):=base_ok tab cuts ccut bcut unr ety
end f79
def F79 (N:Nat) (x:Int):Option (Bool):=fnRun (f79.E0 N) fuelW 79 f79.args f79.ta f79.res f79.tr 0 x
open f79 in
theorem F79_eq (N:Nat) (p0:Int):F79 N p0 =
 (Option.bind ((bif (decide (p0≥(8:Int)))
 then (bif (decide (p0≤(1099511627776:Int)))
 then some ((Int.tmod p0 (8:Int))==(0:Int))
 else some false)
 else some false)) fun b0=>
 some b0):=by kernel_rfl
def c79 (N:Nat):Sym.Callee:=⟨f79.args,f79.ta,f79.res,f79.tr,0,F79 N⟩
theorem ok79 (N:Nat):CalOK tab 79 (c79 N):=fn_ok (f79.ok0 N) fuelW 79 f79.args f79.ta f79.res f79.tr 0
namespace f54
def bcut:Nat→Nat→Option (Nat×Ty):=fun c i=>match c,i with
 |0,1=>some (12,.bool)
 |_,_=>none
def args:List PSh:=[.agg [.int .u64,.sl (.int .u8) .bor]]
def ta:List Ty:=[(.int .u64),(.sl (.int .u8))]
def res:List (Bool×List CSh):=[(false,[.int .i64])]
def tr:List Ty:=[(.int .i64)]
def E0 (N:Nat):SEnv:=(SEnv.base tab cuts ccut bcut unr ety).addCal 79 (c79 N)
theorem ok0 (N:Nat):EnvOK tab (E0 N):=(base_ok tab cuts ccut bcut unr ety).addCal (ok79 N)
end f54
def F54 (N:Nat) (x:(Int)×List (Int)):Option (Int):=fnRun (f54.E0 N) fuelW 54 f54.args f54.ta f54.res f54.tr 0 x
open f54 in
theorem F54_eq (N:Nat) (p0:Int) (p1:List (Int)):F54 N (p0,p1) =
 (Option.bind ((Option.bind (F79 N p0) fun y0=>
 (bif (!y0)
 then some true
 else some (decide ((p1.length:Int)>(20000:Int)))))) fun b1=>
 (bif b1
 then some (8:Int)
 else some (0:Int))):=by kernel_rfl
def c54 (N:Nat):Sym.Callee:=⟨f54.args,f54.ta,f54.res,f54.tr,0,F54 N⟩
theorem ok54 (N:Nat):CalOK tab 54 (c54 N):=fn_ok (f54.ok0 N) fuelW 54 f54.args f54.ta f54.res f54.tr 0
namespace f55
def bcut:Nat→Nat→Option (Nat×Ty):=fun c i=>match c,i with
 |0,1=>some (23,.bool)
 |_,_=>none
def args:List PSh:=[.agg [.int .u64,.sl (.int .u8) .bor],.c (.int .u64),.c (.int .i64)]
def ta:List Ty:=[(.int .u64),(.sl (.int .u8)),(.int .u64),(.int .i64)]
def res:List (Bool×List CSh):=[(false,[.int .i64]),(false,[.bool])]
def tr:List Ty:=[(.int .i64),.bool]
def E0 (N:Nat):SEnv:=SEnv.base tab cuts ccut bcut unr ety
theorem ok0 (N:Nat):EnvOK tab (E0 N):=base_ok tab cuts ccut bcut unr ety
end f55
def F55 (N:Nat) (x:(Int)×(List (Int))×(Int)×Int):Option ((Int)×Bool):=fnRun (f55.E0 N) fuelW 55 f55.args f55.ta f55.res f55.tr 0 x
open f55 in
theorem F55_eq (N:Nat) (p0:Int) (p1:List (Int)) (p2:Int) (p3:Int):F55 N (p0,p1,p2,p3) =
 (Option.bind ((bif (decide (p2<p0))
 then some true
 else some (decide ((wu64 (p2-p0))>(wu64 (p1.length:Int)))))) fun b0=>
 (bif b0
 then some ((0:Int),false)
 else some ((wi64 (wu64 (p2-p0))),(decide (p3≤(wi64 ((p1.length:Int)-(wi64 (wu64 (p2-p0)))))))))):=by kernel_rfl
def c55 (N:Nat):Sym.Callee:=⟨f55.args,f55.ta,f55.res,f55.tr,0,F55 N⟩
theorem ok55 (N:Nat):CalOK tab 55 (c55 N):=fn_ok (f55.ok0 N) fuelW 55 f55.args f55.ta f55.res f55.tr 0
namespace f35
def args:List PSh:=[.agg [.int .u64,.sl (.int .u8) .bor],.c (.int .u64),.c (.int .i64)]
def ta:List Ty:=[(.int .u64),(.sl (.int .u8)),(.int .u64),(.int .i64)]
def res:List (Bool×List CSh):=[(false,[.bool]),(false,[.int .i64])]
def tr:List Ty:=[.bool,(.int .i64)]
def E0 (N:Nat):SEnv:=((SEnv.base tab cuts ccut bcut unr ety).addCal 54 (c54 N)).addCal 55 (c55 N)
theorem ok0 (N:Nat):EnvOK tab (E0 N):=((base_ok tab cuts ccut bcut unr ety).addCal (ok54 N)).addCal (ok55 N)
end f35
def F35 (N:Nat) (x:(Int)×(List (Int))×(Int)×Int):Option ((Bool)×Int):=fnRun (f35.E0 N) fuelW 35 f35.args f35.ta f35.res f35.tr 0 x
open f35 in
theorem F35_eq (N:Nat) (p0:Int) (p1:List (Int)) (p2:Int) (p3:Int):F35 N (p0,p1,p2,p3) =
 (Option.bind (F54 N (p0,p1)) fun y0=>
 (bif (y0 != (0:Int))
 then some (false,y0)
 else (bif (decide (p3<(0:Int)))
 then some (false,(2:Int))
 else (Option.bind (F55 N (p0,p1,p2,p3)) fun y1=>
 some (y1.2,(0:Int)))))):=by kernel_rfl
def c35 (N:Nat):Sym.Callee:=⟨f35.args,f35.ta,f35.res,f35.tr,0,F35 N⟩
theorem ok35 (N:Nat):CalOK tab 35 (c35 N):=fn_ok (f35.ok0 N) fuelW 35 f35.args f35.ta f35.res f35.tr 0
namespace f56
def bcut:Nat→Nat→Option (Nat×Ty):=fun c i=>match c,i with
 |0,5=>some (21,.bool)
 |_,_=>none
def args:List PSh:=[.agg [.int .u64,.sl (.int .u8) .bor],.c (.int .u64),.c (.int .i64)]
def ta:List Ty:=[(.int .u64),(.sl (.int .u8)),(.int .u64),(.int .i64)]
def res:List (Bool×List CSh):=[(false,[.int .i64]),(false,[.int .i64])]
def tr:List Ty:=[(.int .i64),(.int .i64)]
def E0 (N:Nat):SEnv:=((SEnv.base tab cuts ccut bcut unr ety).addCal 54 (c54 N)).addCal 55 (c55 N)
theorem ok0 (N:Nat):EnvOK tab (E0 N):=((base_ok tab cuts ccut bcut unr ety).addCal (ok54 N)).addCal (ok55 N)
end f56
def F56 (N:Nat) (x:(Int)×(List (Int))×(Int)×Int):Option ((Int)×Int):=fnRun (f56.E0 N) fuelW 56 f56.args f56.ta f56.res f56.tr 0 x
open f56 in
theorem F56_eq (N:Nat) (p0:Int) (p1:List (Int)) (p2:Int) (p3:Int):F56 N (p0,p1,p2,p3) =
 (Option.bind (F54 N (p0,p1)) fun y0=>
 (bif (y0 != (0:Int))
 then some ((0:Int),y0)
 else (Option.bind ((bif (p3 != (1:Int))
 then some (p3 != (8:Int))
 else some false)) fun b1=>
 (bif b1
 then some ((0:Int),(2:Int))
 else (Option.bind (F55 N (p0,p1,p2,p3)) fun y2=>
 (bif (!y2.2)
 then some ((0:Int),(16:Int))
 else some (y2.1,(0:Int)))))))):=by kernel_rfl
def c56 (N:Nat):Sym.Callee:=⟨f56.args,f56.ta,f56.res,f56.tr,0,F56 N⟩
theorem ok56 (N:Nat):CalOK tab 56 (c56 N):=fn_ok (f56.ok0 N) fuelW 56 f56.args f56.ta f56.res f56.tr 0
namespace f36
def args:List PSh:=[.agg [.int .u64,.sl (.int .u8) .bor],.c (.int .u64),.c (.int .i64)]
def ta:List Ty:=[(.int .u64),(.sl (.int .u8)),(.int .u64),(.int .i64)]
def res:List (Bool×List CSh):=[(false,[.int .u64]),(false,[.int .i64])]
def tr:List Ty:=[(.int .u64),(.int .i64)]
def E0 (N:Nat):SEnv:=(SEnv.base tab cuts ccut bcut unr ety).addCal 56 (c56 N)
theorem ok0 (N:Nat):EnvOK tab (E0 N):=(base_ok tab cuts ccut bcut unr ety).addCal (ok56 N)
def T0_8:Tmpl:=⟨[(3,.c (.ptr 0 3 0 0 0)),(8,.c (.int .i64)),(10,.c (.int .u64)),(11,.c (.int .i64))],[],[(0,3,.box 0 [.int .u64,.sl (.int .u8) .bor])],1,[],1,[(.int .i64),(.int .u64),(.int .i64),(.int .u64),(.sl (.int .u8))]⟩
def O0_8:Outs:=[(.exit 0,⟨[(10,.c (.int .u64))],[],[],1,[],0,[(.int .u64)]⟩)]
def L0_8 (N:Nat) (k:Nat) (x:(Int)×(Int)×(Int)×(Int)×List (Int)):Option ((Int)):=loopF (loopStep (E0 N) fuelW 0 8 (bodyAt t36 8) T0_8 O0_8) k x
theorem L0_8_succ (N:Nat) (k:Nat) (v1:Int) (v2:Int) (v3:Int) (v4:Int) (v5:List (Int)):L0_8 N (k+1) (v1,v2,v3,v4,v5) =
 (bif (decide (v3≥(0:Int)))
 then (Option.bind (idx v5 (wi64 (v1+v3))) fun x6=>
 L0_8 N k (v1,(ior .u64 (wu64 (v2*256)) (wu64 x6)),(wi64 (v3-(1:Int))),v4,v5))
 else some v2):=by kernel_rfl
def E1 (N:Nat):SEnv:=(E0 N).addLoop N 0 8 T0_8 O0_8
theorem ok1 (N:Nat):EnvOK tab (E1 N):=(ok0 N).addLoop N 0 8 T0_8 O0_8
end f36
def F36 (N:Nat) (x:(Int)×(List (Int))×(Int)×Int):Option ((Int)×Int):=fnRun (f36.E1 N) fuelW 36 f36.args f36.ta f36.res f36.tr 0 x
open f36 in
theorem F36_eq (N:Nat) (p0:Int) (p1:List (Int)) (p2:Int) (p3:Int):F36 N (p0,p1,p2,p3) =
 (Option.bind (F56 N (p0,p1,p2,p3)) fun y0=>
 (bif (y0.2 != (0:Int))
 then some ((0:Int),y0.2)
 else (Option.bind (L0_8 N N (y0.1,(0:Int),(wi64 (p3-(1:Int))),p0,p1)) fun y7=>
 some (y7,(0:Int))))):=by kernel_rfl
def c36 (N:Nat):Sym.Callee:=⟨f36.args,f36.ta,f36.res,f36.tr,0,F36 N⟩
theorem ok36 (N:Nat):CalOK tab 36 (c36 N):=fn_ok (f36.ok1 N) fuelW 36 f36.args f36.ta f36.res f36.tr 0
namespace f10
def bcut:Nat→Nat→Option (Nat×Ty):=fun c i=>match c,i with
 |0,6=>some (28,.bool)
 |_,_=>none
def args:List PSh:=[.agg [.int .u64,.sl (.int .u8) .bor],.c (.int .u64)]
def ta:List Ty:=[(.int .u64),(.sl (.int .u8)),(.int .u64)]
def res:List (Bool×List CSh):=[(false,[.int .u64]),(false,[.int .u64]),(false,[.int .u64]),(false,[.int .i64])]
def tr:List Ty:=[(.int .u64),(.int .u64),(.int .u64),(.int .i64)]
def E0 (N:Nat):SEnv:=((((SEnv.base tab cuts ccut bcut unr ety).addCal 27 (c27 N)).addCal 35 (c35 N)).addCal 36 (c36 N)).addCal 29 (c29 N)
theorem ok0 (N:Nat):EnvOK tab (E0 N):=((((base_ok tab cuts ccut bcut unr ety).addCal (ok27 N)).addCal (ok35 N)).addCal (ok36 N)).addCal (ok29 N)
end f10
def F10 (N:Nat) (x:(Int)×(List (Int))×Int):Option ((Int)×(Int)×(Int)×Int):=fnRun (f10.E0 N) fuelW 10 f10.args f10.ta f10.res f10.tr 0 x
open f10 in
theorem F10_eq (N:Nat) (p0:Int) (p1:List (Int)) (p2:Int):F10 N (p0,p1,p2) =
 (Option.bind (F27 N (p0,p1)) fun y0=>
 (bif (y0 != (0:Int))
 then some ((0:Int),(0:Int),(0:Int),y0)
 else (Option.bind (F35 N (p0,p1,p2,(24:Int))) fun y1=>
 (Option.bind ((bif (!y1.1)
 then some true
 else some ((Int.tmod p2 (8:Int)) != (0:Int)))) fun b2=>
 (bif b2
 then some ((0:Int),(0:Int),(0:Int),(16:Int))
 else (Option.bind (F36 N (p0,p1,p2,(8:Int))) fun y3=>
 (Option.bind (F36 N (p0,p1,(wu64 (p2+(8:Int))),(8:Int))) fun y4=>
 (Option.bind (F36 N (p0,p1,(wu64 (p2+(16:Int))),(8:Int))) fun y5=>
 (Option.bind (F29 N (y4.1,y5.1)) fun y6=>
 (bif (!y6)
 then some ((0:Int),(0:Int),(0:Int),(12:Int))
 else some (y3.1,y4.1,y5.1,(0:Int)))))))))))):=by kernel_rfl
def c10 (N:Nat):Sym.Callee:=⟨f10.args,f10.ta,f10.res,f10.tr,0,F10 N⟩
theorem ok10 (N:Nat):CalOK tab 10 (c10 N):=fn_ok (f10.ok0 N) fuelW 10 f10.args f10.ta f10.res f10.tr 0
namespace f20
def bcut:Nat→Nat→Option (Nat×Ty):=fun c i=>match c,i with
 |0,19=>some (58,.bool)
 |0,25=>some (96,.bool)
 |0,33=>some (11,(.int .i64))
 |_,_=>none
def ety:Nat→Nat→Option Ty:=fun c d=>match c,d with
 |0,106=>some TSpot
 |_,_=>none
def args:List PSh:=[.agg [.int .u64,.sl (.int .u8) .bor],.agg [.sl TGType .bor,.sl .str .bor,.sl TFunc .bor],.c (.int .u64)]
def ta:List Ty:=[(.int .u64),(.sl (.int .u8)),(.sl TGType),(.sl .str),(.sl TFunc),(.int .u64)]
def res:List (Bool×List CSh):=[(false,[.sl TSpot .d]),(false,[.int .i64])]
def tr:List Ty:=[(.sl TSpot),(.int .i64)]
def E0 (N:Nat):SEnv:=(((((SEnv.base tab cuts ccut bcut unr ety).addCal 27 (c27 N)).addCal 28 (c28 N)).addCal 44 (c44 N)).addCal 17 (c17 N)).addCal 10 (c10 N)
theorem ok0 (N:Nat):EnvOK tab (E0 N):=(((((base_ok tab cuts ccut bcut unr ety).addCal (ok27 N)).addCal (ok28 N)).addCal (ok44 N)).addCal (ok17 N)).addCal (ok10 N)
def T0_12:Tmpl:=⟨[(2,.c (.int .u64)),(3,.c (.ptr 0 3 0 0 0)),(4,.c (.ptr 0 4 1 0 0)),(10,.c (.int .u64)),(11,.c (.int .i64)),(12,.c (.sl TSpot (.app 2)))],[],[(0,3,.box 0 [.int .u64,.sl (.int .u8) .bor]),(0,4,.box 1 [.sl TGType .bor,.sl .str .bor,.sl TFunc .bor])],1,[2],3,[(.int .u64),(.int .u64),(.int .i64),(.sl TSpot),(.int .u64),(.sl (.int .u8)),(.sl TGType),(.sl .str),(.sl TFunc)]⟩
def O0_12:Outs:=[(.ret,⟨[(6,.c (.sl TSpot (.app 0))),(7,.c (.int .i64))],[],[],1,[0],1,[(.sl TSpot),(.int .i64)]⟩)]
def L0_12 (N:Nat) (k:Nat) (x:(Int)×(Int)×(Int)×(List (Spot))×(Int)×(List (Int))×(List (GType))×(List (List UInt8))×List (Func)):Option (((List (Spot))×Int)):=loopF (loopStep (E0 N) fuelW 0 12 (bodyAt t20 12) T0_12 O0_12) k x
theorem L0_12_succ (N:Nat) (k:Nat) (v2:Int) (v3:Int) (v4:Int) (v5:List (Spot)) (v6:Int) (v7:List (Int)) (v8:List (GType)) (v9:List (List UInt8)) (v10:List (Func)):L0_12 N (k+1) (v2,v3,v4,v5,v6,v7,v8,v9,v10) =
 (Option.bind (F44 N (v8,v9,v10,v2)) fun y11=>
 (bif (y11.2.2 != (0:Int))
 then some ([],y11.2.2)
 else (Option.bind (F17 N (v8,v9,v10,v2)) fun y12=>
 (Option.bind ((bif (y12.2 != (0:Int))
 then some true
 else some (decide ((wu64 y12.1)>v3)))) fun b13=>
 (bif b13
 then some ([],(16:Int))
 else (Option.bind (F10 N (v6,v7,(wu64 (v6+(wu64 (v3-(wu64 y12.1))))))) fun y14=>
 (Option.bind ((bif (y14.2.2.2 != (0:Int))
 then some true
 else (bif (!((y14.1==(0:Int))==((wu64 (v3-(wu64 y12.1)))==(0:Int))))
 then some true
 else (bif (y14.2.1==(0:Int))
 then (bif (y14.1 != (0:Int))
 then some ((Int.tmod y14.1 (256:Int))==(0:Int))
 else some false)
 else some false)))) fun b15=>
 (bif b15
 then some ([],(12:Int))
 else (chk (room (v5.length+1) 40)
 ((bif (y14.1 != (0:Int))
 then (Option.bind ((bif (y14.2.1==(0:Int))
 then some (1:Int)
 else some (0:Int))) fun b16=>
 L0_12 N k (y14.1,(wu64 (v3-(wu64 y12.1))),b16,(v5++[((wu64 (v6+(wu64 (v3-(wu64 y12.1))))),y11.1,(wi64 (y11.2.1-v4)),y14.2.1,y14.2.2.1)]),v6,v7,v8,v9,v10))
 else some ((v5++[((wu64 (v6+(wu64 (v3-(wu64 y12.1))))),y11.1,(wi64 (y11.2.1-v4)),y14.2.1,y14.2.2.1)]),(0:Int))))))))))))):=by kernel_rfl
def E1 (N:Nat):SEnv:=(E0 N).addLoop N 0 12 T0_12 O0_12
theorem ok1 (N:Nat):EnvOK tab (E1 N):=(ok0 N).addLoop N 0 12 T0_12 O0_12
end f20
def F20 (N:Nat) (x:(Int)×(List (Int))×(List (GType))×(List (List UInt8))×(List (Func))×Int):Option ((List (Spot))×Int):=fnRun (f20.E1 N) fuelW 20 f20.args f20.ta f20.res f20.tr 0 x
open f20 in
theorem F20_eq (N:Nat) (p0:Int) (p1:List (Int)) (p2:List (GType)) (p3:List (List UInt8)) (p4:List (Func)) (p5:Int):F20 N (p0,p1,p2,p3,p4,p5) =
 (Option.bind (F27 N (p0,p1)) fun y0=>
 (bif (y0 != (0:Int))
 then some ([],y0)
 else (Option.bind (F28 N (p2,p3,p4)) fun y1=>
 (bif (y1 != (0:Int))
 then some ([],y1)
 else (Option.bind (L0_12 N N (p5,(wu64 (p1.length:Int)),(0:Int),[],p0,p1,p2,p3,p4)) fun y17=>
 some (y17.1,y17.2)))))):=by kernel_rfl
def c20 (N:Nat):Sym.Callee:=⟨f20.args,f20.ta,f20.res,f20.tr,0,F20 N⟩
theorem ok20 (N:Nat):CalOK tab 20 (c20 N):=fn_ok (f20.ok1 N) fuelW 20 f20.args f20.ta f20.res f20.tr 0
namespace f15
end f15
def F15 (N:Nat) (x:Unit):Option Bool:=runCal.F x
theorem F15_eq (N:Nat):F15 N ()=some true:=rfl
theorem run15:(runF tab 30000 15 [] [.lf] .lf 0).map (·.1)=some (.d (.sc (.bool true))):=by kernel_rfl
def c15 (N:Nat):Sym.Callee:=runCal
theorem ok15 (N:Nat):CalOK tab 15 (c15 N):=calOK_run run15
namespace f26
def args:List PSh:=[.c (.sl TGType .bor)]
def ta:List Ty:=[(.sl TGType)]
def res:List (Bool×List CSh):=[(false,[.bool])]
def tr:List Ty:=[.bool]
def E0 (N:Nat):SEnv:=SEnv.base tab cuts ccut bcut unr ety
theorem ok0 (N:Nat):EnvOK tab (E0 N):=base_ok tab cuts ccut bcut unr ety
def T0_15:Tmpl:=⟨[(0,.c (.sl TGType .bor)),(3,.c (.int .i64)),(4,.c (.int .i64))],[],[],1,[],0,[(.sl TGType),(.int .i64),(.int .i64)]⟩
def O0_15:Outs:=[(.ret,⟨[(2,.c (.bool))],[],[],1,[],0,[.bool]⟩),(.exit 2,⟨[(0,.c (.sl TGType .bor)),(3,.c (.int .i64))],[],[],1,[],0,[(.sl TGType),(.int .i64)]⟩)]
def L0_15 (N:Nat) (k:Nat) (x:(List (GType))×(Int)×Int):Option ((Bool)⊕((List (GType))×Int)):=loopF (loopStep (E0 N) fuelW 0 15 (bodyAt t26 15) T0_15 O0_15) k x
theorem L0_15_succ (N:Nat) (k:Nat) (v3:List (GType)) (v4:Int) (v5:Int):L0_15 N (k+1) (v3,v4,v5) =
 (Option.bind (idx v3 v4) fun x6=>
 (bif (decide (v5<(x6.2.2.2.length:Int)))
 then (Option.bind (idx v3 v4) fun x7=>
 (Option.bind (idx x7.2.2.2 v5) fun x8=>
 (bif (decide ((x8.1.length:Int)>(100:Int)))
 then some (Sum.inl true)
 else L0_15 N k (v3,v4,(wi64 (v5+(1:Int)))))))
 else some (Sum.inr (v3,v4)))):=by kernel_rfl
def E1 (N:Nat):SEnv:=(E0 N).addLoop N 0 15 T0_15 O0_15
theorem ok1 (N:Nat):EnvOK tab (E1 N):=(ok0 N).addLoop N 0 15 T0_15 O0_15
def T0_6:Tmpl:=⟨[(0,.c (.sl TGType .bor)),(3,.c (.int .i64))],[],[],1,[],0,[(.sl TGType),(.int .i64)]⟩
def O0_6:Outs:=[(.ret,⟨[(2,.c (.bool))],[],[],1,[],0,[.bool]⟩),(.exit 0,⟨[],[],[],1,[],0,[]⟩)]
def L0_6 (N:Nat) (k:Nat) (x:(List (GType))×Int):Option ((Bool)⊕(Unit)):=loopF (loopStep (E1 N) fuelW 0 6 (bodyAt t26 6) T0_6 O0_6) k x
theorem L0_6_succ (N:Nat) (k:Nat) (v0:List (GType)) (v1:Int):L0_6 N (k+1) (v0,v1) =
 (bif (decide (v1<(v0.length:Int)))
 then (Option.bind (idx v0 v1) fun x2=>
 (bif (decide ((x2.2.2.2.length:Int)>(20:Int)))
 then some (Sum.inl true)
 else (Option.bind (L0_15 N N (v0,v1,(0:Int))) fun y9=>
 (match y9 with
 |.inl a10=>some (Sum.inl a10)
 |.inr b11=>L0_6 N k (b11.1,(wi64 (b11.2+(1:Int))))))))
 else some (Sum.inr ())):=by kernel_rfl
def E2 (N:Nat):SEnv:=(E1 N).addLoop N 0 6 T0_6 O0_6
theorem ok2 (N:Nat):EnvOK tab (E2 N):=(ok1 N).addLoop N 0 6 T0_6 O0_6
end f26
def F26 (N:Nat) (x:List (GType)):Option (Bool):=fnRun (f26.E2 N) fuelW 26 f26.args f26.ta f26.res f26.tr 0 x
open f26 in
theorem F26_eq (N:Nat) (p0:List (GType)):F26 N p0 =
 (bif (decide ((p0.length:Int)>(40:Int)))
 then some true
 else (Option.bind (L0_6 N N (p0,(0:Int))) fun y12=>
 (match y12 with
 |.inl a13=>some a13
 |.inr b14=>some false))):=by kernel_rfl
def c26 (N:Nat):Sym.Callee:=⟨f26.args,f26.ta,f26.res,f26.tr,0,F26 N⟩
theorem ok26 (N:Nat):CalOK tab 26 (c26 N):=fn_ok (f26.ok2 N) fuelW 26 f26.args f26.ta f26.res f26.tr 0
namespace f6
def bcut:Nat→Nat→Option (Nat×Ty):=fun c i=>match c,i with
 |0,1=>some (22,.bool)
 |0,23=>some (85,.bool)
 |_,_=>none
def args:List PSh:=[.agg [.sl TGType .bor,.sl .str .bor,.sl TFunc .bor]]
def ta:List Ty:=[(.sl TGType),(.sl .str),(.sl TFunc)]
def res:List (Bool×List CSh):=[(false,[.bool])]
def tr:List Ty:=[.bool]
def E0 (N:Nat):SEnv:=(SEnv.base tab cuts ccut bcut unr ety).addCal 26 (c26 N)
theorem ok0 (N:Nat):EnvOK tab (E0 N):=(base_ok tab cuts ccut bcut unr ety).addCal (ok26 N)
def T0_6:Tmpl:=⟨[(1,.c (.ptr 0 1 0 0 0)),(3,.c (.int .i64))],[],[(0,1,.box 0 [.sl TGType .bor,.sl .str .bor,.sl TFunc .bor])],1,[],1,[(.int .i64),(.sl TGType),(.sl .str),(.sl TFunc)]⟩
def O0_6:Outs:=[(.ret,⟨[(2,.c (.bool))],[],[],1,[],0,[.bool]⟩),(.exit 0,⟨[(1,.c (.ptr 0 1 0 0 0))],[],[(0,1,.box 0 [.sl TGType .bor,.sl .str .bor,.sl TFunc .bor])],1,[],1,[(.sl TGType),(.sl .str),(.sl TFunc)]⟩)]
def L0_6 (N:Nat) (k:Nat) (x:(Int)×(List (GType))×(List (List UInt8))×List (Func)):Option ((Bool)⊕((List (GType))×(List (List UInt8))×List (Func))):=loopF (loopStep (E0 N) fuelW 0 6 (bodyAt t6 6) T0_6 O0_6) k x
theorem L0_6_succ (N:Nat) (k:Nat) (v2:Int) (v3:List (GType)) (v4:List (List UInt8)) (v5:List (Func)):L0_6 N (k+1) (v2,v3,v4,v5) =
 (bif (decide (v2<(v4.length:Int)))
 then (Option.bind (idx v4 v2) fun x6=>
 (bif (decide ((x6.length:Int)>(100:Int)))
 then some (Sum.inl true)
 else L0_6 N k ((wi64 (v2+(1:Int))),v3,v4,v5)))
 else some (Sum.inr (v3,v4,v5))):=by kernel_rfl
def E1 (N:Nat):SEnv:=(E0 N).addLoop N 0 6 T0_6 O0_6
theorem ok1 (N:Nat):EnvOK tab (E1 N):=(ok0 N).addLoop N 0 6 T0_6 O0_6
def T0_28:Tmpl:=⟨[(1,.c (.ptr 0 1 0 0 0)),(4,.c (.int .i64)),(5,.c (.int .i64)),(6,.c (.ptr 0 6 1 0 0)),(7,.c (.int .i64))],[],[(0,1,.box 0 [.sl TGType .bor,.sl .str .bor,.sl TFunc .bor]),(0,6,.box 1 [.str,.int .i64,.int .i64,.sl TField .d,.sl TInstr .d,.sl TRun .d,.sl TRun .d])],1,[],2,[(.int .i64),(.int .i64),(.int .i64),(.sl TGType),(.sl .str),(.sl TFunc),.str,(.int .i64),(.int .i64),(.sl TField),(.sl TInstr),(.sl TRun),(.sl TRun)]⟩
def O0_28:Outs:=[(.ret,⟨[(2,.c (.bool))],[],[],1,[],0,[.bool]⟩),(.exit 4,⟨[(1,.c (.ptr 0 1 0 0 0)),(4,.c (.int .i64)),(5,.c (.int .i64))],[],[(0,1,.box 0 [.sl TGType .bor,.sl .str .bor,.sl TFunc .bor])],1,[],1,[(.int .i64),(.int .i64),(.sl TGType),(.sl .str),(.sl TFunc)]⟩)]
def L0_28 (N:Nat) (k:Nat) (x:(Int)×(Int)×(Int)×(List (GType))×(List (List UInt8))×(List (Func))×(List UInt8)×(Int)×(Int)×(List (Field))×(List (Instr))×(List (Run))×List (Run)):Option ((Bool)⊕((Int)×(Int)×(List (GType))×(List (List UInt8))×List (Func))):=loopF (loopStep (E1 N) fuelW 0 28 (bodyAt t6 28) T0_28 O0_28) k x
theorem L0_28_succ (N:Nat) (k:Nat) (v17:Int) (v18:Int) (v19:Int) (v20:List (GType)) (v21:List (List UInt8)) (v22:List (Func)) (v23:List UInt8) (v24:Int) (v25:Int) (v26:List (Field)) (v27:List (Instr)) (v28:List (Run)) (v29:List (Run)):L0_28 N (k+1) (v17,v18,v19,v20,v21,v22,v23,v24,v25,v26,v27,v28,v29) =
 (bif (decide (v19<(v26.length:Int)))
 then (Option.bind (idx v26 v19) fun x30=>
 (bif (decide ((x30.1.length:Int)>(100:Int)))
 then some (Sum.inl true)
 else L0_28 N k (v17,v18,(wi64 (v19+(1:Int))),v20,v21,v22,v23,v24,v25,v26,v27,v28,v29)))
 else some (Sum.inr (v17,v18,v20,v21,v22))):=by kernel_rfl
def E2 (N:Nat):SEnv:=(E1 N).addLoop N 0 28 T0_28 O0_28
theorem ok2 (N:Nat):EnvOK tab (E2 N):=(ok1 N).addLoop N 0 28 T0_28 O0_28
def T0_17:Tmpl:=⟨[(1,.c (.ptr 0 1 0 0 0)),(4,.c (.int .i64)),(5,.c (.int .i64))],[],[(0,1,.box 0 [.sl TGType .bor,.sl .str .bor,.sl TFunc .bor])],1,[],1,[(.int .i64),(.int .i64),(.sl TGType),(.sl .str),(.sl TFunc)]⟩
def O0_17:Outs:=[(.ret,⟨[(2,.c (.bool))],[],[],1,[],0,[.bool]⟩),(.exit 2,⟨[],[],[],1,[],0,[]⟩)]
def L0_17 (N:Nat) (k:Nat) (x:(Int)×(Int)×(List (GType))×(List (List UInt8))×List (Func)):Option ((Bool)⊕(Unit)):=loopF (loopStep (E2 N) fuelW 0 17 (bodyAt t6 17) T0_17 O0_17) k x
theorem L0_17_succ (N:Nat) (k:Nat) (v10:Int) (v11:Int) (v12:List (GType)) (v13:List (List UInt8)) (v14:List (Func)):L0_17 N (k+1) (v10,v11,v12,v13,v14) =
 (bif (decide (v11<(v14.length:Int)))
 then (Option.bind (idx v14 v11) fun x15=>
 (Option.bind ((bif (decide ((x15.1.length:Int)>(100:Int)))
 then some true
 else (bif (decide ((x15.2.2.2.1.length:Int)>(20:Int)))
 then some true
 else (bif (decide ((x15.2.2.2.2.1.length:Int)>(210:Int)))
 then some true
 else (bif (decide ((x15.2.2.2.2.2.1.length:Int)>(210:Int)))
 then some true
 else (bif (decide ((x15.2.2.2.2.2.2.length:Int)>(210:Int)))
 then some true
 else some (decide ((wi64 (v10+(x15.2.2.2.2.1.length:Int)))>(1000:Int))))))))) fun b16=>
 (bif b16
 then some (Sum.inl true)
 else (Option.bind (L0_28 N N ((wi64 (v10+(x15.2.2.2.2.1.length:Int))),v11,(0:Int),v12,v13,v14,x15.1,x15.2.1,x15.2.2.1,x15.2.2.2.1,x15.2.2.2.2.1,x15.2.2.2.2.2.1,x15.2.2.2.2.2.2)) fun y31=>
 (match y31 with
 |.inl a32=>some (Sum.inl a32)
 |.inr b33=>L0_17 N k (b33.1,(wi64 (b33.2.1+(1:Int))),b33.2.2.1,b33.2.2.2.1,b33.2.2.2.2))))))
 else some (Sum.inr ())):=by kernel_rfl
def E3 (N:Nat):SEnv:=(E2 N).addLoop N 0 17 T0_17 O0_17
theorem ok3 (N:Nat):EnvOK tab (E3 N):=(ok2 N).addLoop N 0 17 T0_17 O0_17
end f6
def F6 (N:Nat) (x:(List (GType))×(List (List UInt8))×List (Func)):Option (Bool):=fnRun (f6.E3 N) fuelW 6 f6.args f6.ta f6.res f6.tr 0 x
open f6 in
theorem F6_eq (N:Nat) (p0:List (GType)) (p1:List (List UInt8)) (p2:List (Func)):F6 N (p0,p1,p2) =
 (Option.bind ((Option.bind (F26 N p0) fun y0=>
 (bif y0
 then some true
 else (bif (decide ((p1.length:Int)>(40:Int)))
 then some true
 else some (decide ((p2.length:Int)>(40:Int))))))) fun b1=>
 (bif b1
 then some true
 else (Option.bind (L0_6 N N ((0:Int),p0,p1,p2)) fun y7=>
 (match y7 with
 |.inl a8=>some a8
 |.inr b9=>(Option.bind (L0_17 N N ((0:Int),(0:Int),b9.1,b9.2.1,b9.2.2)) fun y34=>
 (match y34 with
 |.inl a35=>some a35
 |.inr b36=>some false)))))):=by kernel_rfl
def c6 (N:Nat):Sym.Callee:=⟨f6.args,f6.ta,f6.res,f6.tr,0,F6 N⟩
theorem ok6 (N:Nat):CalOK tab 6 (c6 N):=fn_ok (f6.ok3 N) fuelW 6 f6.args f6.ta f6.res f6.tr 0
namespace f101
def bcut:Nat→Nat→Option (Nat×Ty):=fun c i=>match c,i with
 |0,1=>some (2,.bool)
 |_,_=>none
def args:List PSh:=[.c (.int .u8)]
def ta:List Ty:=[(.int .u8)]
def res:List (Bool×List CSh):=[(false,[.bool])]
def tr:List Ty:=[.bool]
def E0 (N:Nat):SEnv:=SEnv.base tab cuts ccut bcut unr ety
theorem ok0 (N:Nat):EnvOK tab (E0 N):=base_ok tab cuts ccut bcut unr ety
end f101
def F101 (N:Nat) (x:Int):Option (Bool):=fnRun (f101.E0 N) fuelW 101 f101.args f101.ta f101.res f101.tr 0 x
open f101 in
theorem F101_eq (N:Nat) (p0:Int):F101 N p0 =
 (Option.bind ((bif (decide (p0≥(97:Int)))
 then (bif (decide (p0≤(122:Int)))
 then some true
 else (bif (decide (p0≥(65:Int)))
 then some (decide (p0≤(90:Int)))
 else some false))
 else (bif (decide (p0≥(65:Int)))
 then some (decide (p0≤(90:Int)))
 else some false))) fun b0=>
 some b0):=by kernel_rfl
def c101 (N:Nat):Sym.Callee:=⟨f101.args,f101.ta,f101.res,f101.tr,0,F101 N⟩
theorem ok101 (N:Nat):CalOK tab 101 (c101 N):=fn_ok (f101.ok0 N) fuelW 101 f101.args f101.ta f101.res f101.tr 0
namespace f83
def bcut:Nat→Nat→Option (Nat×Ty):=fun c i=>match c,i with
 |0,1=>some (17,.bool)
 |0,10=>some (40,.bool)
 |_,_=>none
def args:List PSh:=[.c (.str)]
def ta:List Ty:=[.str]
def res:List (Bool×List CSh):=[(false,[.bool])]
def tr:List Ty:=[.bool]
def E0 (N:Nat):SEnv:=(SEnv.base tab cuts ccut bcut unr ety).addCal 101 (c101 N)
theorem ok0 (N:Nat):EnvOK tab (E0 N):=(base_ok tab cuts ccut bcut unr ety).addCal (ok101 N)
def T0_6:Tmpl:=⟨[(0,.c (.str)),(3,.c (.int .i64))],[],[],1,[],0,[.str,(.int .i64)]⟩
def O0_6:Outs:=[(.ret,⟨[(2,.c (.bool))],[],[],1,[],0,[.bool]⟩),(.exit 0,⟨[],[],[],1,[],0,[]⟩)]
def L0_6 (N:Nat) (k:Nat) (x:(List UInt8)×Int):Option ((Bool)⊕(Unit)):=loopF (loopStep (E0 N) fuelW 0 6 (bodyAt t83 6) T0_6 O0_6) k x
theorem L0_6_succ (N:Nat) (k:Nat) (v3:List UInt8) (v4:Int):L0_6 N (k+1) (v3,v4) =
 (bif (decide (v4<(v3.length:Int)))
 then (Option.bind ((Option.bind (idx v3 v4) fun c5=>
 (Option.bind (F101 N (c5.toNat:Int)) fun y6=>
 (bif (!y6)
 then (Option.bind (idx v3 v4) fun c7=>
 (bif (decide ((c7.toNat:Int)<(48:Int)))
 then some true
 else (Option.bind (idx v3 v4) fun c8=>
 some (decide ((c8.toNat:Int)>(57:Int))))))
 else some false)))) fun b9=>
 (bif b9
 then some (Sum.inl false)
 else L0_6 N k (v3,(wi64 (v4+(1:Int))))))
 else some (Sum.inr ())):=by kernel_rfl
def E1 (N:Nat):SEnv:=(E0 N).addLoop N 0 6 T0_6 O0_6
theorem ok1 (N:Nat):EnvOK tab (E1 N):=(ok0 N).addLoop N 0 6 T0_6 O0_6
end f83
def F83 (N:Nat) (x:List UInt8):Option (Bool):=fnRun (f83.E1 N) fuelW 83 f83.args f83.ta f83.res f83.tr 0 x
open f83 in
theorem F83_eq (N:Nat) (p0:List UInt8):F83 N p0 =
 (Option.bind ((bif (decide ((p0.length:Int)<(1:Int)))
 then some true
 else (bif (decide ((p0.length:Int)>(16:Int)))
 then some true
 else (Option.bind (idx p0 (0:Int)) fun c0=>
 (Option.bind (F101 N (c0.toNat:Int)) fun y1=>
 some (!y1)))))) fun b2=>
 (bif b2
 then some false
 else (Option.bind (L0_6 N N (p0,(0:Int))) fun y10=>
 (match y10 with
 |.inl a11=>some a11
 |.inr b12=>some true)))):=by kernel_rfl
def c83 (N:Nat):Sym.Callee:=⟨f83.args,f83.ta,f83.res,f83.tr,0,F83 N⟩
theorem ok83 (N:Nat):CalOK tab 83 (c83 N):=fn_ok (f83.ok1 N) fuelW 83 f83.args f83.ta f83.res f83.tr 0
namespace f84
def args:List PSh:=[.c (.sl TField .bor),.c (.int .i64)]
def ta:List Ty:=[(.sl TField),(.int .i64)]
def res:List (Bool×List CSh):=[(false,[.bool])]
def tr:List Ty:=[.bool]
def E0 (N:Nat):SEnv:=(SEnv.base tab cuts ccut bcut unr ety).addCal 83 (c83 N)
theorem ok0 (N:Nat):EnvOK tab (E0 N):=(base_ok tab cuts ccut bcut unr ety).addCal (ok83 N)
def T0_15:Tmpl:=⟨[(0,.c (.sl TField .bor)),(5,.c (.int .i64)),(6,.c (.int .i64))],[],[],1,[],0,[(.sl TField),(.int .i64),(.int .i64)]⟩
def O0_15:Outs:=[(.ret,⟨[(4,.c (.bool))],[],[],1,[],0,[.bool]⟩),(.exit 2,⟨[(0,.c (.sl TField .bor)),(5,.c (.int .i64))],[],[],1,[],0,[(.sl TField),(.int .i64)]⟩)]
def L0_15 (N:Nat) (k:Nat) (x:(List (Field))×(Int)×Int):Option ((Bool)⊕((List (Field))×Int)):=loopF (loopStep (E0 N) fuelW 0 15 (bodyAt t84 15) T0_15 O0_15) k x
theorem L0_15_succ (N:Nat) (k:Nat) (v4:List (Field)) (v5:Int) (v6:Int):L0_15 N (k+1) (v4,v5,v6) =
 (bif (decide (v6<v5))
 then (Option.bind (idx v4 v6) fun x7=>
 (Option.bind (idx v4 v5) fun x8=>
 (bif (x7.1==x8.1)
 then some (Sum.inl false)
 else L0_15 N k (v4,v5,(wi64 (v6+(1:Int)))))))
 else some (Sum.inr (v4,v5))):=by kernel_rfl
def E1 (N:Nat):SEnv:=(E0 N).addLoop N 0 15 T0_15 O0_15
theorem ok1 (N:Nat):EnvOK tab (E1 N):=(ok0 N).addLoop N 0 15 T0_15 O0_15
def T0_6:Tmpl:=⟨[(0,.c (.sl TField .bor)),(5,.c (.int .i64))],[],[],1,[],0,[(.sl TField),(.int .i64)]⟩
def O0_6:Outs:=[(.ret,⟨[(4,.c (.bool))],[],[],1,[],0,[.bool]⟩),(.exit 0,⟨[],[],[],1,[],0,[]⟩)]
def L0_6 (N:Nat) (k:Nat) (x:(List (Field))×Int):Option ((Bool)⊕(Unit)):=loopF (loopStep (E1 N) fuelW 0 6 (bodyAt t84 6) T0_6 O0_6) k x
theorem L0_6_succ (N:Nat) (k:Nat) (v0:List (Field)) (v1:Int):L0_6 N (k+1) (v0,v1) =
 (bif (decide (v1<(v0.length:Int)))
 then (Option.bind (idx v0 v1) fun x2=>
 (Option.bind (F83 N x2.1) fun y3=>
 (bif (!y3)
 then some (Sum.inl false)
 else (Option.bind (L0_15 N N (v0,v1,(0:Int))) fun y9=>
 (match y9 with
 |.inl a10=>some (Sum.inl a10)
 |.inr b11=>L0_6 N k (b11.1,(wi64 (b11.2+(1:Int)))))))))
 else some (Sum.inr ())):=by kernel_rfl
def E2 (N:Nat):SEnv:=(E1 N).addLoop N 0 6 T0_6 O0_6
theorem ok2 (N:Nat):EnvOK tab (E2 N):=(ok1 N).addLoop N 0 6 T0_6 O0_6
end f84
def F84 (N:Nat) (x:(List (Field))×Int):Option (Bool):=fnRun (f84.E2 N) fuelW 84 f84.args f84.ta f84.res f84.tr 0 x
open f84 in
theorem F84_eq (N:Nat) (p0:List (Field)) (p1:Int):F84 N (p0,p1) =
 (bif (decide ((p0.length:Int)>p1))
 then some false
 else (Option.bind (L0_6 N N (p0,(0:Int))) fun y12=>
 (match y12 with
 |.inl a13=>some a13
 |.inr b14=>some true))):=by kernel_rfl
def c84 (N:Nat):Sym.Callee:=⟨f84.args,f84.ta,f84.res,f84.tr,0,F84 N⟩
theorem ok84 (N:Nat):CalOK tab 84 (c84 N):=fn_ok (f84.ok2 N) fuelW 84 f84.args f84.ta f84.res f84.tr 0
namespace f80
def bcut:Nat→Nat→Option (Nat×Ty):=fun c i=>match c,i with
 |0,7=>some (13,.bool)
 |0,5=>some (13,.bool)
 |0,10=>some (4,.bool)
 |0,12=>some (31,.bool)
 |0,15=>some (4,.bool)
 |0,18=>some (4,.bool)
 |0,27=>some (107,.bool)
 |0,31=>some (4,.bool)
 |_,_=>none
def args:List PSh:=[.c (.sl TGType .bor),.c (.int .i64)]
def ta:List Ty:=[(.sl TGType),(.int .i64)]
def res:List (Bool×List CSh):=[(false,[.bool])]
def tr:List Ty:=[.bool]
def E0 (N:Nat):SEnv:=(SEnv.base tab cuts ccut bcut unr ety).addCal 84 (c84 N)
theorem ok0 (N:Nat):EnvOK tab (E0 N):=(base_ok tab cuts ccut bcut unr ety).addCal (ok84 N)
def T0_23:Tmpl:=⟨[(1,.c (.int .i64)),(5,.c (.ptr 0 5 0 0 0)),(6,.c (.int .i64))],[],[(0,5,.box 0 [.int .u8,.int .i64,.int .i64,.sl TField .d])],1,[],1,[(.int .i64),(.int .i64),(.int .u8),(.int .i64),(.int .i64),(.sl TField)]⟩
def O0_23:Outs:=[(.ret,⟨[(4,.c (.bool))],[],[],1,[],0,[.bool]⟩),(.exit 1,⟨[(5,.c (.ptr 0 5 0 0 0))],[],[(0,5,.box 0 [.int .u8,.int .i64,.int .i64,.sl TField .d])],1,[],1,[(.int .u8),(.int .i64),(.int .i64),(.sl TField)]⟩)]
def L0_23 (N:Nat) (k:Nat) (x:(Int)×(Int)×(Int)×(Int)×(Int)×List (Field)):Option ((Bool)⊕((Int)×(Int)×(Int)×List (Field))):=loopF (loopStep (E0 N) fuelW 0 23 (bodyAt t80 23) T0_23 O0_23) k x
theorem L0_23_succ (N:Nat) (k:Nat) (v7:Int) (v8:Int) (v9:Int) (v10:Int) (v11:Int) (v12:List (Field)):L0_23 N (k+1) (v7,v8,v9,v10,v11,v12) =
 (bif (decide (v8<(v12.length:Int)))
 then (Option.bind ((Option.bind (idx v12 v8) fun x13=>
 (bif (decide (x13.2<(0:Int)))
 then some true
 else (Option.bind (idx v12 v8) fun x14=>
 some (decide (x14.2≥v7)))))) fun b15=>
 (bif b15
 then some (Sum.inl false)
 else L0_23 N k (v7,(wi64 (v8+(1:Int))),v9,v10,v11,v12)))
 else some (Sum.inr (v9,v10,v11,v12))):=by kernel_rfl
def E1 (N:Nat):SEnv:=(E0 N).addLoop N 0 23 T0_23 O0_23
theorem ok1 (N:Nat):EnvOK tab (E1 N):=(ok0 N).addLoop N 0 23 T0_23 O0_23
end f80
def F80 (N:Nat) (x:(List (GType))×Int):Option (Bool):=fnRun (f80.E1 N) fuelW 80 f80.args f80.ta f80.res f80.tr 0 x
open f80 in
theorem F80_eq (N:Nat) (p0:List (GType)) (p1:Int):F80 N (p0,p1) =
 (Option.bind (idx p0 p1) fun x0=>
 (Option.bind ((bif (x0.1==(1:Int))
 then some true
 else (Option.bind ((bif (x0.1==(2:Int))
 then some true
 else some (x0.1==(3:Int)))) fun b1=>
 some b1))) fun b2=>
 (bif b2
 then (Option.bind ((bif (x0.2.1==(0:Int))
 then (bif (x0.2.2.1==(0:Int))
 then some ((x0.2.2.2.length:Int)==(0:Int))
 else some false)
 else some false)) fun b3=>
 some b3)
 else (Option.bind ((bif (x0.1==(4:Int))
 then some true
 else some (x0.1==(7:Int)))) fun b4=>
 (bif b4
 then (Option.bind ((bif (decide (x0.2.1≥(0:Int)))
 then (bif (decide (x0.2.1<(p0.length:Int)))
 then (bif (x0.2.2.1==(0:Int))
 then some ((x0.2.2.2.length:Int)==(0:Int))
 else some false)
 else some false)
 else some false)) fun b5=>
 some b5)
 else (bif (x0.1==(6:Int))
 then (Option.bind ((bif (decide (x0.2.1≥(0:Int)))
 then (bif (decide (x0.2.1<p1))
 then (bif (decide (x0.2.2.1≥(1:Int)))
 then (bif (decide (x0.2.2.1≤(16:Int)))
 then some ((x0.2.2.2.length:Int)==(0:Int))
 else some false)
 else some false)
 else some false)
 else some false)) fun b6=>
 some b6)
 else (bif (x0.1==(5:Int))
 then (Option.bind (L0_23 N N (p1,(0:Int),x0.1,x0.2.1,x0.2.2.1,x0.2.2.2)) fun y16=>
 (match y16 with
 |.inl a17=>some a17
 |.inr b18=>(Option.bind ((bif (b18.2.1==(0:Int))
 then (bif (b18.2.2.1==(0:Int))
 then (bif (decide ((b18.2.2.2.length:Int)>(0:Int)))
 then (Option.bind (F84 N (b18.2.2.2,(8:Int))) fun y19=>
 some y19)
 else some false)
 else some false)
 else some false)) fun b20=>
 some b20)))
 else some false))))))):=by kernel_rfl
def c80 (N:Nat):Sym.Callee:=⟨f80.args,f80.ta,f80.res,f80.tr,0,F80 N⟩
theorem ok80 (N:Nat):CalOK tab 80 (c80 N):=fn_ok (f80.ok1 N) fuelW 80 f80.args f80.ta f80.res f80.tr 0
namespace f100
def ety:Nat→Nat→Option Ty:=fun c d=>match c,d with
 |0,11=>some (.int .i64)
 |0,27=>some (.int .i64)
 |_,_=>none
def args:List PSh:=[.agg [.int .u8,.int .i64,.int .i64,.sl TField .bor]]
def ta:List Ty:=[(.int .u8),(.int .i64),(.int .i64),(.sl TField)]
def res:List (Bool×List CSh):=[(false,[.sl (.int .i64) .d])]
def tr:List Ty:=[(.sl (.int .i64))]
def E0 (N:Nat):SEnv:=SEnv.base tab cuts ccut bcut unr ety
theorem ok0 (N:Nat):EnvOK tab (E0 N):=base_ok tab cuts ccut bcut unr ety
def T0_7:Tmpl:=⟨[(1,.c (.ptr 0 1 0 0 0)),(3,.c (.sl (.int .i64) (.app 1))),(4,.c (.int .i64))],[],[(0,1,.box 0 [.int .u8,.int .i64,.int .i64,.sl TField .bor])],1,[1],2,[(.sl (.int .i64)),(.int .i64),(.int .u8),(.int .i64),(.int .i64),(.sl TField)]⟩
def O0_7:Outs:=[(.exit 0,⟨[(3,.c (.sl (.int .i64) (.app 0)))],[],[],1,[0],1,[(.sl (.int .i64))]⟩)]
def L0_7 (N:Nat) (k:Nat) (x:(List (Int))×(Int)×(Int)×(Int)×(Int)×List (Field)):Option ((List (Int))):=loopF (loopStep (E0 N) fuelW 0 7 (bodyAt t100 7) T0_7 O0_7) k x
theorem L0_7_succ (N:Nat) (k:Nat) (v0:List (Int)) (v1:Int) (v2:Int) (v3:Int) (v4:Int) (v5:List (Field)):L0_7 N (k+1) (v0,v1,v2,v3,v4,v5) =
 (bif (decide (v1<(v5.length:Int)))
 then (Option.bind (idx v5 v1) fun x6=>
 (chk (room (v0.length+1) 8)
 (L0_7 N k ((v0++[x6.2]),(wi64 (v1+(1:Int))),v2,v3,v4,v5))))
 else some v0):=by kernel_rfl
def E1 (N:Nat):SEnv:=(E0 N).addLoop N 0 7 T0_7 O0_7
theorem ok1 (N:Nat):EnvOK tab (E1 N):=(ok0 N).addLoop N 0 7 T0_7 O0_7
end f100
def F100 (N:Nat) (x:(Int)×(Int)×(Int)×List (Field)):Option (List (Int)):=fnRun (f100.E1 N) fuelW 100 f100.args f100.ta f100.res f100.tr 0 x
open f100 in
theorem F100_eq (N:Nat) (p0:Int) (p1:Int) (p2:Int) (p3:List (Field)):F100 N (p0,p1,p2,p3) =
 (bif (p0==(6:Int))
 then (chk (room 1 8)
 ((Option.bind (L0_7 N N ([p1],(0:Int),p0,p1,p2,p3)) fun y7=>
 some y7)))
 else (Option.bind (L0_7 N N ([],(0:Int),p0,p1,p2,p3)) fun y8=>
 some y8)):=by kernel_rfl
def c100 (N:Nat):Sym.Callee:=⟨f100.args,f100.ta,f100.res,f100.tr,0,F100 N⟩
theorem ok100 (N:Nat):CalOK tab 100 (c100 N):=fn_ok (f100.ok1 N) fuelW 100 f100.args f100.ta f100.res f100.tr 0
namespace f81
def bcut:Nat→Nat→Option (Nat×Ty):=fun c i=>match c,i with
 |0,21=>some (11,(.int .i64))
 |0,25=>some (67,.bool)
 |0,26=>some (8,(.int .i64))
 |0,28=>some (88,.bool)
 |0,29=>some (8,(.int .i64))
 |_,_=>none
def ety:Nat→Nat→Option Ty:=fun c d=>match c,d with
 |0,103=>some (.int .i64)
 |_,_=>none
def args:List PSh:=[.c (.sl TGType .bor),.c (.int .i64)]
def ta:List Ty:=[(.sl TGType),(.int .i64)]
def res:List (Bool×List CSh):=[(false,[.sl (.int .i64) .d])]
def tr:List Ty:=[(.sl (.int .i64))]
def E0 (N:Nat) (R:((List (GType))×Int)→Option (List (Int))):SEnv:=((SEnv.base tab cuts ccut bcut unr ety).addCal 100 (c100 N)).addCal 81 ⟨args,ta,res,tr,0,R⟩
theorem ok0 (N:Nat) (R:((List (GType))×Int)→Option (List (Int))) (hR:CalOK tab 81 ⟨args,ta,res,tr,0,R⟩):EnvOK tab (E0 N R):=((base_ok tab cuts ccut bcut unr ety).addCal (ok100 N)).addCal hR
def T0_15:Tmpl:=⟨[(0,.c (.sl TGType .bor)),(1,.c (.int .i64)),(5,.c (.sl (.int .i64) .d)),(6,.c (.sl (.int .i64) (.app 0))),(7,.c (.int .i64)),(8,.c (.int .i64)),(9,.c (.sl (.int .i64) .d)),(10,.c (.int .i64))],[],[],1,[0],1,[(.sl TGType),(.int .i64),(.sl (.int .i64)),(.sl (.int .i64)),(.int .i64),(.int .i64),(.sl (.int .i64)),(.int .i64)]⟩
def O0_15:Outs:=[(.exit 2,⟨[(0,.c (.sl TGType .bor)),(1,.c (.int .i64)),(5,.c (.sl (.int .i64) .d)),(6,.c (.sl (.int .i64) (.app 0))),(7,.c (.int .i64)),(8,.c (.int .i64))],[],[],1,[0],1,[(.sl TGType),(.int .i64),(.sl (.int .i64)),(.sl (.int .i64)),(.int .i64),(.int .i64)]⟩)]
def L0_15 (N:Nat) (R:((List (GType))×Int)→Option (List (Int))) (k:Nat) (x:(List (GType))×(Int)×(List (Int))×(List (Int))×(Int)×(Int)×(List (Int))×Int):Option (((List (GType))×(Int)×(List (Int))×(List (Int))×(Int)×Int)):=loopF (loopStep (E0 N R) fuelW 0 15 (bodyAt t81 15) T0_15 O0_15) k x
theorem L0_15_succ (N:Nat) (R:((List (GType))×Int)→Option (List (Int))) (k:Nat) (v8:List (GType)) (v9:Int) (v10:List (Int)) (v11:List (Int)) (v12:Int) (v13:Int) (v14:List (Int)) (v15:Int):L0_15 N R (k+1) (v8,v9,v10,v11,v12,v13,v14,v15) =
 (bif (decide (v15<(v14.length:Int)))
 then (Option.bind (idx v8 v12) fun x16=>
 (Option.bind ((bif (x16.1==(6:Int))
 then (Option.bind (idx v8 v12) fun x17=>
 some x17.2.2.1)
 else some (1:Int))) fun b18=>
 (Option.bind (idx v14 v15) fun x19=>
 (Option.bind (idx v11 x19) fun x20=>
 L0_15 N R k (v8,v9,v10,v11,v12,(min (wi64 (v13+(wi64 (b18*x20)))) (5001:Int)),v14,(wi64 (v15+(1:Int))))))))
 else some (v8,v9,v10,v11,v12,v13)):=by kernel_rfl
def E1 (N:Nat) (R:((List (GType))×Int)→Option (List (Int))):SEnv:=(E0 N R).addLoop N 0 15 T0_15 O0_15
theorem ok1 (N:Nat) (R:((List (GType))×Int)→Option (List (Int))) (hR:CalOK tab 81 ⟨args,ta,res,tr,0,R⟩):EnvOK tab (E1 N R):=(ok0 N R hR).addLoop N 0 15 T0_15 O0_15
def T0_8:Tmpl:=⟨[(0,.c (.sl TGType .bor)),(1,.c (.int .i64)),(5,.c (.sl (.int .i64) .d)),(6,.c (.sl (.int .i64) (.app 0))),(7,.c (.int .i64))],[],[],1,[0],1,[(.sl TGType),(.int .i64),(.sl (.int .i64)),(.sl (.int .i64)),(.int .i64)]⟩
def O0_8:Outs:=[(.exit 0,⟨[(6,.c (.sl (.int .i64) (.app 0)))],[],[],1,[0],1,[(.sl (.int .i64))]⟩)]
def L0_8 (N:Nat) (R:((List (GType))×Int)→Option (List (Int))) (k:Nat) (x:(List (GType))×(Int)×(List (Int))×(List (Int))×Int):Option ((List (Int))):=loopF (loopStep (E1 N R) fuelW 0 8 (bodyAt t81 8) T0_8 O0_8) k x
theorem L0_8_succ (N:Nat) (R:((List (GType))×Int)→Option (List (Int))) (k:Nat) (v1:List (GType)) (v2:Int) (v3:List (Int)) (v4:List (Int)) (v5:Int):L0_8 N R (k+1) (v1,v2,v3,v4,v5) =
 (bif (decide (v5<(v1.length:Int)))
 then (Option.bind (idx v1 v5) fun x6=>
 (Option.bind (F100 N (x6.1,x6.2.1,x6.2.2.1,x6.2.2.2)) fun y7=>
 (Option.bind (L0_15 N R N (v1,v2,v3,v4,v5,(1:Int),y7,(0:Int))) fun y21=>
 (Option.bind ((bif (decide (y21.2.1>(0:Int)))
 then (Option.bind (idx y21.1 y21.2.2.2.2.1) fun x22=>
 some (x22.1==(4:Int)))
 else some false)) fun b23=>
 (Option.bind ((bif b23
 then (Option.bind (idx y21.1 y21.2.2.2.2.1) fun x24=>
 (Option.bind (idx y21.2.2.1 x24.2.1) fun x25=>
 some (min (wi64 (y21.2.2.2.2.2+x25)) (5001:Int))))
 else some y21.2.2.2.2.2)) fun b26=>
 (Option.bind ((bif (decide (y21.2.1>(0:Int)))
 then (Option.bind (idx y21.1 y21.2.2.2.2.1) fun x27=>
 some (x27.1==(7:Int)))
 else some false)) fun b28=>
 (Option.bind ((bif b28
 then (Option.bind (idx y21.1 y21.2.2.2.2.1) fun x29=>
 (Option.bind (idx y21.2.2.1 x29.2.1) fun x30=>
 some (min (wi64 (b26+(wi64 ((16:Int)*x30)))) (5001:Int))))
 else some b26)) fun b31=>
 (chk (room (y21.2.2.2.1.length+1) 8)
 (L0_8 N R k (y21.1,y21.2.1,y21.2.2.1,(y21.2.2.2.1++[b31]),(wi64 (y21.2.2.2.2.1+(1:Int)))))))))))))
 else some v4):=by kernel_rfl
def E2 (N:Nat) (R:((List (GType))×Int)→Option (List (Int))):SEnv:=(E1 N R).addLoop N 0 8 T0_8 O0_8
theorem ok2 (N:Nat) (R:((List (GType))×Int)→Option (List (Int))) (hR:CalOK tab 81 ⟨args,ta,res,tr,0,R⟩):EnvOK tab (E2 N R):=(ok1 N R hR).addLoop N 0 8 T0_8 O0_8
end f81
def F81 (N:Nat) (x:(List (GType))×Int):Option (List (Int)):=fixF (fun N R x=>fnRun (f81.E2 N R) fuelW 81 f81.args f81.ta f81.res f81.tr 0 x) N x
open f81 in
theorem F81_eq (N:Nat) (p0:List (GType)) (p1:Int):F81 (N+1) (p0,p1) =
 (bif (decide (p1>(0:Int)))
 then (Option.bind (F81 N (p0,(wi64 (p1-(1:Int))))) fun y0=>
 (Option.bind (L0_8 N (F81 N) N (p0,p1,y0,[],(0:Int))) fun y32=>
 some y32))
 else (Option.bind (L0_8 N (F81 N) N (p0,p1,[],[],(0:Int))) fun y33=>
 some y33)):=by kernel_rfl
def c81 (N:Nat):Sym.Callee:=⟨f81.args,f81.ta,f81.res,f81.tr,0,F81 N⟩
theorem ok81:∀ N:Nat,CalOK tab 81 (c81 N)
 |0=>calOK_zero fun _=>rfl
 |N+1=>fn_ok (f81.ok2 N (F81 N) (ok81 N)) fuelW 81 f81.args f81.ta f81.res f81.tr 0
namespace f57
def args:List PSh:=[.c (.sl TGType .bor)]
def ta:List Ty:=[(.sl TGType)]
def res:List (Bool×List CSh):=[(false,[.int .i64])]
def tr:List Ty:=[(.int .i64)]
def E0 (N:Nat):SEnv:=((SEnv.base tab cuts ccut bcut unr ety).addCal 80 (c80 N)).addCal 81 (c81 N)
theorem ok0 (N:Nat):EnvOK tab (E0 N):=((base_ok tab cuts ccut bcut unr ety).addCal (ok80 N)).addCal (ok81 N)
def T0_6:Tmpl:=⟨[(0,.c (.sl TGType .bor)),(3,.c (.int .i64))],[],[],1,[],0,[(.sl TGType),(.int .i64)]⟩
def O0_6:Outs:=[(.ret,⟨[(2,.c (.int .i64))],[],[],1,[],0,[(.int .i64)]⟩),(.exit 0,⟨[(0,.c (.sl TGType .bor))],[],[],1,[],0,[(.sl TGType)]⟩)]
def L0_6 (N:Nat) (k:Nat) (x:(List (GType))×Int):Option ((Int)⊕(List (GType))):=loopF (loopStep (E0 N) fuelW 0 6 (bodyAt t57 6) T0_6 O0_6) k x
theorem L0_6_succ (N:Nat) (k:Nat) (v0:List (GType)) (v1:Int):L0_6 N (k+1) (v0,v1) =
 (bif (decide (v1<(v0.length:Int)))
 then (Option.bind (F80 N (v0,v1)) fun y2=>
 (bif (!y2)
 then some (Sum.inl (8:Int))
 else L0_6 N k (v0,(wi64 (v1+(1:Int))))))
 else some (Sum.inr v0)):=by kernel_rfl
def E1 (N:Nat):SEnv:=(E0 N).addLoop N 0 6 T0_6 O0_6
theorem ok1 (N:Nat):EnvOK tab (E1 N):=(ok0 N).addLoop N 0 6 T0_6 O0_6
def T0_17:Tmpl:=⟨[(0,.c (.sl TGType .bor)),(4,.c (.sl (.int .i64) .d)),(5,.c (.int .i64))],[],[],1,[],0,[(.sl TGType),(.sl (.int .i64)),(.int .i64)]⟩
def O0_17:Outs:=[(.ret,⟨[(2,.c (.int .i64))],[],[],1,[],0,[(.int .i64)]⟩),(.exit 2,⟨[],[],[],1,[],0,[]⟩)]
def L0_17 (N:Nat) (k:Nat) (x:(List (GType))×(List (Int))×Int):Option ((Int)⊕(Unit)):=loopF (loopStep (E1 N) fuelW 0 17 (bodyAt t57 17) T0_17 O0_17) k x
theorem L0_17_succ (N:Nat) (k:Nat) (v7:List (GType)) (v8:List (Int)) (v9:Int):L0_17 N (k+1) (v7,v8,v9) =
 (bif (decide (v9<(v7.length:Int)))
 then (Option.bind (idx v8 v9) fun x10=>
 (bif (decide (x10>(5000:Int)))
 then some (Sum.inl (8:Int))
 else L0_17 N k (v7,v8,(wi64 (v9+(1:Int))))))
 else some (Sum.inr ())):=by kernel_rfl
def E2 (N:Nat):SEnv:=(E1 N).addLoop N 0 17 T0_17 O0_17
theorem ok2 (N:Nat):EnvOK tab (E2 N):=(ok1 N).addLoop N 0 17 T0_17 O0_17
end f57
def F57 (N:Nat) (x:List (GType)):Option (Int):=fnRun (f57.E2 N) fuelW 57 f57.args f57.ta f57.res f57.tr 0 x
open f57 in
theorem F57_eq (N:Nat) (p0:List (GType)):F57 N p0 =
 (bif (decide ((p0.length:Int)>(32:Int)))
 then some (8:Int)
 else (Option.bind (L0_6 N N (p0,(0:Int))) fun y3=>
 (match y3 with
 |.inl a4=>some a4
 |.inr b5=>(Option.bind (F81 N (b5,(3:Int))) fun y6=>
 (Option.bind (L0_17 N N (b5,y6,(0:Int))) fun y11=>
 (match y11 with
 |.inl a12=>some a12
 |.inr b13=>some (0:Int))))))):=by kernel_rfl
def c57 (N:Nat):Sym.Callee:=⟨f57.args,f57.ta,f57.res,f57.tr,0,F57 N⟩
theorem ok57 (N:Nat):CalOK tab 57 (c57 N):=fn_ok (f57.ok2 N) fuelW 57 f57.args f57.ta f57.res f57.tr 0
namespace f48
def args:List PSh:=[.c (.int .i64),.c (.int .i64)]
def ta:List Ty:=[(.int .i64),(.int .i64)]
def res:List (Bool×List CSh):=[(false,[.int .i64])]
def tr:List Ty:=[(.int .i64)]
def E0 (N:Nat):SEnv:=SEnv.base tab cuts ccut bcut unr ety
theorem ok0 (N:Nat):EnvOK tab (E0 N):=base_ok tab cuts ccut bcut unr ety
end f48
def F48 (N:Nat) (x:(Int)×Int):Option (Int):=fnRun (f48.E0 N) fuelW 48 f48.args f48.ta f48.res f48.tr 0 x
open f48 in
theorem F48_eq (N:Nat) (p0:Int) (p1:Int):F48 N (p0,p1) =
 (chk (!decide (p1=0))
 (some (wi64 ((wi64 (Int.tdiv (wi64 ((wi64 (p0+p1))-(1:Int))) p1))*p1)))):=by kernel_rfl
def c48 (N:Nat):Sym.Callee:=⟨f48.args,f48.ta,f48.res,f48.tr,0,F48 N⟩
theorem ok48 (N:Nat):CalOK tab 48 (c48 N):=fn_ok (f48.ok0 N) fuelW 48 f48.args f48.ta f48.res f48.tr 0
namespace f82
def ety:Nat→Nat→Option Ty:=fun c d=>match c,d with
 |0,34=>some (.int .i64)
 |_,_=>none
def args:List PSh:=[.c (.sl (.int .i64) .bor),.c (.sl (.int .i64) .bor),.c (.sl TField .bor)]
def ta:List Ty:=[(.sl (.int .i64)),(.sl (.int .i64)),(.sl TField)]
def res:List (Bool×List CSh):=[(false,[.sl (.int .i64) .d]),(false,[.int .i64]),(false,[.int .i64])]
def tr:List Ty:=[(.sl (.int .i64)),(.int .i64),(.int .i64)]
def E0 (N:Nat):SEnv:=(SEnv.base tab cuts ccut bcut unr ety).addCal 48 (c48 N)
theorem ok0 (N:Nat):EnvOK tab (E0 N):=(base_ok tab cuts ccut bcut unr ety).addCal (ok48 N)
def T0_5:Tmpl:=⟨[(0,.c (.sl (.int .i64) .bor)),(1,.c (.sl (.int .i64) .bor)),(2,.c (.sl TField .bor)),(9,.c (.sl (.int .i64) (.app 0))),(10,.c (.int .i64)),(11,.c (.int .i64)),(12,.c (.int .i64))],[],[],1,[0],1,[(.sl (.int .i64)),(.sl (.int .i64)),(.sl TField),(.sl (.int .i64)),(.int .i64),(.int .i64),(.int .i64)]⟩
def O0_5:Outs:=[(.exit 0,⟨[(9,.c (.sl (.int .i64) (.app 0))),(10,.c (.int .i64)),(11,.c (.int .i64))],[],[],1,[0],1,[(.sl (.int .i64)),(.int .i64),(.int .i64)]⟩)]
def L0_5 (N:Nat) (k:Nat) (x:(List (Int))×(List (Int))×(List (Field))×(List (Int))×(Int)×(Int)×Int):Option (((List (Int))×(Int)×Int)):=loopF (loopStep (E0 N) fuelW 0 5 (bodyAt t82 5) T0_5 O0_5) k x
theorem L0_5_succ (N:Nat) (k:Nat) (v0:List (Int)) (v1:List (Int)) (v2:List (Field)) (v3:List (Int)) (v4:Int) (v5:Int) (v6:Int):L0_5 N (k+1) (v0,v1,v2,v3,v4,v5,v6) =
 (bif (decide (v6<(v2.length:Int)))
 then (Option.bind (idx v2 v6) fun x7=>
 (Option.bind (idx v1 x7.2) fun x8=>
 (Option.bind (F48 N (v4,x8)) fun y9=>
 (chk (room (v3.length+1) 8)
 ((Option.bind (idx v0 x7.2) fun x10=>
 (Option.bind (idx v1 x7.2) fun x11=>
 L0_5 N k (v0,v1,v2,(v3++[y9]),(min (1000000:Int) (wi64 (y9+x10))),(max v5 x11),(wi64 (v6+(1:Int)))))))))))
 else some (v3,v4,v5)):=by kernel_rfl
def E1 (N:Nat):SEnv:=(E0 N).addLoop N 0 5 T0_5 O0_5
theorem ok1 (N:Nat):EnvOK tab (E1 N):=(ok0 N).addLoop N 0 5 T0_5 O0_5
end f82
def F82 (N:Nat) (x:(List (Int))×(List (Int))×List (Field)):Option ((List (Int))×(Int)×Int):=fnRun (f82.E1 N) fuelW 82 f82.args f82.ta f82.res f82.tr 0 x
open f82 in
theorem F82_eq (N:Nat) (p0:List (Int)) (p1:List (Int)) (p2:List (Field)):F82 N (p0,p1,p2) =
 (Option.bind (L0_5 N N (p0,p1,p2,[],(0:Int),(1:Int),(0:Int))) fun y12=>
 (Option.bind (F48 N (y12.2.1,y12.2.2)) fun y13=>
 some (y12.1,(min (1000000:Int) y13),y12.2.2))):=by kernel_rfl
def c82 (N:Nat):Sym.Callee:=⟨f82.args,f82.ta,f82.res,f82.tr,0,F82 N⟩
theorem ok82 (N:Nat):CalOK tab 82 (c82 N):=fn_ok (f82.ok1 N) fuelW 82 f82.args f82.ta f82.res f82.tr 0
namespace f58
def ety:Nat→Nat→Option Ty:=fun c d=>match c,d with
 |0,67=>some (.int .i64)
 |0,71=>some (.int .i64)
 |_,_=>none
def args:List PSh:=[.c (.sl TGType .bor)]
def ta:List Ty:=[(.sl TGType)]
def res:List (Bool×List CSh):=[(false,[.sl (.int .i64) .d]),(false,[.sl (.int .i64) .d])]
def tr:List Ty:=[(.sl (.int .i64)),(.sl (.int .i64))]
def E0 (N:Nat):SEnv:=(SEnv.base tab cuts ccut bcut unr ety).addCal 82 (c82 N)
theorem ok0 (N:Nat):EnvOK tab (E0 N):=(base_ok tab cuts ccut bcut unr ety).addCal (ok82 N)
def T0_4:Tmpl:=⟨[(0,.c (.sl TGType .bor)),(4,.c (.sl (.int .i64) (.app 0))),(5,.c (.sl (.int .i64) (.app 1))),(6,.c (.int .i64))],[],[],1,[0,1],2,[(.sl TGType),(.sl (.int .i64)),(.sl (.int .i64)),(.int .i64)]⟩
def O0_4:Outs:=[(.exit 0,⟨[(4,.c (.sl (.int .i64) (.app 0))),(5,.c (.sl (.int .i64) (.app 1)))],[],[],1,[0,1],2,[(.sl (.int .i64)),(.sl (.int .i64))]⟩)]
def L0_4 (N:Nat) (k:Nat) (x:(List (GType))×(List (Int))×(List (Int))×Int):Option (((List (Int))×List (Int))):=loopF (loopStep (E0 N) fuelW 0 4 (bodyAt t58 4) T0_4 O0_4) k x
theorem L0_4_succ (N:Nat) (k:Nat) (v0:List (GType)) (v1:List (Int)) (v2:List (Int)) (v3:Int):L0_4 N (k+1) (v0,v1,v2,v3) =
 (bif (decide (v3<(v0.length:Int)))
 then (Option.bind (idx v0 v3) fun x4=>
 (bif (x4.1==(1:Int))
 then (chk (room (v1.length+1) 8)
 ((chk (room (v2.length+1) 8)
 (L0_4 N k (v0,(v1++[(1:Int)]),(v2++[(1:Int)]),(wi64 (v3+(1:Int))))))))
 else (bif (x4.1==(3:Int))
 then (chk (room (v1.length+1) 8)
 ((chk (room (v2.length+1) 8)
 (L0_4 N k (v0,(v1++[(16:Int)]),(v2++[(8:Int)]),(wi64 (v3+(1:Int))))))))
 else (bif (x4.1==(7:Int))
 then (chk (room (v1.length+1) 8)
 ((chk (room (v2.length+1) 8)
 (L0_4 N k (v0,(v1++[(24:Int)]),(v2++[(8:Int)]),(wi64 (v3+(1:Int))))))))
 else (bif (x4.1==(6:Int))
 then (Option.bind (idx v0 v3) fun x5=>
 (Option.bind (idx v0 v3) fun x6=>
 (Option.bind (idx v1 x6.2.1) fun x7=>
 (Option.bind (idx v0 v3) fun x8=>
 (Option.bind (idx v2 x8.2.1) fun x9=>
 (chk (room (v1.length+1) 8)
 ((chk (room (v2.length+1) 8)
 (L0_4 N k (v0,(v1++[(min (1000000:Int) (wi64 (x5.2.2.1*x7)))]),(v2++[x9]),(wi64 (v3+(1:Int)))))))))))))
 else (bif (x4.1==(5:Int))
 then (Option.bind (idx v0 v3) fun x10=>
 (Option.bind (F82 N (v1,v2,x10.2.2.2)) fun y11=>
 (chk (room (v1.length+1) 8)
 ((chk (room (v2.length+1) 8)
 (L0_4 N k (v0,(v1++[y11.2.1]),(v2++[y11.2.2]),(wi64 (v3+(1:Int))))))))))
 else (chk (room (v1.length+1) 8)
 ((chk (room (v2.length+1) 8)
 (L0_4 N k (v0,(v1++[(8:Int)]),(v2++[(8:Int)]),(wi64 (v3+(1:Int))))))))))))))
 else some (v1,v2)):=by kernel_rfl
def E1 (N:Nat):SEnv:=(E0 N).addLoop N 0 4 T0_4 O0_4
theorem ok1 (N:Nat):EnvOK tab (E1 N):=(ok0 N).addLoop N 0 4 T0_4 O0_4
end f58
def F58 (N:Nat) (x:List (GType)):Option ((List (Int))×List (Int)):=fnRun (f58.E1 N) fuelW 58 f58.args f58.ta f58.res f58.tr 0 x
open f58 in
theorem F58_eq (N:Nat) (p0:List (GType)):F58 N p0 =
 (Option.bind (L0_4 N N (p0,[],[],(0:Int))) fun y12=>
 some (y12.1,y12.2)):=by kernel_rfl
def c58 (N:Nat):Sym.Callee:=⟨f58.args,f58.ta,f58.res,f58.tr,0,F58 N⟩
theorem ok58 (N:Nat):CalOK tab 58 (c58 N):=fn_ok (f58.ok1 N) fuelW 58 f58.args f58.ta f58.res f58.tr 0
namespace f87
def bcut:Nat→Nat→Option (Nat×Ty):=fun c i=>match c,i with
 |0,13=>some (10,.bool)
 |0,24=>some (13,.bool)
 |0,22=>some (13,.bool)
 |0,20=>some (13,.bool)
 |0,18=>some (13,.bool)
 |0,39=>some (19,.bool)
 |0,37=>some (19,.bool)
 |0,35=>some (19,.bool)
 |0,33=>some (19,.bool)
 |0,31=>some (19,.bool)
 |0,29=>some (19,.bool)
 |0,64=>some (39,.bool)
 |0,62=>some (39,.bool)
 |0,72=>some (45,.bool)
 |0,80=>some (50,.bool)
 |_,_=>none
def args:List PSh:=[.c (.int .u8)]
def ta:List Ty:=[(.int .u8)]
def res:List (Bool×List CSh):=[(false,[.str])]
def tr:List Ty:=[.str]
def E0 (N:Nat):SEnv:=SEnv.base tab cuts ccut bcut unr ety
theorem ok0 (N:Nat):EnvOK tab (E0 N):=base_ok tab cuts ccut bcut unr ety
end f87
def F87 (N:Nat) (x:Int):Option (List UInt8):=fnRun (f87.E0 N) fuelW 87 f87.args f87.ta f87.res f87.tr 0 x
open f87 in
theorem F87_eq (N:Nat) (p0:Int):F87 N p0 =
 (bif (p0==(1:Int))
 then some [119,110,45]
 else (bif (p0==(2:Int))
 then some [119,116,45]
 else (bif (p0==(3:Int))
 then some [119,98,45]
 else (Option.bind ((bif (p0==(4:Int))
 then some true
 else some (p0==(15:Int)))) fun b0=>
 (bif b0
 then some [119,45,45]
 else (Option.bind ((bif (p0==(5:Int))
 then some true
 else (Option.bind ((bif (p0==(12:Int))
 then some true
 else (Option.bind ((bif (p0==(16:Int))
 then some true
 else (Option.bind ((bif (p0==(18:Int))
 then some true
 else some (p0==(21:Int)))) fun b1=>
 some b1))) fun b2=>
 some b2))) fun b3=>
 some b3))) fun b4=>
 (bif b4
 then some [119,114,45]
 else (Option.bind ((bif (p0==(6:Int))
 then some true
 else (Option.bind ((bif (p0==(7:Int))
 then some true
 else (Option.bind ((bif (p0==(8:Int))
 then some true
 else (Option.bind ((bif (p0==(9:Int))
 then some true
 else (Option.bind ((bif (p0==(10:Int))
 then some true
 else (Option.bind ((bif (p0==(11:Int))
 then some true
 else some (p0==(19:Int)))) fun b5=>
 some b5))) fun b6=>
 some b6))) fun b7=>
 some b7))) fun b8=>
 some b8))) fun b9=>
 some b9))) fun b10=>
 (bif b10
 then some [119,114,114]
 else (bif (p0==(13:Int))
 then some [119,114,102]
 else (bif (p0==(14:Int))
 then some [114,102,114]
 else (bif (p0==(17:Int))
 then some [114,114,45]
 else (bif (p0==(20:Int))
 then some [114,114,114]
 else (bif (p0==(22:Int))
 then some [105,45,45]
 else (bif (p0==(23:Int))
 then some [114,105,45]
 else (Option.bind ((bif (p0==(24:Int))
 then some true
 else (Option.bind ((bif (p0==(28:Int))
 then some true
 else some (p0==(32:Int)))) fun b11=>
 some b11))) fun b12=>
 (bif b12
 then some [114,45,45]
 else (bif (p0==(25:Int))
 then some [103,99,45]
 else (Option.bind ((bif (p0==(26:Int))
 then some true
 else some (p0==(27:Int)))) fun b13=>
 (bif b13
 then some [99,45,45]
 else (bif (p0==(29:Int))
 then some [119,119,45]
 else (Option.bind ((bif (p0==(30:Int))
 then some true
 else some (p0==(31:Int)))) fun b14=>
 (bif b14
 then some [45,45,45]
 else (bif (p0==(33:Int))
 then some [119,114,45]
 else (bif (p0==(34:Int))
 then some [101,45,45]
 else some ([]:List UInt8)))))))))))))))))))))))))):=by kernel_rfl
def c87 (N:Nat):Sym.Callee:=⟨f87.args,f87.ta,f87.res,f87.tr,0,F87 N⟩
theorem ok87 (N:Nat):CalOK tab 87 (c87 N):=fn_ok (f87.ok0 N) fuelW 87 f87.args f87.ta f87.res f87.tr 0
namespace f88
def args:List PSh:=[.agg [.int .u8,.int .i64,.int .i64,.int .i64]]
def ta:List Ty:=[(.int .u8),(.int .i64),(.int .i64),(.int .i64)]
def res:List (Bool×List CSh):=[(true,[.int .i64,.int .i64,.int .i64])]
def tr:List Ty:=[(.int .i64),(.int .i64),(.int .i64)]
def E0 (N:Nat):SEnv:=SEnv.base tab cuts ccut bcut unr ety
theorem ok0 (N:Nat):EnvOK tab (E0 N):=base_ok tab cuts ccut bcut unr ety
end f88
def F88 (N:Nat) (x:(Int)×(Int)×(Int)×Int):Option ((Int)×(Int)×Int):=fnRun (f88.E0 N) fuelW 88 f88.args f88.ta f88.res f88.tr 0 x
open f88 in
theorem F88_eq (N:Nat) (p0:Int) (p1:Int) (p2:Int) (p3:Int):F88 N (p0,p1,p2,p3) =
 some (p1,p2,p3):=by kernel_rfl
def c88 (N:Nat):Sym.Callee:=⟨f88.args,f88.ta,f88.res,f88.tr,0,F88 N⟩
theorem ok88 (N:Nat):CalOK tab 88 (c88 N):=fn_ok (f88.ok0 N) fuelW 88 f88.args f88.ta f88.res f88.tr 0
namespace f102
def bcut:Nat→Nat→Option (Nat×Ty):=fun c i=>match c,i with
 |0,7=>some (10,.bool)
 |0,10=>some (4,.bool)
 |0,12=>some (19,.bool)
 |0,15=>some (4,.bool)
 |0,17=>some (28,.bool)
 |0,20=>some (4,.bool)
 |0,23=>some (4,.bool)
 |0,26=>some (4,.bool)
 |0,29=>some (4,.bool)
 |_,_=>none
def args:List PSh:=[.c (.int .u8),.c (.int .i64)]
def ta:List Ty:=[(.int .u8),(.int .i64)]
def res:List (Bool×List CSh):=[(false,[.bool])]
def tr:List Ty:=[.bool]
def E0 (N:Nat):SEnv:=SEnv.base tab cuts ccut bcut unr ety
theorem ok0 (N:Nat):EnvOK tab (E0 N):=base_ok tab cuts ccut bcut unr ety
end f102
def F102 (N:Nat) (x:(Int)×Int):Option (Bool):=fnRun (f102.E0 N) fuelW 102 f102.args f102.ta f102.res f102.tr 0 x
open f102 in
theorem F102_eq (N:Nat) (p0:Int) (p1:Int):F102 N (p0,p1) =
 (bif (p0==(45:Int))
 then some (p1==(0:Int))
 else (Option.bind ((bif (p0==(119:Int))
 then some true
 else some (p0==(114:Int)))) fun b0=>
 (bif b0
 then (Option.bind ((bif (decide (p1≥(0:Int)))
 then some (decide (p1<(16:Int)))
 else some false)) fun b1=>
 some b1)
 else (Option.bind ((bif (p0==(103:Int))
 then some true
 else some (p0==(101:Int)))) fun b2=>
 (bif b2
 then (Option.bind ((bif (decide (p1≥(-1:Int)))
 then some (decide (p1<(16:Int)))
 else some false)) fun b3=>
 some b3)
 else (Option.bind ((bif (p0==(116:Int))
 then some true
 else some (p0==(99:Int)))) fun b4=>
 (bif b4
 then (Option.bind ((bif (decide (p1≥(0:Int)))
 then some (decide (p1<(32:Int)))
 else some false)) fun b5=>
 some b5)
 else (bif (p0==(98:Int))
 then (Option.bind ((bif (decide (p1≥(0:Int)))
 then some (decide (p1<(2:Int)))
 else some false)) fun b6=>
 some b6)
 else (bif (p0==(102:Int))
 then (Option.bind ((bif (decide (p1≥(0:Int)))
 then some (decide (p1<(8:Int)))
 else some false)) fun b7=>
 some b7)
 else (bif (p0==(105:Int))
 then (Option.bind ((bif (decide (p1≥(0:Int)))
 then some (decide (p1<(200:Int)))
 else some false)) fun b8=>
 some b8)
 else some true)))))))))):=by kernel_rfl
def c102 (N:Nat):Sym.Callee:=⟨f102.args,f102.ta,f102.res,f102.tr,0,F102 N⟩
theorem ok102 (N:Nat):CalOK tab 102 (c102 N):=fn_ok (f102.ok0 N) fuelW 102 f102.args f102.ta f102.res f102.tr 0
namespace f85
def bcut:Nat→Nat→Option (Nat×Ty):=fun c i=>match c,i with
 |0,11=>some (25,.bool)
 |0,100011=>some (25,.bool)
 |_,_=>none
def unr:Nat→Nat→Bool:=fun c i=>match c,i with
 |0,7=>true
 |0,100007=>true
 |_,_=>false
def args:List PSh:=[.agg [.int .u8,.int .i64,.int .i64,.int .i64]]
def ta:List Ty:=[(.int .u8),(.int .i64),(.int .i64),(.int .i64)]
def res:List (Bool×List CSh):=[(false,[.int .i64])]
def tr:List Ty:=[(.int .i64)]
def E0 (N:Nat):SEnv:=(((SEnv.base tab cuts ccut bcut unr ety).addCal 87 (c87 N)).addCal 88 (c88 N)).addCal 102 (c102 N)
theorem ok0 (N:Nat):EnvOK tab (E0 N):=(((base_ok tab cuts ccut bcut unr ety).addCal (ok87 N)).addCal (ok88 N)).addCal (ok102 N)
end f85
def F85 (N:Nat) (x:(Int)×(Int)×(Int)×Int):Option (Int):=fnRun (f85.E0 N) fuelW 85 f85.args f85.ta f85.res f85.tr 0 x
open f85 in
theorem F85_eq (N:Nat) (p0:Int) (p1:Int) (p2:Int) (p3:Int):F85 N (p0,p1,p2,p3) =
 (Option.bind (F87 N p0) fun y0=>
 (Option.bind (F88 N (p0,p1,p2,p3)) fun y1=>
 (bif ((y0.length:Int) != (3:Int))
 then some (8:Int)
 else (Option.bind ((Option.bind (idx y0 (0:Int)) fun c2=>
 (Option.bind (F102 N ((c2.toNat:Int),y1.1)) fun y3=>
 some (!y3)))) fun b4=>
 (bif b4
 then some (8:Int)
 else (Option.bind ((Option.bind (idx y0 (1:Int)) fun c5=>
 (Option.bind (F102 N ((c5.toNat:Int),y1.2.1)) fun y6=>
 some (!y6)))) fun b7=>
 (bif b7
 then some (8:Int)
 else (Option.bind ((Option.bind (idx y0 (2:Int)) fun c8=>
 (Option.bind (F102 N ((c8.toNat:Int),y1.2.2)) fun y9=>
 some (!y9)))) fun b10=>
 (bif b10
 then some (8:Int)
 else some (0:Int)))))))))):=by kernel_rfl
def c85 (N:Nat):Sym.Callee:=⟨f85.args,f85.ta,f85.res,f85.tr,0,F85 N⟩
theorem ok85 (N:Nat):CalOK tab 85 (c85 N):=fn_ok (f85.ok0 N) fuelW 85 f85.args f85.ta f85.res f85.tr 0
namespace f86
def bcut:Nat→Nat→Option (Nat×Ty):=fun c i=>match c,i with
 |0,1=>some (15,.bool)
 |0,10=>some (60,.bool)
 |_,_=>none
def args:List PSh:=[.c (.sl TRun .bor),.c (.int .i64)]
def ta:List Ty:=[(.sl TRun),(.int .i64)]
def res:List (Bool×List CSh):=[(false,[.bool])]
def tr:List Ty:=[.bool]
def E0 (N:Nat):SEnv:=SEnv.base tab cuts ccut bcut unr ety
theorem ok0 (N:Nat):EnvOK tab (E0 N):=base_ok tab cuts ccut bcut unr ety
def T0_6:Tmpl:=⟨[(0,.c (.sl TRun .bor)),(1,.c (.int .i64)),(5,.c (.int .i64))],[],[],1,[],0,[(.sl TRun),(.int .i64),(.int .i64)]⟩
def O0_6:Outs:=[(.ret,⟨[(4,.c (.bool))],[],[],1,[],0,[.bool]⟩),(.exit 0,⟨[],[],[],1,[],0,[]⟩)]
def L0_6 (N:Nat) (k:Nat) (x:(List (Run))×(Int)×Int):Option ((Bool)⊕(Unit)):=loopF (loopStep (E0 N) fuelW 0 6 (bodyAt t86 6) T0_6 O0_6) k x
theorem L0_6_succ (N:Nat) (k:Nat) (v2:List (Run)) (v3:Int) (v4:Int):L0_6 N (k+1) (v2,v3,v4) =
 (bif (decide (v4<(v2.length:Int)))
 then (Option.bind ((Option.bind (idx v2 v4) fun x5=>
 (bif (decide (x5.1≥v3))
 then some true
 else (bif (decide (v4>(0:Int)))
 then (Option.bind (idx v2 (wi64 (v4-(1:Int)))) fun x6=>
 (Option.bind (idx v2 v4) fun x7=>
 (bif (decide (x6.1≥x7.1))
 then some true
 else (Option.bind (idx v2 (wi64 (v4-(1:Int)))) fun x8=>
 (Option.bind (idx v2 v4) fun x9=>
 some (x8.2==x9.2))))))
 else some false)))) fun b10=>
 (bif b10
 then some (Sum.inl false)
 else L0_6 N k (v2,v3,(wi64 (v4+(1:Int))))))
 else some (Sum.inr ())):=by kernel_rfl
def E1 (N:Nat):SEnv:=(E0 N).addLoop N 0 6 T0_6 O0_6
theorem ok1 (N:Nat):EnvOK tab (E1 N):=(ok0 N).addLoop N 0 6 T0_6 O0_6
end f86
def F86 (N:Nat) (x:(List (Run))×Int):Option (Bool):=fnRun (f86.E1 N) fuelW 86 f86.args f86.ta f86.res f86.tr 0 x
open f86 in
theorem F86_eq (N:Nat) (p0:List (Run)) (p1:Int):F86 N (p0,p1) =
 (Option.bind ((bif (decide ((p0.length:Int)<(1:Int)))
 then some true
 else (Option.bind (idx p0 (0:Int)) fun x0=>
 some (x0.1 != (0:Int))))) fun b1=>
 (bif b1
 then some false
 else (Option.bind (L0_6 N N (p0,p1,(0:Int))) fun y11=>
 (match y11 with
 |.inl a12=>some a12
 |.inr b13=>some true)))):=by kernel_rfl
def c86 (N:Nat):Sym.Callee:=⟨f86.args,f86.ta,f86.res,f86.tr,0,F86 N⟩
theorem ok86 (N:Nat):CalOK tab 86 (c86 N):=fn_ok (f86.ok1 N) fuelW 86 f86.args f86.ta f86.res f86.tr 0
namespace f59
def bcut:Nat→Nat→Option (Nat×Ty):=fun c i=>match c,i with
 |0,1=>some (53,.bool)
 |0,10=>some (78,.bool)
 |0,24=>some (4,.bool)
 |_,_=>none
def args:List PSh:=[.c (.sl TGType .bor),.agg [.str,.int .i64,.int .i64,.sl TField .bor,.sl TInstr .bor,.sl TRun .bor,.sl TRun .bor]]
def ta:List Ty:=[(.sl TGType),.str,(.int .i64),(.int .i64),(.sl TField),(.sl TInstr),(.sl TRun),(.sl TRun)]
def res:List (Bool×List CSh):=[(false,[.bool])]
def tr:List Ty:=[.bool]
def E0 (N:Nat):SEnv:=((((SEnv.base tab cuts ccut bcut unr ety).addCal 83 (c83 N)).addCal 84 (c84 N)).addCal 85 (c85 N)).addCal 86 (c86 N)
theorem ok0 (N:Nat):EnvOK tab (E0 N):=((((base_ok tab cuts ccut bcut unr ety).addCal (ok83 N)).addCal (ok84 N)).addCal (ok85 N)).addCal (ok86 N)
def T0_6:Tmpl:=⟨[(0,.c (.sl TGType .bor)),(3,.c (.ptr 0 3 0 0 0)),(5,.c (.int .i64))],[],[(0,3,.box 0 [.str,.int .i64,.int .i64,.sl TField .bor,.sl TInstr .bor,.sl TRun .bor,.sl TRun .bor])],1,[],1,[(.sl TGType),(.int .i64),.str,(.int .i64),(.int .i64),(.sl TField),(.sl TInstr),(.sl TRun),(.sl TRun)]⟩
def O0_6:Outs:=[(.ret,⟨[(4,.c (.bool))],[],[],1,[],0,[.bool]⟩),(.exit 0,⟨[(3,.c (.ptr 0 3 0 0 0))],[],[(0,3,.box 0 [.str,.int .i64,.int .i64,.sl TField .bor,.sl TInstr .bor,.sl TRun .bor,.sl TRun .bor])],1,[],1,[.str,(.int .i64),(.int .i64),(.sl TField),(.sl TInstr),(.sl TRun),(.sl TRun)]⟩)]
def L0_6 (N:Nat) (k:Nat) (x:(List (GType))×(Int)×(List UInt8)×(Int)×(Int)×(List (Field))×(List (Instr))×(List (Run))×List (Run)):Option ((Bool)⊕((List UInt8)×(Int)×(Int)×(List (Field))×(List (Instr))×(List (Run))×List (Run))):=loopF (loopStep (E0 N) fuelW 0 6 (bodyAt t59 6) T0_6 O0_6) k x
theorem L0_6_succ (N:Nat) (k:Nat) (v3:List (GType)) (v4:Int) (v5:List UInt8) (v6:Int) (v7:Int) (v8:List (Field)) (v9:List (Instr)) (v10:List (Run)) (v11:List (Run)):L0_6 N (k+1) (v3,v4,v5,v6,v7,v8,v9,v10,v11) =
 (bif (decide (v4<(v8.length:Int)))
 then (Option.bind ((Option.bind (idx v8 v4) fun x12=>
 (bif (decide (x12.2<(0:Int)))
 then some true
 else (Option.bind (idx v8 v4) fun x13=>
 some (decide (x13.2≥(v3.length:Int))))))) fun b14=>
 (bif b14
 then some (Sum.inl false)
 else L0_6 N k (v3,(wi64 (v4+(1:Int))),v5,v6,v7,v8,v9,v10,v11)))
 else some (Sum.inr (v5,v6,v7,v8,v9,v10,v11))):=by kernel_rfl
def E1 (N:Nat):SEnv:=(E0 N).addLoop N 0 6 T0_6 O0_6
theorem ok1 (N:Nat):EnvOK tab (E1 N):=(ok0 N).addLoop N 0 6 T0_6 O0_6
def T0_16:Tmpl:=⟨[(3,.c (.ptr 0 3 0 0 0)),(6,.c (.int .i64))],[],[(0,3,.box 0 [.str,.int .i64,.int .i64,.sl TField .bor,.sl TInstr .bor,.sl TRun .bor,.sl TRun .bor])],1,[],1,[(.int .i64),.str,(.int .i64),(.int .i64),(.sl TField),(.sl TInstr),(.sl TRun),(.sl TRun)]⟩
def O0_16:Outs:=[(.ret,⟨[(4,.c (.bool))],[],[],1,[],0,[.bool]⟩),(.exit 2,⟨[(3,.c (.ptr 0 3 0 0 0))],[],[(0,3,.box 0 [.str,.int .i64,.int .i64,.sl TField .bor,.sl TInstr .bor,.sl TRun .bor,.sl TRun .bor])],1,[],1,[.str,(.int .i64),(.int .i64),(.sl TField),(.sl TInstr),(.sl TRun),(.sl TRun)]⟩)]
def L0_16 (N:Nat) (k:Nat) (x:(Int)×(List UInt8)×(Int)×(Int)×(List (Field))×(List (Instr))×(List (Run))×List (Run)):Option ((Bool)⊕((List UInt8)×(Int)×(Int)×(List (Field))×(List (Instr))×(List (Run))×List (Run))):=loopF (loopStep (E1 N) fuelW 0 16 (bodyAt t59 16) T0_16 O0_16) k x
theorem L0_16_succ (N:Nat) (k:Nat) (v18:Int) (v19:List UInt8) (v20:Int) (v21:Int) (v22:List (Field)) (v23:List (Instr)) (v24:List (Run)) (v25:List (Run)):L0_16 N (k+1) (v18,v19,v20,v21,v22,v23,v24,v25) =
 (bif (decide (v18<(v23.length:Int)))
 then (Option.bind (idx v23 v18) fun x26=>
 (Option.bind (F85 N (x26.1,x26.2.1,x26.2.2.1,x26.2.2.2)) fun y27=>
 (bif (y27 != (0:Int))
 then some (Sum.inl false)
 else L0_16 N k ((wi64 (v18+(1:Int))),v19,v20,v21,v22,v23,v24,v25))))
 else some (Sum.inr (v19,v20,v21,v22,v23,v24,v25))):=by kernel_rfl
def E2 (N:Nat):SEnv:=(E1 N).addLoop N 0 16 T0_16 O0_16
theorem ok2 (N:Nat):EnvOK tab (E2 N):=(ok1 N).addLoop N 0 16 T0_16 O0_16
end f59
def F59 (N:Nat) (x:(List (GType))×(List UInt8)×(Int)×(Int)×(List (Field))×(List (Instr))×(List (Run))×List (Run)):Option (Bool):=fnRun (f59.E2 N) fuelW 59 f59.args f59.ta f59.res f59.tr 0 x
open f59 in
theorem F59_eq (N:Nat) (p0:List (GType)) (p1:List UInt8) (p2:Int) (p3:Int) (p4:List (Field)) (p5:List (Instr)) (p6:List (Run)) (p7:List (Run)):F59 N (p0,p1,p2,p3,p4,p5,p6,p7) =
 (Option.bind ((Option.bind (F83 N p1) fun y0=>
 (bif (!y0)
 then some true
 else (Option.bind (F84 N (p4,(16:Int))) fun y1=>
 (bif (!y1)
 then some true
 else (bif (decide (p2<(0:Int)))
 then some true
 else (bif (decide (p2>(p4.length:Int)))
 then some true
 else (bif (decide (p3<(-1:Int)))
 then some true
 else (bif (decide (p3≥(p0.length:Int)))
 then some true
 else (bif (decide ((p5.length:Int)<(1:Int)))
 then some true
 else some (decide ((p5.length:Int)>(200:Int))))))))))))) fun b2=>
 (bif b2
 then some false
 else (Option.bind (L0_6 N N (p0,(0:Int),p1,p2,p3,p4,p5,p6,p7)) fun y15=>
 (match y15 with
 |.inl a16=>some a16
 |.inr b17=>(Option.bind (L0_16 N N ((0:Int),b17.1,b17.2.1,b17.2.2.1,b17.2.2.2.1,b17.2.2.2.2.1,b17.2.2.2.2.2.1,b17.2.2.2.2.2.2)) fun y28=>
 (match y28 with
 |.inl a29=>some a29
 |.inr b30=>(Option.bind ((Option.bind (F86 N (b30.2.2.2.2.2.1,(b30.2.2.2.2.1.length:Int))) fun y31=>
 (bif y31
 then (Option.bind (F86 N (b30.2.2.2.2.2.2,(b30.2.2.2.2.1.length:Int))) fun y32=>
 some y32)
 else some false))) fun b33=>
 some b33))))))):=by kernel_rfl
def c59 (N:Nat):Sym.Callee:=⟨f59.args,f59.ta,f59.res,f59.tr,0,F59 N⟩
theorem ok59 (N:Nat):CalOK tab 59 (c59 N):=fn_ok (f59.ok2 N) fuelW 59 f59.args f59.ta f59.res f59.tr 0
namespace f42
def bcut:Nat→Nat→Option (Nat×Ty):=fun c i=>match c,i with
 |0,1=>some (30,.bool)
 |_,_=>none
def args:List PSh:=[.agg [.sl TGType .bor,.sl .str .bor,.sl TFunc .bor]]
def ta:List Ty:=[(.sl TGType),(.sl .str),(.sl TFunc)]
def res:List (Bool×List CSh):=[(false,[.bool])]
def tr:List Ty:=[.bool]
def E0 (N:Nat):SEnv:=(((SEnv.base tab cuts ccut bcut unr ety).addCal 57 (c57 N)).addCal 58 (c58 N)).addCal 59 (c59 N)
theorem ok0 (N:Nat):EnvOK tab (E0 N):=(((base_ok tab cuts ccut bcut unr ety).addCal (ok57 N)).addCal (ok58 N)).addCal (ok59 N)
def T0_7:Tmpl:=⟨[(1,.c (.ptr 0 1 0 0 0)),(3,.c (.sl (.int .i64) .d)),(5,.c (.int .i64))],[],[(0,1,.box 0 [.sl TGType .bor,.sl .str .bor,.sl TFunc .bor])],1,[],1,[(.sl (.int .i64)),(.int .i64),(.sl TGType),(.sl .str),(.sl TFunc)]⟩
def O0_7:Outs:=[(.ret,⟨[(2,.c (.bool))],[],[],1,[],0,[.bool]⟩),(.exit 0,⟨[(1,.c (.ptr 0 1 0 0 0))],[],[(0,1,.box 0 [.sl TGType .bor,.sl .str .bor,.sl TFunc .bor])],1,[],1,[(.sl TGType),(.sl .str),(.sl TFunc)]⟩)]
def L0_7 (N:Nat) (k:Nat) (x:(List (Int))×(Int)×(List (GType))×(List (List UInt8))×List (Func)):Option ((Bool)⊕((List (GType))×(List (List UInt8))×List (Func))):=loopF (loopStep (E0 N) fuelW 0 7 (bodyAt t42 7) T0_7 O0_7) k x
theorem L0_7_succ (N:Nat) (k:Nat) (v3:List (Int)) (v4:Int) (v5:List (GType)) (v6:List (List UInt8)) (v7:List (Func)):L0_7 N (k+1) (v3,v4,v5,v6,v7) =
 (bif (decide (v4<(v3.length:Int)))
 then (Option.bind (idx v3 v4) fun x8=>
 (bif (decide (x8>(256:Int)))
 then some (Sum.inl false)
 else L0_7 N k (v3,(wi64 (v4+(1:Int))),v5,v6,v7)))
 else some (Sum.inr (v5,v6,v7))):=by kernel_rfl
def E1 (N:Nat):SEnv:=(E0 N).addLoop N 0 7 T0_7 O0_7
theorem ok1 (N:Nat):EnvOK tab (E1 N):=(ok0 N).addLoop N 0 7 T0_7 O0_7
def T0_17:Tmpl:=⟨[(1,.c (.ptr 0 1 0 0 0)),(6,.c (.int .i64))],[],[(0,1,.box 0 [.sl TGType .bor,.sl .str .bor,.sl TFunc .bor])],1,[],1,[(.int .i64),(.sl TGType),(.sl .str),(.sl TFunc)]⟩
def O0_17:Outs:=[(.ret,⟨[(2,.c (.bool))],[],[],1,[],0,[.bool]⟩),(.exit 2,⟨[(1,.c (.ptr 0 1 0 0 0))],[],[(0,1,.box 0 [.sl TGType .bor,.sl .str .bor,.sl TFunc .bor])],1,[],1,[(.sl TGType),(.sl .str),(.sl TFunc)]⟩)]
def L0_17 (N:Nat) (k:Nat) (x:(Int)×(List (GType))×(List (List UInt8))×List (Func)):Option ((Bool)⊕((List (GType))×(List (List UInt8))×List (Func))):=loopF (loopStep (E1 N) fuelW 0 17 (bodyAt t42 17) T0_17 O0_17) k x
theorem L0_17_succ (N:Nat) (k:Nat) (v12:Int) (v13:List (GType)) (v14:List (List UInt8)) (v15:List (Func)):L0_17 N (k+1) (v12,v13,v14,v15) =
 (bif (decide (v12<(v14.length:Int)))
 then (Option.bind (idx v14 v12) fun x16=>
 (bif (decide ((x16.length:Int)>(64:Int)))
 then some (Sum.inl false)
 else L0_17 N k ((wi64 (v12+(1:Int))),v13,v14,v15)))
 else some (Sum.inr (v13,v14,v15))):=by kernel_rfl
def E2 (N:Nat):SEnv:=(E1 N).addLoop N 0 17 T0_17 O0_17
theorem ok2 (N:Nat):EnvOK tab (E2 N):=(ok1 N).addLoop N 0 17 T0_17 O0_17
def T0_36:Tmpl:=⟨[(1,.c (.ptr 0 1 0 0 0)),(7,.c (.int .i64)),(8,.c (.int .i64))],[],[(0,1,.box 0 [.sl TGType .bor,.sl .str .bor,.sl TFunc .bor])],1,[],1,[(.int .i64),(.int .i64),(.sl TGType),(.sl .str),(.sl TFunc)]⟩
def O0_36:Outs:=[(.ret,⟨[(2,.c (.bool))],[],[],1,[],0,[.bool]⟩),(.exit 6,⟨[(1,.c (.ptr 0 1 0 0 0)),(7,.c (.int .i64))],[],[(0,1,.box 0 [.sl TGType .bor,.sl .str .bor,.sl TFunc .bor])],1,[],1,[(.int .i64),(.sl TGType),(.sl .str),(.sl TFunc)]⟩)]
def L0_36 (N:Nat) (k:Nat) (x:(Int)×(Int)×(List (GType))×(List (List UInt8))×List (Func)):Option ((Bool)⊕((Int)×(List (GType))×(List (List UInt8))×List (Func))):=loopF (loopStep (E2 N) fuelW 0 36 (bodyAt t42 36) T0_36 O0_36) k x
theorem L0_36_succ (N:Nat) (k:Nat) (v26:Int) (v27:Int) (v28:List (GType)) (v29:List (List UInt8)) (v30:List (Func)):L0_36 N (k+1) (v26,v27,v28,v29,v30) =
 (bif (decide (v27<v26))
 then (Option.bind (idx v30 v27) fun x31=>
 (Option.bind (idx v30 v26) fun x32=>
 (bif (x31.1==x32.1)
 then some (Sum.inl false)
 else L0_36 N k (v26,(wi64 (v27+(1:Int))),v28,v29,v30))))
 else some (Sum.inr (v26,v28,v29,v30))):=by kernel_rfl
def E3 (N:Nat):SEnv:=(E2 N).addLoop N 0 36 T0_36 O0_36
theorem ok3 (N:Nat):EnvOK tab (E3 N):=(ok2 N).addLoop N 0 36 T0_36 O0_36
def T0_27:Tmpl:=⟨[(1,.c (.ptr 0 1 0 0 0)),(7,.c (.int .i64))],[],[(0,1,.box 0 [.sl TGType .bor,.sl .str .bor,.sl TFunc .bor])],1,[],1,[(.int .i64),(.sl TGType),(.sl .str),(.sl TFunc)]⟩
def O0_27:Outs:=[(.ret,⟨[(2,.c (.bool))],[],[],1,[],0,[.bool]⟩),(.exit 4,⟨[],[],[],1,[],0,[]⟩)]
def L0_27 (N:Nat) (k:Nat) (x:(Int)×(List (GType))×(List (List UInt8))×List (Func)):Option ((Bool)⊕(Unit)):=loopF (loopStep (E3 N) fuelW 0 27 (bodyAt t42 27) T0_27 O0_27) k x
theorem L0_27_succ (N:Nat) (k:Nat) (v20:Int) (v21:List (GType)) (v22:List (List UInt8)) (v23:List (Func)):L0_27 N (k+1) (v20,v21,v22,v23) =
 (bif (decide (v20<(v23.length:Int)))
 then (Option.bind (idx v23 v20) fun x24=>
 (Option.bind (F59 N (v21,x24.1,x24.2.1,x24.2.2.1,x24.2.2.2.1,x24.2.2.2.2.1,x24.2.2.2.2.2.1,x24.2.2.2.2.2.2)) fun y25=>
 (bif (!y25)
 then some (Sum.inl false)
 else (Option.bind (L0_36 N N (v20,(0:Int),v21,v22,v23)) fun y33=>
 (match y33 with
 |.inl a34=>some (Sum.inl a34)
 |.inr b35=>L0_27 N k ((wi64 (b35.1+(1:Int))),b35.2.1,b35.2.2.1,b35.2.2.2))))))
 else some (Sum.inr ())):=by kernel_rfl
def E4 (N:Nat):SEnv:=(E3 N).addLoop N 0 27 T0_27 O0_27
theorem ok4 (N:Nat):EnvOK tab (E4 N):=(ok3 N).addLoop N 0 27 T0_27 O0_27
end f42
def F42 (N:Nat) (x:(List (GType))×(List (List UInt8))×List (Func)):Option (Bool):=fnRun (f42.E4 N) fuelW 42 f42.args f42.ta f42.res f42.tr 0 x
open f42 in
theorem F42_eq (N:Nat) (p0:List (GType)) (p1:List (List UInt8)) (p2:List (Func)):F42 N (p0,p1,p2) =
 (Option.bind ((Option.bind (F57 N p0) fun y0=>
 (bif (y0 != (0:Int))
 then some true
 else (bif (decide ((p1.length:Int)>(32:Int)))
 then some true
 else (bif (decide ((p2.length:Int)<(1:Int)))
 then some true
 else some (decide ((p2.length:Int)>(32:Int)))))))) fun b1=>
 (bif b1
 then some false
 else (Option.bind (F58 N p0) fun y2=>
 (Option.bind (L0_7 N N (y2.1,(0:Int),p0,p1,p2)) fun y9=>
 (match y9 with
 |.inl a10=>some a10
 |.inr b11=>(Option.bind (L0_17 N N ((0:Int),b11.1,b11.2.1,b11.2.2)) fun y17=>
 (match y17 with
 |.inl a18=>some a18
 |.inr b19=>(Option.bind (L0_27 N N ((0:Int),b19.1,b19.2.1,b19.2.2)) fun y36=>
 (match y36 with
 |.inl a37=>some a37
 |.inr b38=>some true))))))))):=by kernel_rfl
def c42 (N:Nat):Sym.Callee:=⟨f42.args,f42.ta,f42.res,f42.tr,0,F42 N⟩
theorem ok42 (N:Nat):CalOK tab 42 (c42 N):=fn_ok (f42.ok4 N) fuelW 42 f42.args f42.ta f42.res f42.tr 0
namespace f63
def ety:Nat→Nat→Option Ty:=fun c d=>match c,d with
 |0,2=>some (.int .u8)
 |0,3=>some (.int .u8)
 |0,11=>some (.int .u8)
 |0,18=>some (.int .u8)
 |_,_=>none
def args:List PSh:=[.c (.int .u64)]
def ta:List Ty:=[(.int .u64)]
def res:List (Bool×List CSh):=[(false,[.sl (.int .u8) .d])]
def tr:List Ty:=[(.sl (.int .u8))]
def E0 (N:Nat):SEnv:=SEnv.base tab cuts ccut bcut unr ety
theorem ok0 (N:Nat):EnvOK tab (E0 N):=base_ok tab cuts ccut bcut unr ety
def T0_3:Tmpl:=⟨[(0,.c (.int .u64)),(3,.c (.ref 0 3 0 (.int .u8)))],[],[(0,3,.row 0 (.int .u8))],1,[],1,[(.int .u64),(.sl (.int .u8))]⟩
def O0_3:Outs:=[(.exit 0,⟨[(0,.c (.int .u64)),(3,.c (.ref 0 3 0 (.int .u8)))],[],[(0,3,.row 0 (.int .u8))],1,[],1,[(.int .u64),(.sl (.int .u8))]⟩)]
def L0_3 (N:Nat) (k:Nat) (x:(Int)×List (Int)):Option (((Int)×List (Int))):=loopF (loopStep (E0 N) fuelW 0 3 (bodyAt t63 3) T0_3 O0_3) k x
theorem L0_3_succ (N:Nat) (k:Nat) (v0:Int) (v1:List (Int)):L0_3 N (k+1) (v0,v1) =
 (bif (decide (v0≥(128:Int)))
 then (chk (room (v1.length+1) 1)
 (L0_3 N k ((wu64 (Int.tdiv v0 (128:Int))),(v1++[(wu8 ((wu8 (Int.tmod v0 (128:Int)))+(128:Int)))]))))
 else some (v0,v1)):=by kernel_rfl
def E1 (N:Nat):SEnv:=(E0 N).addLoop N 0 3 T0_3 O0_3
theorem ok1 (N:Nat):EnvOK tab (E1 N):=(ok0 N).addLoop N 0 3 T0_3 O0_3
end f63
def F63 (N:Nat) (x:Int):Option (List (Int)):=fnRun (f63.E1 N) fuelW 63 f63.args f63.ta f63.res f63.tr 1 x
open f63 in
theorem F63_eq (N:Nat) (p0:Int):F63 N p0 =
 (Option.bind (L0_3 N N (p0,([]:List (Int)))) fun y2=>
 (chk (room (y2.2.length+1) 1)
 (some (y2.2++[(wu8 y2.1)])))):=by kernel_rfl
def c63 (N:Nat):Sym.Callee:=⟨f63.args,f63.ta,f63.res,f63.tr,1,F63 N⟩
theorem ok63 (N:Nat):CalOK tab 63 (c63 N):=fn_ok (f63.ok1 N) fuelW 63 f63.args f63.ta f63.res f63.tr 1
namespace f60
def ety:Nat→Nat→Option Ty:=fun c d=>match c,d with
 |0,2=>some (.int .u8)
 |_,_=>none
def args:List PSh:=[.c (.int .i64)]
def ta:List Ty:=[(.int .i64)]
def res:List (Bool×List CSh):=[(false,[.sl (.int .u8) .d])]
def tr:List Ty:=[(.sl (.int .u8))]
def E0 (N:Nat):SEnv:=(SEnv.base tab cuts ccut bcut unr ety).addCal 63 (c63 N)
theorem ok0 (N:Nat):EnvOK tab (E0 N):=(base_ok tab cuts ccut bcut unr ety).addCal (ok63 N)
end f60
def F60 (N:Nat) (x:Int):Option (List (Int)):=fnRun (f60.E0 N) fuelW 60 f60.args f60.ta f60.res f60.tr 1 x
open f60 in
theorem F60_eq (N:Nat) (p0:Int):F60 N p0 =
 (Option.bind (F63 N (wu64 p0)) fun y0=>
 some y0):=by kernel_rfl
def c60 (N:Nat):Sym.Callee:=⟨f60.args,f60.ta,f60.res,f60.tr,1,F60 N⟩
theorem ok60 (N:Nat):CalOK tab 60 (c60 N):=fn_ok (f60.ok0 N) fuelW 60 f60.args f60.ta f60.res f60.tr 1
namespace f62
def args:List PSh:=[.c (.str)]
def ta:List Ty:=[.str]
def res:List (Bool×List CSh):=[(false,[.sl (.int .u8) .d])]
def tr:List Ty:=[(.sl (.int .u8))]
def E0 (N:Nat):SEnv:=(SEnv.base tab cuts ccut bcut unr ety).addCal 63 (c63 N)
theorem ok0 (N:Nat):EnvOK tab (E0 N):=(base_ok tab cuts ccut bcut unr ety).addCal (ok63 N)
end f62
def F62 (N:Nat) (x:List UInt8):Option (List (Int)):=fnRun (f62.E0 N) fuelW 62 f62.args f62.ta f62.res f62.tr 0 x
open f62 in
theorem F62_eq (N:Nat) (p0:List UInt8):F62 N p0 =
 (Option.bind (F63 N (wu64 (p0.length:Int))) fun y0=>
 (chk (room (y0.length+(bytesL p0).length) 1)
 (some (y0++(bytesL p0))))):=by kernel_rfl
def c62 (N:Nat):Sym.Callee:=⟨f62.args,f62.ta,f62.res,f62.tr,0,F62 N⟩
theorem ok62 (N:Nat):CalOK tab 62 (c62 N):=fn_ok (f62.ok0 N) fuelW 62 f62.args f62.ta f62.res f62.tr 0
namespace f61
def args:List PSh:=[.c (.sl TField .bor)]
def ta:List Ty:=[(.sl TField)]
def res:List (Bool×List CSh):=[(false,[.sl (.int .u8) .d])]
def tr:List Ty:=[(.sl (.int .u8))]
def E0 (N:Nat):SEnv:=((SEnv.base tab cuts ccut bcut unr ety).addCal 60 (c60 N)).addCal 62 (c62 N)
theorem ok0 (N:Nat):EnvOK tab (E0 N):=((base_ok tab cuts ccut bcut unr ety).addCal (ok60 N)).addCal (ok62 N)
def T0_4:Tmpl:=⟨[(0,.c (.sl TField .bor)),(3,.c (.ref 0 7 0 (.int .u8))),(4,.c (.int .i64))],[],[(0,7,.row 0 (.int .u8))],1,[],1,[(.sl TField),(.int .i64),(.sl (.int .u8))]⟩
def O0_4:Outs:=[(.exit 0,⟨[(3,.c (.ref 0 7 0 (.int .u8)))],[],[(0,7,.row 0 (.int .u8))],1,[],1,[(.sl (.int .u8))]⟩)]
def L0_4 (N:Nat) (k:Nat) (x:(List (Field))×(Int)×List (Int)):Option ((List (Int))):=loopF (loopStep (E0 N) fuelW 0 4 (bodyAt t61 4) T0_4 O0_4) k x
theorem L0_4_succ (N:Nat) (k:Nat) (v1:List (Field)) (v2:Int) (v3:List (Int)):L0_4 N (k+1) (v1,v2,v3) =
 (bif (decide (v2<(v1.length:Int)))
 then (Option.bind (idx v1 v2) fun x4=>
 (Option.bind (F62 N x4.1) fun y5=>
 (chk (room (v3.length+y5.length) 1)
 ((Option.bind (idx v1 v2) fun x6=>
 (Option.bind (F60 N x6.2) fun y7=>
 (chk (room ((v3++y5).length+y7.length) 1)
 (L0_4 N k (v1,(wi64 (v2+(1:Int))),((v3++y5)++y7))))))))))
 else some v3):=by kernel_rfl
def E1 (N:Nat):SEnv:=(E0 N).addLoop N 0 4 T0_4 O0_4
theorem ok1 (N:Nat):EnvOK tab (E1 N):=(ok0 N).addLoop N 0 4 T0_4 O0_4
end f61
def F61 (N:Nat) (x:List (Field)):Option (List (Int)):=fnRun (f61.E1 N) fuelW 61 f61.args f61.ta f61.res f61.tr 0 x
open f61 in
theorem F61_eq (N:Nat) (p0:List (Field)):F61 N p0 =
 (Option.bind (F60 N (p0.length:Int)) fun y0=>
 (Option.bind (L0_4 N N (p0,(0:Int),y0)) fun y8=>
 some y8)):=by kernel_rfl
def c61 (N:Nat):Sym.Callee:=⟨f61.args,f61.ta,f61.res,f61.tr,0,F61 N⟩
theorem ok61 (N:Nat):CalOK tab 61 (c61 N):=fn_ok (f61.ok1 N) fuelW 61 f61.args f61.ta f61.res f61.tr 0
namespace f64
def args:List PSh:=[.c (.int .i64)]
def ta:List Ty:=[(.int .i64)]
def res:List (Bool×List CSh):=[(false,[.int .u64])]
def tr:List Ty:=[(.int .u64)]
def E0 (N:Nat):SEnv:=SEnv.base tab cuts ccut bcut unr ety
theorem ok0 (N:Nat):EnvOK tab (E0 N):=base_ok tab cuts ccut bcut unr ety
end f64
def F64 (N:Nat) (x:Int):Option (Int):=fnRun (f64.E0 N) fuelW 64 f64.args f64.ta f64.res f64.tr 0 x
open f64 in
theorem F64_eq (N:Nat) (p0:Int):F64 N p0 =
 (bif (decide (p0≥(0:Int)))
 then some (wu64 ((wu64 p0)*(2:Int)))
 else some (wu64 ((wu64 ((wu64 (wi64 (0-(wi64 (p0+(1:Int))))))*(2:Int)))+(1:Int)))):=by kernel_rfl
def c64 (N:Nat):Sym.Callee:=⟨f64.args,f64.ta,f64.res,f64.tr,0,F64 N⟩
theorem ok64 (N:Nat):CalOK tab 64 (c64 N):=fn_ok (f64.ok0 N) fuelW 64 f64.args f64.ta f64.res f64.tr 0
namespace f89
def bcut:Nat→Nat→Option (Nat×Ty):=fun c i=>match c,i with
 |0,1=>some (2,.bool)
 |_,_=>none
def args:List PSh:=[.c (.int .u8)]
def ta:List Ty:=[(.int .u8)]
def res:List (Bool×List CSh):=[(false,[.bool])]
def tr:List Ty:=[.bool]
def E0 (N:Nat):SEnv:=SEnv.base tab cuts ccut bcut unr ety
theorem ok0 (N:Nat):EnvOK tab (E0 N):=base_ok tab cuts ccut bcut unr ety
end f89
def F89 (N:Nat) (x:Int):Option (Bool):=fnRun (f89.E0 N) fuelW 89 f89.args f89.ta f89.res f89.tr 0 x
open f89 in
theorem F89_eq (N:Nat) (p0:Int):F89 N p0 =
 (Option.bind ((bif (p0==(110:Int))
 then some true
 else (bif (p0==(103:Int))
 then some true
 else some (p0==(101:Int))))) fun b0=>
 some b0):=by kernel_rfl
def c89 (N:Nat):Sym.Callee:=⟨f89.args,f89.ta,f89.res,f89.tr,0,F89 N⟩
theorem ok89 (N:Nat):CalOK tab 89 (c89 N):=fn_ok (f89.ok0 N) fuelW 89 f89.args f89.ta f89.res f89.tr 0
namespace f65
def unr:Nat→Nat→Bool:=fun c i=>match c,i with
 |0,5=>true
 |0,100005=>true
 |_,_=>false
def ety:Nat→Nat→Option Ty:=fun c d=>match c,d with
 |0,9=>some (.int .u8)
 |_,_=>none
def args:List PSh:=[.agg [.int .u8,.int .i64,.int .i64,.int .i64]]
def ta:List Ty:=[(.int .u8),(.int .i64),(.int .i64),(.int .i64)]
def res:List (Bool×List CSh):=[(false,[.sl (.int .u8) .d])]
def tr:List Ty:=[(.sl (.int .u8))]
def E0 (N:Nat):SEnv:=(((((SEnv.base tab cuts ccut bcut unr ety).addCal 87 (c87 N)).addCal 88 (c88 N)).addCal 89 (c89 N)).addCal 64 (c64 N)).addCal 63 (c63 N)
theorem ok0 (N:Nat):EnvOK tab (E0 N):=(((((base_ok tab cuts ccut bcut unr ety).addCal (ok87 N)).addCal (ok88 N)).addCal (ok89 N)).addCal (ok64 N)).addCal (ok63 N)
end f65
def F65 (N:Nat) (x:(Int)×(Int)×(Int)×Int):Option (List (Int)):=fnRun (f65.E0 N) fuelW 65 f65.args f65.ta f65.res f65.tr 0 x
open f65 in
theorem F65_eq (N:Nat) (p0:Int) (p1:Int) (p2:Int) (p3:Int):F65 N (p0,p1,p2,p3) =
 (Option.bind (F87 N p0) fun y0=>
 (Option.bind (F88 N (p0,p1,p2,p3)) fun y1=>
 (Option.bind (idx y0 (0:Int)) fun c2=>
 (bif ((c2.toNat:Int)==(45:Int))
 then (Option.bind (idx y0 (1:Int)) fun c3=>
 (bif ((c3.toNat:Int)==(45:Int))
 then (Option.bind (idx y0 (2:Int)) fun c4=>
 (bif ((c4.toNat:Int)==(45:Int))
 then some [p0]
 else (Option.bind (idx y0 (2:Int)) fun c5=>
 (Option.bind (F89 N (c5.toNat:Int)) fun y6=>
 (bif y6
 then (Option.bind (F64 N y1.2.2) fun y7=>
 (Option.bind (F63 N y7) fun y8=>
 (chk (room (1+y8.length) 1)
 (some ([p0]++y8)))))
 else (Option.bind (F63 N (wu64 y1.2.2)) fun y9=>
 (chk (room (1+y9.length) 1)
 (some ([p0]++y9)))))))))
 else (Option.bind (idx y0 (1:Int)) fun c10=>
 (Option.bind (F89 N (c10.toNat:Int)) fun y11=>
 (bif y11
 then (Option.bind (F64 N y1.2.1) fun y12=>
 (Option.bind (F63 N y12) fun y13=>
 (chk (room (1+y13.length) 1)
 ((Option.bind (idx y0 (2:Int)) fun c14=>
 (bif ((c14.toNat:Int)==(45:Int))
 then some ([p0]++y13)
 else (Option.bind (idx y0 (2:Int)) fun c15=>
 (Option.bind (F89 N (c15.toNat:Int)) fun y16=>
 (bif y16
 then (Option.bind (F64 N y1.2.2) fun y17=>
 (Option.bind (F63 N y17) fun y18=>
 (chk (room (([p0]++y13).length+y18.length) 1)
 (some (([p0]++y13)++y18)))))
 else (Option.bind (F63 N (wu64 y1.2.2)) fun y19=>
 (chk (room (([p0]++y13).length+y19.length) 1)
 (some (([p0]++y13)++y19)))))))))))))
 else (Option.bind (F63 N (wu64 y1.2.1)) fun y20=>
 (chk (room (1+y20.length) 1)
 ((Option.bind (idx y0 (2:Int)) fun c21=>
 (bif ((c21.toNat:Int)==(45:Int))
 then some ([p0]++y20)
 else (Option.bind (idx y0 (2:Int)) fun c22=>
 (Option.bind (F89 N (c22.toNat:Int)) fun y23=>
 (bif y23
 then (Option.bind (F64 N y1.2.2) fun y24=>
 (Option.bind (F63 N y24) fun y25=>
 (chk (room (([p0]++y20).length+y25.length) 1)
 (some (([p0]++y20)++y25)))))
 else (Option.bind (F63 N (wu64 y1.2.2)) fun y26=>
 (chk (room (([p0]++y20).length+y26.length) 1)
 (some (([p0]++y20)++y26)))))))))))))))))
 else (Option.bind (idx y0 (0:Int)) fun c27=>
 (Option.bind (F89 N (c27.toNat:Int)) fun y28=>
 (bif y28
 then (Option.bind (F64 N y1.1) fun y29=>
 (Option.bind (F63 N y29) fun y30=>
 (chk (room (1+y30.length) 1)
 ((Option.bind (idx y0 (1:Int)) fun c31=>
 (bif ((c31.toNat:Int)==(45:Int))
 then (Option.bind (idx y0 (2:Int)) fun c32=>
 (bif ((c32.toNat:Int)==(45:Int))
 then some ([p0]++y30)
 else (Option.bind (idx y0 (2:Int)) fun c33=>
 (Option.bind (F89 N (c33.toNat:Int)) fun y34=>
 (bif y34
 then (Option.bind (F64 N y1.2.2) fun y35=>
 (Option.bind (F63 N y35) fun y36=>
 (chk (room (([p0]++y30).length+y36.length) 1)
 (some (([p0]++y30)++y36)))))
 else (Option.bind (F63 N (wu64 y1.2.2)) fun y37=>
 (chk (room (([p0]++y30).length+y37.length) 1)
 (some (([p0]++y30)++y37)))))))))
 else (Option.bind (idx y0 (1:Int)) fun c38=>
 (Option.bind (F89 N (c38.toNat:Int)) fun y39=>
 (bif y39
 then (Option.bind (F64 N y1.2.1) fun y40=>
 (Option.bind (F63 N y40) fun y41=>
 (chk (room (([p0]++y30).length+y41.length) 1)
 ((Option.bind (idx y0 (2:Int)) fun c42=>
 (bif ((c42.toNat:Int)==(45:Int))
 then some (([p0]++y30)++y41)
 else (Option.bind (idx y0 (2:Int)) fun c43=>
 (Option.bind (F89 N (c43.toNat:Int)) fun y44=>
 (bif y44
 then (Option.bind (F64 N y1.2.2) fun y45=>
 (Option.bind (F63 N y45) fun y46=>
 (chk (room ((([p0]++y30)++y41).length+y46.length) 1)
 (some ((([p0]++y30)++y41)++y46)))))
 else (Option.bind (F63 N (wu64 y1.2.2)) fun y47=>
 (chk (room ((([p0]++y30)++y41).length+y47.length) 1)
 (some ((([p0]++y30)++y41)++y47)))))))))))))
 else (Option.bind (F63 N (wu64 y1.2.1)) fun y48=>
 (chk (room (([p0]++y30).length+y48.length) 1)
 ((Option.bind (idx y0 (2:Int)) fun c49=>
 (bif ((c49.toNat:Int)==(45:Int))
 then some (([p0]++y30)++y48)
 else (Option.bind (idx y0 (2:Int)) fun c50=>
 (Option.bind (F89 N (c50.toNat:Int)) fun y51=>
 (bif y51
 then (Option.bind (F64 N y1.2.2) fun y52=>
 (Option.bind (F63 N y52) fun y53=>
 (chk (room ((([p0]++y30)++y48).length+y53.length) 1)
 (some ((([p0]++y30)++y48)++y53)))))
 else (Option.bind (F63 N (wu64 y1.2.2)) fun y54=>
 (chk (room ((([p0]++y30)++y48).length+y54.length) 1)
 (some ((([p0]++y30)++y48)++y54)))))))))))))))))))))
 else (Option.bind (F63 N (wu64 y1.1)) fun y55=>
 (chk (room (1+y55.length) 1)
 ((Option.bind (idx y0 (1:Int)) fun c56=>
 (bif ((c56.toNat:Int)==(45:Int))
 then (Option.bind (idx y0 (2:Int)) fun c57=>
 (bif ((c57.toNat:Int)==(45:Int))
 then some ([p0]++y55)
 else (Option.bind (idx y0 (2:Int)) fun c58=>
 (Option.bind (F89 N (c58.toNat:Int)) fun y59=>
 (bif y59
 then (Option.bind (F64 N y1.2.2) fun y60=>
 (Option.bind (F63 N y60) fun y61=>
 (chk (room (([p0]++y55).length+y61.length) 1)
 (some (([p0]++y55)++y61)))))
 else (Option.bind (F63 N (wu64 y1.2.2)) fun y62=>
 (chk (room (([p0]++y55).length+y62.length) 1)
 (some (([p0]++y55)++y62)))))))))
 else (Option.bind (idx y0 (1:Int)) fun c63=>
 (Option.bind (F89 N (c63.toNat:Int)) fun y64=>
 (bif y64
 then (Option.bind (F64 N y1.2.1) fun y65=>
 (Option.bind (F63 N y65) fun y66=>
 (chk (room (([p0]++y55).length+y66.length) 1)
 ((Option.bind (idx y0 (2:Int)) fun c67=>
 (bif ((c67.toNat:Int)==(45:Int))
 then some (([p0]++y55)++y66)
 else (Option.bind (idx y0 (2:Int)) fun c68=>
 (Option.bind (F89 N (c68.toNat:Int)) fun y69=>
 (bif y69
 then (Option.bind (F64 N y1.2.2) fun y70=>
 (Option.bind (F63 N y70) fun y71=>
 (chk (room ((([p0]++y55)++y66).length+y71.length) 1)
 (some ((([p0]++y55)++y66)++y71)))))
 else (Option.bind (F63 N (wu64 y1.2.2)) fun y72=>
 (chk (room ((([p0]++y55)++y66).length+y72.length) 1)
 (some ((([p0]++y55)++y66)++y72)))))))))))))
 else (Option.bind (F63 N (wu64 y1.2.1)) fun y73=>
 (chk (room (([p0]++y55).length+y73.length) 1)
 ((Option.bind (idx y0 (2:Int)) fun c74=>
 (bif ((c74.toNat:Int)==(45:Int))
 then some (([p0]++y55)++y73)
 else (Option.bind (idx y0 (2:Int)) fun c75=>
 (Option.bind (F89 N (c75.toNat:Int)) fun y76=>
 (bif y76
 then (Option.bind (F64 N y1.2.2) fun y77=>
 (Option.bind (F63 N y77) fun y78=>
 (chk (room ((([p0]++y55)++y73).length+y78.length) 1)
 (some ((([p0]++y55)++y73)++y78)))))
 else (Option.bind (F63 N (wu64 y1.2.2)) fun y79=>
 (chk (room ((([p0]++y55)++y73).length+y79.length) 1)
 (some ((([p0]++y55)++y73)++y79))))))))))))))))))))))))))):=by kernel_rfl
def c65 (N:Nat):Sym.Callee:=⟨f65.args,f65.ta,f65.res,f65.tr,0,F65 N⟩
theorem ok65 (N:Nat):CalOK tab 65 (c65 N):=fn_ok (f65.ok0 N) fuelW 65 f65.args f65.ta f65.res f65.tr 0
namespace f66
def args:List PSh:=[.c (.sl TRun .bor)]
def ta:List Ty:=[(.sl TRun)]
def res:List (Bool×List CSh):=[(false,[.sl (.int .u8) .d])]
def tr:List Ty:=[(.sl (.int .u8))]
def E0 (N:Nat):SEnv:=(SEnv.base tab cuts ccut bcut unr ety).addCal 63 (c63 N)
theorem ok0 (N:Nat):EnvOK tab (E0 N):=(base_ok tab cuts ccut bcut unr ety).addCal (ok63 N)
def T0_5:Tmpl:=⟨[(0,.c (.sl TRun .bor)),(3,.c (.ref 0 9 0 (.int .u8))),(4,.c (.int .i64)),(5,.c (.int .i64))],[],[(0,9,.row 0 (.int .u8))],1,[],1,[(.sl TRun),(.int .i64),(.int .i64),(.sl (.int .u8))]⟩
def O0_5:Outs:=[(.exit 0,⟨[(3,.c (.ref 0 9 0 (.int .u8)))],[],[(0,9,.row 0 (.int .u8))],1,[],1,[(.sl (.int .u8))]⟩)]
def L0_5 (N:Nat) (k:Nat) (x:(List (Run))×(Int)×(Int)×List (Int)):Option ((List (Int))):=loopF (loopStep (E0 N) fuelW 0 5 (bodyAt t66 5) T0_5 O0_5) k x
theorem L0_5_succ (N:Nat) (k:Nat) (v1:List (Run)) (v2:Int) (v3:Int) (v4:List (Int)):L0_5 N (k+1) (v1,v2,v3,v4) =
 (bif (decide (v3<(v1.length:Int)))
 then (Option.bind (idx v1 v3) fun x5=>
 (Option.bind (F63 N (wu64 (wi64 (x5.1-v2)))) fun y6=>
 (chk (room (v4.length+y6.length) 1)
 ((Option.bind (idx v1 v3) fun x7=>
 (Option.bind (F63 N x7.2) fun y8=>
 (chk (room ((v4++y6).length+y8.length) 1)
 ((Option.bind (idx v1 v3) fun x9=>
 L0_5 N k (v1,x9.1,(wi64 (v3+(1:Int))),((v4++y6)++y8)))))))))))
 else some v4):=by kernel_rfl
def E1 (N:Nat):SEnv:=(E0 N).addLoop N 0 5 T0_5 O0_5
theorem ok1 (N:Nat):EnvOK tab (E1 N):=(ok0 N).addLoop N 0 5 T0_5 O0_5
end f66
def F66 (N:Nat) (x:List (Run)):Option (List (Int)):=fnRun (f66.E1 N) fuelW 66 f66.args f66.ta f66.res f66.tr 0 x
open f66 in
theorem F66_eq (N:Nat) (p0:List (Run)):F66 N p0 =
 (Option.bind (F63 N (wu64 (p0.length:Int))) fun y0=>
 (Option.bind (L0_5 N N (p0,(0:Int),(0:Int),y0)) fun y10=>
 some y10)):=by kernel_rfl
def c66 (N:Nat):Sym.Callee:=⟨f66.args,f66.ta,f66.res,f66.tr,0,F66 N⟩
theorem ok66 (N:Nat):CalOK tab 66 (c66 N):=fn_ok (f66.ok1 N) fuelW 66 f66.args f66.ta f66.res f66.tr 0
namespace f43
def bcut:Nat→Nat→Option (Nat×Ty):=fun c i=>match c,i with
 |0,13=>some (33,.bool)
 |_,_=>none
def ety:Nat→Nat→Option Ty:=fun c d=>match c,d with
 |0,29=>some (.int .u8)
 |_,_=>none
def args:List PSh:=[.agg [.sl TGType .bor,.sl .str .bor,.sl TFunc .bor]]
def ta:List Ty:=[(.sl TGType),(.sl .str),(.sl TFunc)]
def res:List (Bool×List CSh):=[(false,[.sl (.int .u8) .d])]
def tr:List Ty:=[(.sl (.int .u8))]
def E0 (N:Nat):SEnv:=(((((((SEnv.base tab cuts ccut bcut unr ety).addCal 60 (c60 N)).addCal 61 (c61 N)).addCal 62 (c62 N)).addCal 64 (c64 N)).addCal 63 (c63 N)).addCal 65 (c65 N)).addCal 66 (c66 N)
theorem ok0 (N:Nat):EnvOK tab (E0 N):=(((((((base_ok tab cuts ccut bcut unr ety).addCal (ok60 N)).addCal (ok61 N)).addCal (ok62 N)).addCal (ok64 N)).addCal (ok63 N)).addCal (ok65 N)).addCal (ok66 N)
def T0_4:Tmpl:=⟨[(1,.c (.ptr 0 1 0 0 0)),(3,.c (.ref 0 13 1 (.int .u8))),(4,.c (.int .i64))],[],[(0,1,.box 0 [.sl TGType .bor,.sl .str .bor,.sl TFunc .bor]),(0,13,.row 1 (.int .u8))],1,[],2,[(.int .i64),(.sl TGType),(.sl .str),(.sl TFunc),(.sl (.int .u8))]⟩
def O0_4:Outs:=[(.exit 0,⟨[(1,.c (.ptr 0 1 0 0 0)),(3,.c (.ref 0 13 1 (.int .u8)))],[],[(0,1,.box 0 [.sl TGType .bor,.sl .str .bor,.sl TFunc .bor]),(0,13,.row 1 (.int .u8))],1,[],2,[(.sl TGType),(.sl .str),(.sl TFunc),(.sl (.int .u8))]⟩)]
def L0_4 (N:Nat) (k:Nat) (x:(Int)×(List (GType))×(List (List UInt8))×(List (Func))×List (Int)):Option (((List (GType))×(List (List UInt8))×(List (Func))×List (Int))):=loopF (loopStep (E0 N) fuelW 0 4 (bodyAt t43 4) T0_4 O0_4) k x
theorem L0_4_succ (N:Nat) (k:Nat) (v1:Int) (v2:List (GType)) (v3:List (List UInt8)) (v4:List (Func)) (v5:List (Int)):L0_4 N (k+1) (v1,v2,v3,v4,v5) =
 (bif (decide (v1<(v2.length:Int)))
 then (Option.bind (idx v2 v1) fun x6=>
 (chk (room (v5.length+1) 1)
 ((Option.bind ((bif (x6.1==(4:Int))
 then some true
 else some (x6.1==(7:Int)))) fun b7=>
 (bif b7
 then (Option.bind (F60 N x6.2.1) fun y8=>
 (chk (room ((v5++[x6.1]).length+y8.length) 1)
 (L0_4 N k ((wi64 (v1+(1:Int))),v2,v3,v4,((v5++[x6.1])++y8)))))
 else (bif (x6.1==(6:Int))
 then (Option.bind (F60 N x6.2.1) fun y9=>
 (chk (room ((v5++[x6.1]).length+y9.length) 1)
 ((Option.bind (F60 N x6.2.2.1) fun y10=>
 (chk (room (((v5++[x6.1])++y9).length+y10.length) 1)
 (L0_4 N k ((wi64 (v1+(1:Int))),v2,v3,v4,(((v5++[x6.1])++y9)++y10))))))))
 else (bif (x6.1==(5:Int))
 then (Option.bind (F61 N x6.2.2.2) fun y11=>
 (chk (room ((v5++[x6.1]).length+y11.length) 1)
 (L0_4 N k ((wi64 (v1+(1:Int))),v2,v3,v4,((v5++[x6.1])++y11)))))
 else L0_4 N k ((wi64 (v1+(1:Int))),v2,v3,v4,(v5++[x6.1])))))))))
 else some (v2,v3,v4,v5)):=by kernel_rfl
def E1 (N:Nat):SEnv:=(E0 N).addLoop N 0 4 T0_4 O0_4
theorem ok1 (N:Nat):EnvOK tab (E1 N):=(ok0 N).addLoop N 0 4 T0_4 O0_4
def T0_27:Tmpl:=⟨[(1,.c (.ptr 0 1 0 0 0)),(3,.c (.ref 0 13 1 (.int .u8))),(6,.c (.int .i64))],[],[(0,1,.box 0 [.sl TGType .bor,.sl .str .bor,.sl TFunc .bor]),(0,13,.row 1 (.int .u8))],1,[],2,[(.int .i64),(.sl TGType),(.sl .str),(.sl TFunc),(.sl (.int .u8))]⟩
def O0_27:Outs:=[(.exit 3,⟨[(1,.c (.ptr 0 1 0 0 0)),(3,.c (.ref 0 13 1 (.int .u8)))],[],[(0,1,.box 0 [.sl TGType .bor,.sl .str .bor,.sl TFunc .bor]),(0,13,.row 1 (.int .u8))],1,[],2,[(.sl TGType),(.sl .str),(.sl TFunc),(.sl (.int .u8))]⟩)]
def L0_27 (N:Nat) (k:Nat) (x:(Int)×(List (GType))×(List (List UInt8))×(List (Func))×List (Int)):Option (((List (GType))×(List (List UInt8))×(List (Func))×List (Int))):=loopF (loopStep (E1 N) fuelW 0 27 (bodyAt t43 27) T0_27 O0_27) k x
theorem L0_27_succ (N:Nat) (k:Nat) (v14:Int) (v15:List (GType)) (v16:List (List UInt8)) (v17:List (Func)) (v18:List (Int)):L0_27 N (k+1) (v14,v15,v16,v17,v18) =
 (bif (decide (v14<(v16.length:Int)))
 then (Option.bind (idx v16 v14) fun x19=>
 (Option.bind (F62 N x19) fun y20=>
 (chk (room (v18.length+y20.length) 1)
 (L0_27 N k ((wi64 (v14+(1:Int))),v15,v16,v17,(v18++y20))))))
 else some (v15,v16,v17,v18)):=by kernel_rfl
def E2 (N:Nat):SEnv:=(E1 N).addLoop N 0 27 T0_27 O0_27
theorem ok2 (N:Nat):EnvOK tab (E2 N):=(ok1 N).addLoop N 0 27 T0_27 O0_27
def T0_46:Tmpl:=⟨[(1,.c (.ptr 0 1 0 0 0)),(3,.c (.ref 0 13 1 (.int .u8))),(7,.c (.int .i64)),(8,.c (.ptr 0 8 2 0 0)),(9,.c (.int .i64))],[],[(0,1,.box 0 [.sl TGType .bor,.sl .str .bor,.sl TFunc .bor]),(0,13,.row 1 (.int .u8)),(0,8,.box 2 [.str,.int .i64,.int .i64,.sl TField .d,.sl TInstr .d,.sl TRun .d,.sl TRun .d])],1,[],3,[(.int .i64),(.int .i64),(.sl TGType),(.sl .str),(.sl TFunc),(.sl (.int .u8)),.str,(.int .i64),(.int .i64),(.sl TField),(.sl TInstr),(.sl TRun),(.sl TRun)]⟩
def O0_46:Outs:=[(.exit 7,⟨[(1,.c (.ptr 0 1 0 0 0)),(3,.c (.ref 0 13 1 (.int .u8))),(7,.c (.int .i64)),(8,.c (.ptr 0 8 2 0 0))],[],[(0,1,.box 0 [.sl TGType .bor,.sl .str .bor,.sl TFunc .bor]),(0,13,.row 1 (.int .u8)),(0,8,.box 2 [.str,.int .i64,.int .i64,.sl TField .d,.sl TInstr .d,.sl TRun .d,.sl TRun .d])],1,[],3,[(.int .i64),(.sl TGType),(.sl .str),(.sl TFunc),(.sl (.int .u8)),.str,(.int .i64),(.int .i64),(.sl TField),(.sl TInstr),(.sl TRun),(.sl TRun)]⟩)]
def L0_46 (N:Nat) (k:Nat) (x:(Int)×(Int)×(List (GType))×(List (List UInt8))×(List (Func))×(List (Int))×(List UInt8)×(Int)×(Int)×(List (Field))×(List (Instr))×(List (Run))×List (Run)):Option (((Int)×(List (GType))×(List (List UInt8))×(List (Func))×(List (Int))×(List UInt8)×(Int)×(Int)×(List (Field))×(List (Instr))×(List (Run))×List (Run))):=loopF (loopStep (E2 N) fuelW 0 46 (bodyAt t43 46) T0_46 O0_46) k x
theorem L0_46_succ (N:Nat) (k:Nat) (v35:Int) (v36:Int) (v37:List (GType)) (v38:List (List UInt8)) (v39:List (Func)) (v40:List (Int)) (v41:List UInt8) (v42:Int) (v43:Int) (v44:List (Field)) (v45:List (Instr)) (v46:List (Run)) (v47:List (Run)):L0_46 N (k+1) (v35,v36,v37,v38,v39,v40,v41,v42,v43,v44,v45,v46,v47) =
 (bif (decide (v36<(v45.length:Int)))
 then (Option.bind (idx v45 v36) fun x48=>
 (Option.bind (F65 N (x48.1,x48.2.1,x48.2.2.1,x48.2.2.2)) fun y49=>
 (chk (room (v40.length+y49.length) 1)
 (L0_46 N k (v35,(wi64 (v36+(1:Int))),v37,v38,v39,(v40++y49),v41,v42,v43,v44,v45,v46,v47)))))
 else some (v35,v37,v38,v39,v40,v41,v42,v43,v44,v45,v46,v47)):=by kernel_rfl
def E3 (N:Nat):SEnv:=(E2 N).addLoop N 0 46 T0_46 O0_46
theorem ok3 (N:Nat):EnvOK tab (E3 N):=(ok2 N).addLoop N 0 46 T0_46 O0_46
def T0_36:Tmpl:=⟨[(1,.c (.ptr 0 1 0 0 0)),(3,.c (.ref 0 13 1 (.int .u8))),(7,.c (.int .i64))],[],[(0,1,.box 0 [.sl TGType .bor,.sl .str .bor,.sl TFunc .bor]),(0,13,.row 1 (.int .u8))],1,[],2,[(.int .i64),(.sl TGType),(.sl .str),(.sl TFunc),(.sl (.int .u8))]⟩
def O0_36:Outs:=[(.exit 5,⟨[(3,.c (.ref 0 13 0 (.int .u8)))],[],[(0,13,.row 0 (.int .u8))],1,[],1,[(.sl (.int .u8))]⟩)]
def L0_36 (N:Nat) (k:Nat) (x:(Int)×(List (GType))×(List (List UInt8))×(List (Func))×List (Int)):Option ((List (Int))):=loopF (loopStep (E3 N) fuelW 0 36 (bodyAt t43 36) T0_36 O0_36) k x
theorem L0_36_succ (N:Nat) (k:Nat) (v23:Int) (v24:List (GType)) (v25:List (List UInt8)) (v26:List (Func)) (v27:List (Int)):L0_36 N (k+1) (v23,v24,v25,v26,v27) =
 (bif (decide (v23<(v26.length:Int)))
 then (Option.bind (idx v26 v23) fun x28=>
 (Option.bind (F62 N x28.1) fun y29=>
 (chk (room (v27.length+y29.length) 1)
 ((Option.bind (F60 N x28.2.1) fun y30=>
 (chk (room ((v27++y29).length+y30.length) 1)
 ((Option.bind (F64 N x28.2.2.1) fun y31=>
 (Option.bind (F63 N y31) fun y32=>
 (chk (room (((v27++y29)++y30).length+y32.length) 1)
 ((Option.bind (F61 N x28.2.2.2.1) fun y33=>
 (chk (room ((((v27++y29)++y30)++y32).length+y33.length) 1)
 ((Option.bind (F60 N (x28.2.2.2.2.1.length:Int)) fun y34=>
 (chk (room (((((v27++y29)++y30)++y32)++y33).length+y34.length) 1)
 ((Option.bind (L0_46 N N (v23,(0:Int),v24,v25,v26,(((((v27++y29)++y30)++y32)++y33)++y34),x28.1,x28.2.1,x28.2.2.1,x28.2.2.2.1,x28.2.2.2.2.1,x28.2.2.2.2.2.1,x28.2.2.2.2.2.2)) fun y50=>
 (Option.bind (F66 N y50.2.2.2.2.2.2.2.2.2.2.1) fun y51=>
 (chk (room (y50.2.2.2.2.1.length+y51.length) 1)
 ((Option.bind (F66 N y50.2.2.2.2.2.2.2.2.2.2.2) fun y52=>
 (chk (room ((y50.2.2.2.2.1++y51).length+y52.length) 1)
 (L0_36 N k ((wi64 (y50.1+(1:Int))),y50.2.1,y50.2.2.1,y50.2.2.2.1,((y50.2.2.2.2.1++y51)++y52))))))))))))))))))))))))))
 else some v27):=by kernel_rfl
def E4 (N:Nat):SEnv:=(E3 N).addLoop N 0 36 T0_36 O0_36
theorem ok4 (N:Nat):EnvOK tab (E4 N):=(ok3 N).addLoop N 0 36 T0_36 O0_36
end f43
def F43 (N:Nat) (x:(List (GType))×(List (List UInt8))×List (Func)):Option (List (Int)):=fnRun (f43.E4 N) fuelW 43 f43.args f43.ta f43.res f43.tr 0 x
open f43 in
theorem F43_eq (N:Nat) (p0:List (GType)) (p1:List (List UInt8)) (p2:List (Func)):F43 N (p0,p1,p2) =
 (Option.bind (F60 N (p0.length:Int)) fun y0=>
 (Option.bind (L0_4 N N ((0:Int),p0,p1,p2,y0)) fun y12=>
 (Option.bind (F60 N (y12.2.1.length:Int)) fun y13=>
 (chk (room (y12.2.2.2.length+y13.length) 1)
 ((Option.bind (L0_27 N N ((0:Int),y12.1,y12.2.1,y12.2.2.1,(y12.2.2.2++y13))) fun y21=>
 (Option.bind (F60 N (y21.2.2.1.length:Int)) fun y22=>
 (chk (room (y21.2.2.2.length+y22.length) 1)
 ((Option.bind (L0_36 N N ((0:Int),y21.1,y21.2.1,y21.2.2.1,(y21.2.2.2++y22))) fun y53=>
 some y53)))))))))):=by kernel_rfl
def c43 (N:Nat):Sym.Callee:=⟨f43.args,f43.ta,f43.res,f43.tr,0,F43 N⟩
theorem ok43 (N:Nat):CalOK tab 43 (c43 N):=fn_ok (f43.ok4 N) fuelW 43 f43.args f43.ta f43.res f43.tr 0
namespace f16
def args:List PSh:=[.agg [.sl TGType .bor,.sl .str .bor,.sl TFunc .bor]]
def ta:List Ty:=[(.sl TGType),(.sl .str),(.sl TFunc)]
def res:List (Bool×List CSh):=[(false,[.int .i64])]
def tr:List Ty:=[(.int .i64)]
def E0 (N:Nat):SEnv:=((SEnv.base tab cuts ccut bcut unr ety).addCal 42 (c42 N)).addCal 43 (c43 N)
theorem ok0 (N:Nat):EnvOK tab (E0 N):=((base_ok tab cuts ccut bcut unr ety).addCal (ok42 N)).addCal (ok43 N)
end f16
def F16 (N:Nat) (x:(List (GType))×(List (List UInt8))×List (Func)):Option (Int):=fnRun (f16.E0 N) fuelW 16 f16.args f16.ta f16.res f16.tr 0 x
open f16 in
theorem F16_eq (N:Nat) (p0:List (GType)) (p1:List (List UInt8)) (p2:List (Func)):F16 N (p0,p1,p2) =
 (Option.bind (F42 N (p0,p1,p2)) fun y0=>
 (bif (!y0)
 then some (8:Int)
 else (Option.bind (F43 N (p0,p1,p2)) fun y1=>
 (bif (decide ((y1.length:Int)>(20000:Int)))
 then some (4:Int)
 else some (0:Int))))):=by kernel_rfl
def c16 (N:Nat):Sym.Callee:=⟨f16.args,f16.ta,f16.res,f16.tr,0,F16 N⟩
theorem ok16 (N:Nat):CalOK tab 16 (c16 N):=fn_ok (f16.ok0 N) fuelW 16 f16.args f16.ta f16.res f16.tr 0
namespace f18
def args:List PSh:=[.c (.int .i64),.c (.int .i64)]
def ta:List Ty:=[(.int .i64),(.int .i64)]
def res:List (Bool×List CSh):=[(false,[.int .u64])]
def tr:List Ty:=[(.int .u64)]
def E0 (N:Nat):SEnv:=SEnv.base tab cuts ccut bcut unr ety
theorem ok0 (N:Nat):EnvOK tab (E0 N):=base_ok tab cuts ccut bcut unr ety
end f18
def F18 (N:Nat) (x:(Int)×Int):Option (Int):=fnRun (f18.E0 N) fuelW 18 f18.args f18.ta f18.res f18.tr 0 x
open f18 in
theorem F18_eq (N:Nat) (p0:Int) (p1:Int):F18 N (p0,p1) =
 some (wu64 (wi64 ((wi64 ((256:Int)*(wi64 (p0+(1:Int)))))+p1))):=by kernel_rfl
def c18 (N:Nat):Sym.Callee:=⟨f18.args,f18.ta,f18.res,f18.tr,0,F18 N⟩
theorem ok18 (N:Nat):CalOK tab 18 (c18 N):=fn_ok (f18.ok0 N) fuelW 18 f18.args f18.ta f18.res f18.tr 0
namespace f46
def args:List PSh:=[.c (.sl TGType .bor),.c (.int .i64)]
def ta:List Ty:=[(.sl TGType),(.int .i64)]
def res:List (Bool×List CSh):=[(false,[.int .i64])]
def tr:List Ty:=[(.int .i64)]
def E0 (N:Nat):SEnv:=(SEnv.base tab cuts ccut bcut unr ety).addCal 58 (c58 N)
theorem ok0 (N:Nat):EnvOK tab (E0 N):=(base_ok tab cuts ccut bcut unr ety).addCal (ok58 N)
end f46
def F46 (N:Nat) (x:(List (GType))×Int):Option (Int):=fnRun (f46.E0 N) fuelW 46 f46.args f46.ta f46.res f46.tr 0 x
open f46 in
theorem F46_eq (N:Nat) (p0:List (GType)) (p1:Int):F46 N (p0,p1) =
 (Option.bind (F58 N p0) fun y0=>
 (Option.bind (idx y0.1 p1) fun x1=>
 some x1)):=by kernel_rfl
def c46 (N:Nat):Sym.Callee:=⟨f46.args,f46.ta,f46.res,f46.tr,0,F46 N⟩
theorem ok46 (N:Nat):CalOK tab 46 (c46 N):=fn_ok (f46.ok0 N) fuelW 46 f46.args f46.ta f46.res f46.tr 0
namespace f25
def args:List PSh:=[.c (.int .i64)]
def ta:List Ty:=[(.int .i64)]
def res:List (Bool×List CSh):=[(false,[.int .i64])]
def tr:List Ty:=[(.int .i64)]
def E0 (N:Nat):SEnv:=(SEnv.base tab cuts ccut bcut unr ety).addCal 48 (c48 N)
theorem ok0 (N:Nat):EnvOK tab (E0 N):=(base_ok tab cuts ccut bcut unr ety).addCal (ok48 N)
end f25
def F25 (N:Nat) (x:Int):Option (Int):=fnRun (f25.E0 N) fuelW 25 f25.args f25.ta f25.res f25.tr 0 x
open f25 in
theorem F25_eq (N:Nat) (p0:Int):F25 N p0 =
 (Option.bind (F48 N (p0,(8:Int))) fun y0=>
 some y0):=by kernel_rfl
def c25 (N:Nat):Sym.Callee:=⟨f25.args,f25.ta,f25.res,f25.tr,0,F25 N⟩
theorem ok25 (N:Nat):CalOK tab 25 (c25 N):=fn_ok (f25.ok0 N) fuelW 25 f25.args f25.ta f25.res f25.tr 0
namespace f19
def args:List PSh:=[.agg [.sl TGType .bor,.sl .str .bor,.sl TFunc .bor],.c (.int .i64)]
def ta:List Ty:=[(.sl TGType),(.sl .str),(.sl TFunc),(.int .i64)]
def res:List (Bool×List CSh):=[(false,[.int .i64])]
def tr:List Ty:=[(.int .i64)]
def E0 (N:Nat):SEnv:=((SEnv.base tab cuts ccut bcut unr ety).addCal 46 (c46 N)).addCal 25 (c25 N)
theorem ok0 (N:Nat):EnvOK tab (E0 N):=((base_ok tab cuts ccut bcut unr ety).addCal (ok46 N)).addCal (ok25 N)
def T0_4:Tmpl:=⟨[(1,.c (.int .i64)),(2,.c (.ptr 0 2 0 0 0)),(5,.c (.int .i64)),(6,.c (.int .i64))],[],[(0,2,.box 0 [.sl TGType .bor,.sl .str .bor,.sl TFunc .bor])],1,[],1,[(.int .i64),(.int .i64),(.int .i64),(.sl TGType),(.sl .str),(.sl TFunc)]⟩
def O0_4:Outs:=[(.exit 0,⟨[(5,.c (.int .i64))],[],[],1,[],0,[(.int .i64)]⟩)]
def L0_4 (N:Nat) (k:Nat) (x:(Int)×(Int)×(Int)×(List (GType))×(List (List UInt8))×List (Func)):Option ((Int)):=loopF (loopStep (E0 N) fuelW 0 4 (bodyAt t19 4) T0_4 O0_4) k x
theorem L0_4_succ (N:Nat) (k:Nat) (v0:Int) (v1:Int) (v2:Int) (v3:List (GType)) (v4:List (List UInt8)) (v5:List (Func)):L0_4 N (k+1) (v0,v1,v2,v3,v4,v5) =
 (Option.bind (idx v5 v0) fun x6=>
 (bif (decide (v2<x6.2.1))
 then (Option.bind (idx v5 v0) fun x7=>
 (Option.bind (idx x7.2.2.2.1 v2) fun x8=>
 (Option.bind (F46 N (v3,x8.2)) fun y9=>
 (Option.bind (F25 N y9) fun y10=>
 L0_4 N k (v0,(wi64 (v1+y10)),(wi64 (v2+(1:Int))),v3,v4,v5)))))
 else some v1)):=by kernel_rfl
def E1 (N:Nat):SEnv:=(E0 N).addLoop N 0 4 T0_4 O0_4
theorem ok1 (N:Nat):EnvOK tab (E1 N):=(ok0 N).addLoop N 0 4 T0_4 O0_4
end f19
def F19 (N:Nat) (x:(List (GType))×(List (List UInt8))×(List (Func))×Int):Option (Int):=fnRun (f19.E1 N) fuelW 19 f19.args f19.ta f19.res f19.tr 0 x
open f19 in
theorem F19_eq (N:Nat) (p0:List (GType)) (p1:List (List UInt8)) (p2:List (Func)) (p3:Int):F19 N (p0,p1,p2,p3) =
 (Option.bind (L0_4 N N (p3,(0:Int),(0:Int),p0,p1,p2)) fun y11=>
 some y11):=by kernel_rfl
def c19 (N:Nat):Sym.Callee:=⟨f19.args,f19.ta,f19.res,f19.tr,0,F19 N⟩
theorem ok19 (N:Nat):CalOK tab 19 (c19 N):=fn_ok (f19.ok1 N) fuelW 19 f19.args f19.ta f19.res f19.tr 0
namespace f21
def args:List PSh:=[.c (.sl TSpot .bor),.c (.sl TSpot .bor)]
def ta:List Ty:=[(.sl TSpot),(.sl TSpot)]
def res:List (Bool×List CSh):=[(false,[.bool])]
def tr:List Ty:=[.bool]
def E0 (N:Nat):SEnv:=SEnv.base tab cuts ccut bcut unr ety
theorem ok0 (N:Nat):EnvOK tab (E0 N):=base_ok tab cuts ccut bcut unr ety
def T0_6:Tmpl:=⟨[(0,.c (.sl TSpot .bor)),(1,.c (.sl TSpot .bor)),(5,.c (.int .i64))],[],[],1,[],0,[(.sl TSpot),(.sl TSpot),(.int .i64)]⟩
def O0_6:Outs:=[(.ret,⟨[(4,.c (.bool))],[],[],1,[],0,[.bool]⟩),(.exit 0,⟨[],[],[],1,[],0,[]⟩)]
def L0_6 (N:Nat) (k:Nat) (x:(List (Spot))×(List (Spot))×Int):Option ((Bool)⊕(Unit)):=loopF (loopStep (E0 N) fuelW 0 6 (bodyAt t21 6) T0_6 O0_6) k x
theorem L0_6_succ (N:Nat) (k:Nat) (v0:List (Spot)) (v1:List (Spot)) (v2:Int):L0_6 N (k+1) (v0,v1,v2) =
 (bif (decide (v2<(v0.length:Int)))
 then (Option.bind (idx v0 v2) fun x3=>
 (Option.bind (idx v1 v2) fun x4=>
 (bif (!(x3.1==x4.1&&(x3.2.1==x4.2.1&&(x3.2.2.1==x4.2.2.1&&(x3.2.2.2.1==x4.2.2.2.1&&(x3.2.2.2.2==x4.2.2.2.2&&true))))))
 then some (Sum.inl false)
 else L0_6 N k (v0,v1,(wi64 (v2+(1:Int)))))))
 else some (Sum.inr ())):=by kernel_rfl
def E1 (N:Nat):SEnv:=(E0 N).addLoop N 0 6 T0_6 O0_6
theorem ok1 (N:Nat):EnvOK tab (E1 N):=(ok0 N).addLoop N 0 6 T0_6 O0_6
end f21
def F21 (N:Nat) (x:(List (Spot))×List (Spot)):Option (Bool):=fnRun (f21.E1 N) fuelW 21 f21.args f21.ta f21.res f21.tr 0 x
open f21 in
theorem F21_eq (N:Nat) (p0:List (Spot)) (p1:List (Spot)):F21 N (p0,p1) =
 (bif ((p0.length:Int) != (p1.length:Int))
 then some false
 else (Option.bind (L0_6 N N (p0,p1,(0:Int))) fun y5=>
 (match y5 with
 |.inl a6=>some a6
 |.inr b7=>some true))):=by kernel_rfl
def c21 (N:Nat):Sym.Callee:=⟨f21.args,f21.ta,f21.res,f21.tr,0,F21 N⟩
theorem ok21 (N:Nat):CalOK tab 21 (c21 N):=fn_ok (f21.ok1 N) fuelW 21 f21.args f21.ta f21.res f21.tr 0
namespace f4
def bcut:Nat→Nat→Option (Nat×Ty):=fun c i=>match c,i with
 |0,2=>some (54,.bool)
 |0,15=>some (96,.bool)
 |0,20=>some (15,(.int .u64))
 |0,24=>some (133,.bool)
 |0,26=>some (6,.bool)
 |0,35=>some (182,.bool)
 |0,38=>some (189,.bool)
 |0,52=>some (238,.bool)
 |0,57=>some (6,.bool)
 |0,100015=>some (96,.bool)
 |0,100020=>some (15,(.int .u64))
 |0,100024=>some (133,.bool)
 |0,100026=>some (6,.bool)
 |0,100035=>some (182,.bool)
 |0,100038=>some (189,.bool)
 |0,200052=>some (238,.bool)
 |_,_=>none
def unr:Nat→Nat→Bool:=fun c i=>match c,i with
 |0,10=>true
 |_,_=>false
def ety:Nat→Nat→Option Ty:=fun c d=>match c,d with
 |0,10=>some TSpot
 |0,123=>some (.int .u8)
 |0,165=>some (.int .u8)
 |0,203=>some TSpot
 |_,_=>none
def args:List PSh:=[.agg [.sl TGType .d,.sl .str .d,.sl TFunc .d],.c (.sl Textent .d),.c (.sl (.int .u64) .d)]
def ta:List Ty:=[(.sl TGType),(.sl .str),(.sl TFunc),(.sl Textent),(.sl (.int .u64))]
def res:List (Bool×List CSh):=[(false,[.bool])]
def tr:List Ty:=[.bool]
def E0 (N:Nat):SEnv:=(((((((((SEnv.base tab cuts ccut bcut unr ety).addCal 15 (c15 N)).addCal 6 (c6 N)).addCal 16 (c16 N)).addCal 18 (c18 N)).addCal 17 (c17 N)).addCal 19 (c19 N)).addCal 8 (c8 N)).addCal 20 (c20 N)).addCal 21 (c21 N)
theorem ok0 (N:Nat):EnvOK tab (E0 N):=(((((((((base_ok tab cuts ccut bcut unr ety).addCal (ok15 N)).addCal (ok6 N)).addCal (ok16 N)).addCal (ok18 N)).addCal (ok17 N)).addCal (ok19 N)).addCal (ok8 N)).addCal (ok20 N)).addCal (ok21 N)
def T0_100010:Tmpl:=⟨[(1,.c (.sl Textent .d)),(2,.c (.sl (.int .u64) .d)),(3,.c (.ptr 0 3 0 0 0)),(7,.c (.bool)),(8,.c (.ptr 0 8 1 0 0)),(9,.c (.int .u64)),(10,.c (.ref 0 10 2 TSpot)),(11,.c (.int .i64))],[],[(0,3,.box 0 [.sl TGType .d,.sl .str .d,.sl TFunc .d]),(0,8,.box 1 [.int .u64,.ref 0 124 3 (.int .u8)]),(0,124,.row 3 (.int .u8)),(0,10,.row 2 TSpot)],1,[],4,[(.sl Textent),(.sl (.int .u64)),.bool,(.int .u64),(.int .i64),(.sl TGType),(.sl .str),(.sl TFunc),(.int .u64),(.sl (.int .u8)),(.sl TSpot)]⟩
def O0_100010:Outs:=[(.ret,⟨[(6,.c (.bool))],[],[],1,[],0,[.bool]⟩),(.exit 0,⟨[(3,.c (.ptr 0 3 0 0 0)),(7,.c (.bool)),(8,.c (.ptr 0 8 1 0 0)),(9,.c (.int .u64)),(10,.c (.ref 0 10 2 TSpot))],[],[(0,3,.box 0 [.sl TGType .d,.sl .str .d,.sl TFunc .d]),(0,8,.box 1 [.int .u64,.ref 0 124 3 (.int .u8)]),(0,124,.row 3 (.int .u8)),(0,10,.row 2 TSpot)],1,[],4,[.bool,(.int .u64),(.sl TGType),(.sl .str),(.sl TFunc),(.int .u64),(.sl (.int .u8)),(.sl TSpot)]⟩)]
def L0_100010 (N:Nat) (k:Nat) (x:(List (extent))×(List (Int))×(Bool)×(Int)×(Int)×(List (GType))×(List (List UInt8))×(List (Func))×(Int)×(List (Int))×List (Spot)):Option ((Bool)⊕((Bool)×(Int)×(List (GType))×(List (List UInt8))×(List (Func))×(Int)×(List (Int))×List (Spot))):=loopF (loopStep (E0 N) fuelW 0 100010 (bodyAt t4 10) T0_100010 O0_100010) k x
theorem L0_100010_succ (N:Nat) (k:Nat) (v19:List (extent)) (v20:List (Int)) (v21:Bool) (v22:Int) (v23:Int) (v24:List (GType)) (v25:List (List UInt8)) (v26:List (Func)) (v27:Int) (v28:List (Int)) (v29:List (Spot)):L0_100010 N (k+1) (v19,v20,v21,v22,v23,v24,v25,v26,v27,v28,v29) =
 (bif (decide (v23<(v19.length:Int)))
 then (Option.bind (idx v19 v23) fun x30=>
 (Option.bind (idx v19 v23) fun x31=>
 (Option.bind ((bif (decide (x30.1<(0:Int)))
 then some true
 else (bif (decide (x30.1≥(v26.length:Int)))
 then some true
 else (bif (decide (x31.2<(0:Int)))
 then some true
 else (Option.bind (idx v26 x30.1) fun x32=>
 some (decide (x31.2≥(x32.2.2.2.2.1.length:Int)))))))) fun b33=>
 (bif b33
 then some (Sum.inl v21)
 else (Option.bind (idx v20 v23) fun x34=>
 (Option.bind ((bif (decide ((Int.tmod x34 (4:Int))>(1:Int)))
 then some (65536:Int)
 else some (0:Int))) fun b35=>
 (Option.bind (F18 N (x30.1,x31.2)) fun y36=>
 (Option.bind (F17 N (v24,v25,v26,y36)) fun y37=>
 (Option.bind (F19 N (v24,v25,v26,x30.1)) fun y38=>
 (chk (decide (0≤y38))
 ((chk (decide (0≤y38))
 ((chk (decide ((Int.toNat y38)≤(Int.toNat y38))&&room (Int.toNat y38) 1)
 ((Option.bind (F8 N (v27,v28,v24,v25,v26,x30.1,v22,(Int.tmod x34 (4:Int)),b35,(List.replicate (Int.toNat y38) (0:Int)),(4096:Int))) fun y39=>
 (Option.bind ((bif (y37.2 != (0:Int))
 then some true
 else some (y39.2.2.2 != (0:Int)))) fun b40=>
 (bif b40
 then (Option.bind ((bif v21
 then (bif (y37.2==(16:Int))
 then some true
 else some (y39.2.2.2==(18:Int)))
 else some false)) fun b41=>
 some (Sum.inl b41))
 else (bif (decide ((wi64 ((wi64 (wu64 (y39.2.2.1-v27)))+y37.1))<(y39.2.1.length:Int)))
 then some (Sum.inl false)
 else (bif (decide ((wi64 ((wi64 (wu64 (y39.2.2.1-v27)))+y37.1))>(4096:Int)))
 then some (Sum.inl v21)
 else (chk (decide (0≤(wi64 ((wi64 ((wi64 (wu64 (y39.2.2.1-v27)))+y37.1))-(y39.2.1.length:Int)))))
 ((chk (room (Int.toNat (wi64 ((wi64 ((wi64 (wu64 (y39.2.2.1-v27)))+y37.1))-(y39.2.1.length:Int)))) 1)
 ((chk (room (y39.2.1.length+(List.replicate (Int.toNat (wi64 ((wi64 ((wi64 (wu64 (y39.2.2.1-v27)))+y37.1))-(y39.2.1.length:Int)))) ((0:Int):Int)).length) 1)
 ((Option.bind ((bif ((Int.tmod (wi64 ((wi64 (wu64 (y39.2.2.1-v27)))+y37.1)) (8:Int)) != (0:Int))
 then some true
 else (bif ((Int.tmod x34 (4:Int))==(0:Int))
 then (bif (decide (v23>(0:Int)))
 then some ((Int.tmod v22 (256:Int))==(0:Int))
 else some false)
 else some false))) fun b42=>
 (bif b42
 then some (Sum.inl v21)
 else (Option.bind ((bif (decide (v23>(0:Int)))
 then some ((Int.tmod x34 (4:Int))==(0:Int))
 else some false)) fun b43=>
 (bif b43
 then (chk (inR (0:Int) v29.length)
 ((Option.bind (v29[(Int.toNat (0:Int))]?) fun x44=>
 (chk (inR (0:Int) v29.length)
 ((Option.bind (v29[(Int.toNat (0:Int))]?) fun x45=>
 (chk (room (1+(v29.set (Int.toNat (0:Int)) (x45.1,x45.2.1,(wi64 (x44.2.2.1-(1:Int))),x45.2.2.2)).length) 40)
 ((Option.bind (F18 N (x30.1,x31.2)) fun y46=>
 L0_100010 N k (v19,v20,v21,y46,(wi64 (v23+(1:Int))),v24,v25,v26,y39.1,(y39.2.1++(List.replicate (Int.toNat (wi64 ((wi64 ((wi64 (wu64 (y39.2.2.1-v27)))+y37.1))-(y39.2.1.length:Int)))) ((0:Int):Int))),([(y39.2.2.1,x30.1,x31.2,(Int.tmod x34 (4:Int)),b35)]++(v29.set (Int.toNat (0:Int)) (x45.1,x45.2.1,(wi64 (x44.2.2.1-(1:Int))),x45.2.2.2)))))))))))))
 else (chk (room (1+v29.length) 40)
 ((Option.bind (F18 N (x30.1,x31.2)) fun y47=>
 L0_100010 N k (v19,v20,v21,y47,(wi64 (v23+(1:Int))),v24,v25,v26,y39.1,(y39.2.1++(List.replicate (Int.toNat (wi64 ((wi64 ((wi64 (wu64 (y39.2.2.1-v27)))+y37.1))-(y39.2.1.length:Int)))) ((0:Int):Int))),([(y39.2.2.1,x30.1,x31.2,(Int.tmod x34 (4:Int)),b35)]++v29)))))))))))))))))))))))))))))))))))
 else some (Sum.inr (v21,v22,v24,v25,v26,v27,v28,v29))):=by kernel_rfl
def E1 (N:Nat):SEnv:=(E0 N).addLoop N 0 100010 T0_100010 O0_100010
theorem ok1 (N:Nat):EnvOK tab (E1 N):=(ok0 N).addLoop N 0 100010 T0_100010 O0_100010
def T0_200048:Tmpl:=⟨[(7,.c (.bool)),(8,.c (.ptr 0 8 0 0 0)),(10,.c (.ref 0 10 1 TSpot)),(22,.c (.sl TSpot .d)),(23,.c (.int .i64)),(24,.c (.int .u64)),(25,.c (.int .i64))],[],[(0,8,.box 0 [.int .u64,.ref 0 124 2 (.int .u8)]),(0,10,.row 1 TSpot)],1,[],3,[.bool,(.sl TSpot),(.int .i64),(.int .u64),(.int .i64),(.int .u64),(.sl TSpot)]⟩
def O0_200048:Outs:=[(.ret,⟨[(6,.c (.bool))],[],[],1,[],0,[.bool]⟩),(.exit 2,⟨[(7,.c (.bool)),(8,.c (.ptr 0 8 0 0 0)),(10,.c (.ref 0 10 1 TSpot)),(22,.c (.sl TSpot .d)),(23,.c (.int .i64)),(24,.c (.int .u64))],[],[(0,8,.box 0 [.int .u64,.ref 0 124 2 (.int .u8)]),(0,10,.row 1 TSpot)],1,[],3,[.bool,(.sl TSpot),(.int .i64),(.int .u64),(.int .u64),(.sl TSpot)]⟩)]
def L0_200048 (N:Nat) (k:Nat) (x:(Bool)×(List (Spot))×(Int)×(Int)×(Int)×(Int)×List (Spot)):Option ((Bool)⊕((Bool)×(List (Spot))×(Int)×(Int)×(Int)×List (Spot))):=loopF (loopStep (E1 N) fuelW 0 200048 (bodyAt t4 48) T0_200048 O0_200048) k x
theorem L0_200048_succ (N:Nat) (k:Nat) (v52:Bool) (v53:List (Spot)) (v54:Int) (v55:Int) (v56:Int) (v57:Int) (v58:List (Spot)):L0_200048 N (k+1) (v52,v53,v54,v55,v56,v57,v58) =
 (bif (decide (v56<(v53.length:Int)))
 then (Option.bind ((bif (decide (v56>(0:Int)))
 then (Option.bind (idx v53 v56) fun x59=>
 (Option.bind (idx v53 (wi64 (v56-(1:Int)))) fun x60=>
 some (decide (x59.1≥x60.1))))
 else some false)) fun b61=>
 (bif b61
 then some (Sum.inl false)
 else (Option.bind (idx v53 v56) fun x62=>
 L0_200048 N k (v52,v53,v54,x62.1,(wi64 (v56+(1:Int))),v57,v58))))
 else some (Sum.inr (v52,v53,v54,v55,v57,v58))):=by kernel_rfl
def E2 (N:Nat):SEnv:=(E1 N).addLoop N 0 200048 T0_200048 O0_200048
theorem ok2 (N:Nat):EnvOK tab (E2 N):=(ok1 N).addLoop N 0 200048 T0_200048 O0_200048
def T0_48:Tmpl:=⟨[(7,.c (.bool)),(8,.c (.ptr 0 8 0 0 0)),(10,.c (.ref 0 10 1 TSpot)),(22,.c (.sl TSpot .d)),(23,.c (.int .i64)),(24,.c (.int .u64)),(25,.c (.int .i64))],[],[(0,8,.box 0 [.int .u64,.nil true]),(0,10,.row 1 TSpot)],1,[],2,[.bool,(.sl TSpot),(.int .i64),(.int .u64),(.int .i64),(.int .u64),(.sl TSpot)]⟩
def O0_48:Outs:=[(.ret,⟨[(6,.c (.bool))],[],[],1,[],0,[.bool]⟩),(.exit 2,⟨[(7,.c (.bool)),(8,.c (.ptr 0 8 0 0 0)),(10,.c (.ref 0 10 1 TSpot)),(22,.c (.sl TSpot .d)),(23,.c (.int .i64)),(24,.c (.int .u64))],[],[(0,8,.box 0 [.int .u64,.nil true]),(0,10,.row 1 TSpot)],1,[],2,[.bool,(.sl TSpot),(.int .i64),(.int .u64),(.int .u64),(.sl TSpot)]⟩)]
def L0_48 (N:Nat) (k:Nat) (x:(Bool)×(List (Spot))×(Int)×(Int)×(Int)×(Int)×List (Spot)):Option ((Bool)⊕((Bool)×(List (Spot))×(Int)×(Int)×(Int)×List (Spot))):=loopF (loopStep (E2 N) fuelW 0 48 (bodyAt t4 48) T0_48 O0_48) k x
def E3 (N:Nat):SEnv:=(E2 N).addLoop N 0 48 T0_48 O0_48
theorem ok3 (N:Nat):EnvOK tab (E3 N):=(ok2 N).addLoop N 0 48 T0_48 O0_48
end f4
def F4 (N:Nat) (x:(List (GType))×(List (List UInt8))×(List (Func))×(List (extent))×List (Int)):Option (Bool):=fnRun (f4.E3 N) fuelW 4 f4.args f4.ta f4.res f4.tr 0 x
open f4 in
theorem F4_eq (N:Nat) (p0:List (GType)) (p1:List (List UInt8)) (p2:List (Func)) (p3:List (extent)) (p4:List (Int)):F4 N (p0,p1,p2,p3,p4) =
 (Option.bind (F15 N ()) fun y0=>
 (Option.bind ((Option.bind (F6 N (p0,p1,p2)) fun y1=>
 (bif y1
 then some true
 else (Option.bind (F16 N (p0,p1,p2)) fun y2=>
 (bif (y2 != (0:Int))
 then some true
 else (bif (decide ((p3.length:Int)<(1:Int)))
 then some true
 else (bif (decide ((p3.length:Int)>(10:Int)))
 then some true
 else (bif (decide ((p4.length:Int)<(p3.length:Int)))
 then some true
 else some (!y0))))))))) fun b3=>
 (bif b3
 then some y0
 else (bif (decide ((0:Int)<(p3.length:Int)))
 then (Option.bind (idx p3 (0:Int)) fun x4=>
 (Option.bind (idx p3 (0:Int)) fun x5=>
 (Option.bind ((bif (decide (x4.1<(0:Int)))
 then some true
 else (bif (decide (x4.1≥(p2.length:Int)))
 then some true
 else (bif (decide (x5.2<(0:Int)))
 then some true
 else (Option.bind (idx p2 x4.1) fun x6=>
 some (decide (x5.2≥(x6.2.2.2.2.1.length:Int)))))))) fun b7=>
 (bif b7
 then some y0
 else (Option.bind (idx p4 (0:Int)) fun x8=>
 (Option.bind ((bif (decide ((Int.tmod x8 (4:Int))>(1:Int)))
 then some (65536:Int)
 else some (0:Int))) fun b9=>
 (Option.bind (F18 N (x4.1,x5.2)) fun y10=>
 (Option.bind (F17 N (p0,p1,p2,y10)) fun y11=>
 (Option.bind (F19 N (p0,p1,p2,x4.1)) fun y12=>
 (chk (decide (0≤y12))
 ((chk (decide (0≤y12))
 ((chk (decide ((Int.toNat y12)≤(Int.toNat y12))&&room (Int.toNat y12) 1)
 ((Option.bind (F8 N ((33554432:Int),[],p0,p1,p2,x4.1,(0:Int),(Int.tmod x8 (4:Int)),b9,(List.replicate (Int.toNat y12) (0:Int)),(4096:Int))) fun y13=>
 (Option.bind ((bif (y11.2 != (0:Int))
 then some true
 else some (y13.2.2.2 != (0:Int)))) fun b14=>
 (bif b14
 then (Option.bind ((bif y0
 then (bif (y11.2==(16:Int))
 then some true
 else some (y13.2.2.2==(18:Int)))
 else some false)) fun b15=>
 some b15)
 else (bif (decide ((wi64 ((wi64 (wu64 (y13.2.2.1-(33554432:Int))))+y11.1))<(y13.2.1.length:Int)))
 then some false
 else (bif (decide ((wi64 ((wi64 (wu64 (y13.2.2.1-(33554432:Int))))+y11.1))>(4096:Int)))
 then some y0
 else (chk (decide (0≤(wi64 ((wi64 ((wi64 (wu64 (y13.2.2.1-(33554432:Int))))+y11.1))-(y13.2.1.length:Int)))))
 ((chk (room (Int.toNat (wi64 ((wi64 ((wi64 (wu64 (y13.2.2.1-(33554432:Int))))+y11.1))-(y13.2.1.length:Int)))) 1)
 ((chk (room (y13.2.1.length+(List.replicate (Int.toNat (wi64 ((wi64 ((wi64 (wu64 (y13.2.2.1-(33554432:Int))))+y11.1))-(y13.2.1.length:Int)))) ((0:Int):Int)).length) 1)
 ((Option.bind ((bif ((Int.tmod (wi64 ((wi64 (wu64 (y13.2.2.1-(33554432:Int))))+y11.1)) (8:Int)) != (0:Int))
 then some true
 else (bif ((Int.tmod x8 (4:Int))==(0:Int))
 then some false
 else some false))) fun b16=>
 (bif b16
 then some y0
 else (chk (room (1+0) 40)
 ((Option.bind (F18 N (x4.1,x5.2)) fun y18=>
 (Option.bind (L0_100010 N N (p3,p4,y0,y18,(1:Int),p0,p1,p2,y13.1,(y13.2.1++(List.replicate (Int.toNat (wi64 ((wi64 ((wi64 (wu64 (y13.2.2.1-(33554432:Int))))+y11.1))-(y13.2.1.length:Int)))) ((0:Int):Int))),([(y13.2.2.1,x4.1,x5.2,(Int.tmod x8 (4:Int)),b9)]++([]:List ((Int)×((Int)×((Int)×((Int)×(Int))))))))) fun y48=>
 (match y48 with
 |.inl a49=>some a49
 |.inr b50=>(Option.bind (F20 N (b50.2.2.2.2.2.1,b50.2.2.2.2.2.2.1,b50.2.2.1,b50.2.2.2.1,b50.2.2.2.2.1,b50.2.1)) fun y51=>
 (Option.bind (L0_200048 N N (b50.1,y51.1,y51.2,(0:Int),(0:Int),b50.2.2.2.2.2.1,b50.2.2.2.2.2.2.2)) fun y63=>
 (match y63 with
 |.inl a64=>some a64
 |.inr b65=>(Option.bind ((bif b65.1
 then (bif (b65.2.2.1==(0:Int))
 then (Option.bind (F21 N (b65.2.1,b65.2.2.2.2.2)) fun y66=>
 (bif y66
 then some (b65.2.2.2.1==b65.2.2.2.2.1)
 else some false))
 else some false)
 else some false)) fun b67=>
 some b67)))))))))))))))))))))))))))))))))))))
 else (Option.bind (F20 N ((33554432:Int),[],p0,p1,p2,(0:Int))) fun y68=>
 (Option.bind (L0_48 N N (y0,y68.1,y68.2,(0:Int),(0:Int),(33554432:Int),([]:List ((Int)×((Int)×((Int)×((Int)×(Int)))))))) fun y80=>
 (match y80 with
 |.inl a81=>some a81
 |.inr b82=>(Option.bind ((bif b82.1
 then (bif (b82.2.2.1==(0:Int))
 then (Option.bind (F21 N (b82.2.1,b82.2.2.2.2.2)) fun y83=>
 (bif y83
 then some (b82.2.2.2.1==b82.2.2.2.2.1)
 else some false))
 else some false)
 else some false)) fun b84=>
 some b84)))))))):=by kernel_rfl
def c4 (N:Nat):Sym.Callee:=⟨f4.args,f4.ta,f4.res,f4.tr,0,F4 N⟩
theorem ok4 (N:Nat):CalOK tab 4 (c4 N):=fn_ok (f4.ok3 N) fuelW 4 f4.args f4.ta f4.res f4.tr 0
end
end Go.Proofs.YtgpggimdmcjbpaaGreat
