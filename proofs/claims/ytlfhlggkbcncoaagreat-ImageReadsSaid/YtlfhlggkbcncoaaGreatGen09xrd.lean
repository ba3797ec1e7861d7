/- What the functions compute. -/
import Derived.Test.YtlfhlggkbcncoaaGreatTab09xrd
namespace Go.Proofs.YtlfhlggkbcncoaaGreat
set_option linter.unusedVariables false
open Go Go.Eng Go.Sym
noncomputable section
@[reducible] def TField:Ty:=(.prod .str (.int .i64))
abbrev Field:Type:=List UInt8×Int
@[reducible] def TRun:Ty:=(.prod (.int .i64) (.int .u64))
abbrev Run:Type:=Int×Int
@[reducible] def TerrorAddressString:Ty:=(.prod .str (.int .u64))
abbrev errorAddressString:Type:=List UInt8×Int
@[reducible] def Textent:Ty:=(.prod (.int .i64) (.int .i64))
abbrev extent:Type:=Int×Int
@[reducible] def TCursor:Ty:=(.prod (.sl (.int .u8)) (.int .i64))
abbrev Cursor:Type:=List Int×Int
@[reducible] def Treader:Ty:=(.prod TCursor (.int .i64))
abbrev reader:Type:=Cursor×Int
@[reducible] def Treader52:Ty:=(.prod TCursor .bool)
abbrev reader52:Type:=Cursor×Bool
@[reducible] def TboundsError:Ty:=(.prod (.int .i64) (.prod (.int .i64) (.prod .bool (.int .u8))))
abbrev boundsError:Type:=Int×(Int×(Bool×Int))
@[reducible] def Tuse:Ty:=(.prod (.int .i64) (.prod (.int .i64) (.prod .bool .bool)))
abbrev use:Type:=Int×(Int×(Bool×Bool))
@[reducible] def TInstr:Ty:=(.prod (.int .u8) (.prod (.int .i64) Textent))
abbrev Instr:Type:=Int×(Int×extent)
@[reducible] def TGType:Ty:=(.prod (.int .u8) (.prod (.int .i64) (.prod (.int .i64) (.sl TField))))
abbrev GType:Type:=Int×(Int×(Int×(List Field)))
@[reducible] def TFunc:Ty:=(.prod .str (.prod (.int .i64) (.prod (.int .i64) (.prod (.sl TField) (.prod (.sl TInstr) (.prod (.sl TRun) (.sl TRun)))))))
abbrev Func:Type:=List UInt8×(Int×(Int×(List Field×(List Instr×(List Run×(List Run))))))
@[reducible] def TImage:Ty:=(.prod (.sl TGType) (.prod (.sl .str) (.sl TFunc)))
abbrev Image:Type:=List GType×((List (List UInt8))×(List Func))
def cuts:Nat→Nat→Option Outs:=fun _ _=>none
def ccut:Nat→Nat→Option Outs:=fun _ _=>none
def bcut:Nat→Nat→Option (Nat×Ty):=fun _ _=>none
def unr:Nat→Nat→Bool:=fun _ _=>false
def ety:Nat→Nat→Option Ty:=fun _ _=>none
namespace f50
def bcut:Nat→Nat→Option (Nat×Ty):=fun c i=>match c,i with
 |0,1=>some (19,.bool)
 |_,_=>none
def args:List PSh:=[.agg [.sl (.int .u8) .bor,.int .i64]]
def ta:List Ty:=[(.sl (.int .u8)),.int .i64]
def res:List (Bool×List CSh):=[(false,[.int .i64])]
def tr:List Ty:=[.int .i64]
def E0 (N:Nat):SEnv:=SEnv.base tab cuts ccut bcut unr ety
theorem ok0 (N:Nat):EnvOK tab (E0 N):=base_ok tab cuts ccut bcut unr ety
end f50
def F50 (N:Nat) (x:List Int×Int):Option Int:=fnRun (f50.E0 N) fuelW 50 f50.args f50.ta f50.res f50.tr 0 x
open f50 in
theorem F50_eq (N:Nat) (p0:List Int) (p1:Int):F50 N (p0,p1) =
 (Option.bind ((bif (decide ((p0.length:Int)>(200000:Int)))
 then some true
 else (bif (decide (p1<(0:Int)))
 then some true
 else some (decide (p1>(p0.length:Int)))))) fun b0=>
 (bif b0
 then some (8:Int)
 else some (0:Int))):=by kernel_rfl
def c50 (N:Nat):Sym.Callee:=⟨f50.args,f50.ta,f50.res,f50.tr,0,F50 N⟩
theorem ok50 (N:Nat):CalOK tab 50 (c50 N):=fn_ok (f50.ok0 N) fuelW 50 f50.args f50.ta f50.res f50.tr 0
namespace f20
def bcut:Nat→Nat→Option (Nat×Ty):=fun c i=>match c,i with
 |0,15=>some (49,.bool)
 |_,_=>none
def args:List PSh:=[.agg [.sl (.int .u8) .d,.int .i64],.c (.int .u64)]
def ta:List Ty:=[(.sl (.int .u8)),.int .i64,.int .u64]
def res:List (Bool×List CSh):=[(true,[.sl (.int .u8) .d,.int .i64]),(false,[.int .u64]),(false,[.int .i64])]
def tr:List Ty:=[(.sl (.int .u8)),.int .i64,.int .u64,.int .i64]
def E0 (N:Nat):SEnv:=(SEnv.base tab cuts ccut bcut unr ety).addCal 50 (c50 N)
theorem ok0 (N:Nat):EnvOK tab (E0 N):=(base_ok tab cuts ccut bcut unr ety).addCal (ok50 N)
def T0_8:Tmpl:=⟨[(1,.c (.int .u64)),(2,.c (.ptr 0 2 0 0 0)),(4,.c (.ptr 0 4 1 0 0)),(8,.c (.int .u64)),(9,.c (.int .i64))],[],[(0,2,.box 0 [.sl (.int .u8) .d,.int .i64]),(0,4,.box 1 [.nil true,.int .i64])],1,[],2,[.int .u64,.int .u64,.int .i64,(.sl (.int .u8)),.int .i64,.int .i64]⟩
def O0_8:Outs:=[(.ret,⟨[(4,.c (.ptr 0 4 0 0 0)),(5,.c (.int .u64)),(6,.c (.int .i64))],[],[(0,4,.box 0 [.nil true,.int .i64])],1,[],1,[.int .u64,.int .i64,.int .i64]⟩),(.exit 0,⟨[(1,.c (.int .u64)),(2,.c (.ptr 0 2 0 0 0)),(4,.c (.ptr 0 4 1 0 0)),(8,.c (.int .u64))],[],[(0,2,.box 0 [.sl (.int .u8) .d,.int .i64]),(0,4,.box 1 [.nil true,.int .i64])],1,[],2,[.int .u64,.int .u64,(.sl (.int .u8)),.int .i64,.int .i64]⟩)]
def L0_8 (N:Nat) (k:Nat) (x:Int×Int×Int×List Int×Int×Int):Option ((Int×Int×Int)⊕(Int×Int×List Int×Int×Int)):=loopF (loopStep (E0 N) fuelW 0 8 (bodyAt t20 8) T0_8 O0_8) k x
theorem L0_8_succ (N:Nat) (k:Nat) (v1:Int) (v2:Int) (v3:Int) (v4:List Int) (v5:Int) (v6:Int):L0_8 N (k+1) (v1,v2,v3,v4,v5,v6) =
 (bif (v5==(v4.length:Int))
 then some (Sum.inl ((0:Int),(24:Int),(0:Int)))
 else ((idx v4 v5).bind fun x7=>
 (Option.bind ((bif (v3==(9:Int))
 then (bif (decide (x7>(1:Int)))
 then some true
 else (bif (decide (v3>(0:Int)))
 then some (x7==(0:Int))
 else some false))
 else (bif (decide (v3>(0:Int)))
 then some (x7==(0:Int))
 else some false))) fun b8=>
 (bif b8
 then some (Sum.inl ((0:Int),(12:Int),(0:Int)))
 else (chk (!decide ((wi64 ((7:Int)*v3))<0))
 ((bif (decide (x7<(128:Int)))
 then some (Sum.inr (v1,(ior .u64 v2 (wu64 ((wu64 (iand .u8 x7 (127:Int)))*(2 ^ min (Int.toNat (wi64 ((7:Int)*v3))) 64)))),v4,(wi64 (v5+(1:Int))),v6))
 else L0_8 N k (v1,(ior .u64 v2 (wu64 ((wu64 (iand .u8 x7 (127:Int)))*(2 ^ min (Int.toNat (wi64 ((7:Int)*v3))) 64)))),(wi64 (v3+(1:Int))),v4,(wi64 (v5+(1:Int))),v6)))))))):=by kernel_rfl
def E1 (N:Nat):SEnv:=(E0 N).addLoop N 0 8 T0_8 O0_8
theorem ok1 (N:Nat):EnvOK tab (E1 N):=(ok0 N).addLoop N 0 8 T0_8 O0_8
end f20
def F20 (N:Nat) (x:List Int×Int×Int):Option (List Int×Int×Int×Int):=fnRun (f20.E1 N) fuelW 20 f20.args f20.ta f20.res f20.tr 0 x
open f20 in
theorem F20_eq (N:Nat) (p0:List Int) (p1:Int) (p2:Int):F20 N (p0,p1,p2) =
 ((F50 N (p0,p1)).bind fun y0=>
 (bif (y0 != (0:Int))
 then some ([],(0:Int),(0:Int),y0)
 else ((L0_8 N N (p2,(0:Int),(0:Int),p0,p1,(0:Int))).bind fun y9=>
 (match y9 with
 |.inl a10=>some ([],a10.2.2,a10.1,a10.2.1)
 |.inr b11=>(bif (decide (b11.2.1>b11.1))
 then some ([],(0:Int),(0:Int),(4:Int))
 else some (b11.2.2.1,b11.2.2.2.1,b11.2.1,(0:Int))))))):=by kernel_rfl
def c20 (N:Nat):Sym.Callee:=⟨f20.args,f20.ta,f20.res,f20.tr,0,F20 N⟩
theorem ok20 (N:Nat):CalOK tab 20 (c20 N):=fn_ok (f20.ok1 N) fuelW 20 f20.args f20.ta f20.res f20.tr 0
namespace f7
def args:List PSh:=[.box [.sl (.int .u8) .d,.int .i64,.int .i64],.c (.int .i64)]
def ta:List Ty:=[(.sl (.int .u8)),.int .i64,.int .i64,.int .i64]
def res:List (Bool×List CSh):=[(true,[.sl (.int .u8) .d,.int .i64,.int .i64]),(false,[.int .i64])]
def tr:List Ty:=[(.sl (.int .u8)),.int .i64,.int .i64,.int .i64]
def E0 (N:Nat):SEnv:=(SEnv.base tab cuts ccut bcut unr ety).addCal 20 (c20 N)
theorem ok0 (N:Nat):EnvOK tab (E0 N):=(base_ok tab cuts ccut bcut unr ety).addCal (ok20 N)
end f7
def F7 (N:Nat) (x:List Int×Int×Int×Int):Option (List Int×Int×Int×Int):=fnRun (f7.E0 N) fuelW 7 f7.args f7.ta f7.res f7.tr 0 x
open f7 in
theorem F7_eq (N:Nat) (p0:List Int) (p1:Int) (p2:Int) (p3:Int):F7 N (p0,p1,p2,p3) =
 (bif (p2 != (0:Int))
 then some (p0,p1,p2,(0:Int))
 else ((F20 N (p0,p1,(wu64 p3))).bind fun y0=>
 some (y0.1,y0.2.1,y0.2.2.2,(wi64 y0.2.2.1)))):=by kernel_rfl
def c7 (N:Nat):Sym.Callee:=⟨f7.args,f7.ta,f7.res,f7.tr,0,F7 N⟩
theorem ok7 (N:Nat):CalOK tab 7 (c7 N):=fn_ok (f7.ok0 N) fuelW 7 f7.args f7.ta f7.res f7.tr 0
namespace f52
def bcut:Nat→Nat→Option (Nat×Ty):=fun c i=>match c,i with
 |0,8=>some (4,.bool)
 |0,6=>some (4,.bool)
 |0,4=>some (4,.bool)
 |_,_=>none
def args:List PSh:=[.c (.int .i64)]
def ta:List Ty:=[.int .i64]
def res:List (Bool×List CSh):=[(false,[.int .i64])]
def tr:List Ty:=[.int .i64]
def E0 (N:Nat):SEnv:=SEnv.base tab cuts ccut bcut unr ety
theorem ok0 (N:Nat):EnvOK tab (E0 N):=base_ok tab cuts ccut bcut unr ety
end f52
def F52 (N:Nat) (x:Int):Option Int:=fnRun (f52.E0 N) fuelW 52 f52.args f52.ta f52.res f52.tr 0 x
open f52 in
theorem F52_eq (N:Nat) (p0:Int):F52 N p0 =
 (Option.bind ((bif (p0==(1:Int))
 then some true
 else (Option.bind ((bif (p0==(2:Int))
 then some true
 else (Option.bind ((bif (p0==(4:Int))
 then some true
 else some (p0==(8:Int)))) fun b0=>
 some b0))) fun b1=>
 some b1))) fun b2=>
 (bif b2
 then some (0:Int)
 else some (2:Int))):=by kernel_rfl
def c52 (N:Nat):Sym.Callee:=⟨f52.args,f52.ta,f52.res,f52.tr,0,F52 N⟩
theorem ok52 (N:Nat):CalOK tab 52 (c52 N):=fn_ok (f52.ok0 N) fuelW 52 f52.args f52.ta f52.res f52.tr 0
namespace f51
def args:List PSh:=[.c (.sl (.int .i64) .bor)]
def ta:List Ty:=[(.sl (.int .i64))]
def res:List (Bool×List CSh):=[(false,[.int .i64])]
def tr:List Ty:=[.int .i64]
def E0 (N:Nat):SEnv:=SEnv.base tab cuts ccut bcut unr ety
theorem ok0 (N:Nat):EnvOK tab (E0 N):=base_ok tab cuts ccut bcut unr ety
def T0_3:Tmpl:=⟨[(5,.c (.sl (.int .i64) .bor)),(6,.c (.int .i64)),(7,.c (.int .i64))],[],[],1,[],0,[(.sl (.int .i64)),.int .i64,.int .i64]⟩
def O0_3:Outs:=[(.ret,⟨[(2,.c (.int .i64))],[],[],1,[],0,[.int .i64]⟩),(.exit 0,⟨[],[],[],1,[],0,[]⟩)]
def L0_3 (N:Nat) (k:Nat) (x:List Int×Int×Int):Option (Int⊕Unit):=loopF (loopStep (E0 N) fuelW 0 3 (bodyAt t51 3) T0_3 O0_3) k x
theorem L0_3_succ (N:Nat) (k:Nat) (v0:List Int) (v1:Int) (v2:Int):L0_3 N (k+1) (v0,v1,v2) =
 (bif (decide (v2<v1))
 then ((idx v0 v2).bind fun x3=>
 (bif (x3 != (0:Int))
 then some (Sum.inl x3)
 else L0_3 N k (v0,v1,(wi64 (v2+(1:Int))))))
 else some (Sum.inr ())):=by kernel_rfl
def E1 (N:Nat):SEnv:=(E0 N).addLoop N 0 3 T0_3 O0_3
theorem ok1 (N:Nat):EnvOK tab (E1 N):=(ok0 N).addLoop N 0 3 T0_3 O0_3
end f51
def F51 (N:Nat) (x:List Int):Option Int:=fnRun (f51.E1 N) fuelW 51 f51.args f51.ta f51.res f51.tr 0 x
open f51 in
theorem F51_eq (N:Nat) (p0:List Int):F51 N p0 =
 ((L0_3 N N (p0,(p0.length:Int),(0:Int))).bind fun y4=>
 (match y4 with
 |.inl a5=>some a5
 |.inr b6=>some (0:Int))):=by kernel_rfl
def c51 (N:Nat):Sym.Callee:=⟨f51.args,f51.ta,f51.res,f51.tr,0,F51 N⟩
theorem ok51 (N:Nat):CalOK tab 51 (c51 N):=fn_ok (f51.ok1 N) fuelW 51 f51.args f51.ta f51.res f51.tr 0
namespace f21
def args:List PSh:=[.agg [.sl (.int .u8) .d,.int .i64],.c (.int .i64)]
def ta:List Ty:=[(.sl (.int .u8)),.int .i64,.int .i64]
def res:List (Bool×List CSh):=[(true,[.sl (.int .u8) .d,.int .i64]),(false,[.int .u64]),(false,[.int .i64])]
def tr:List Ty:=[(.sl (.int .u8)),.int .i64,.int .u64,.int .i64]
def E0 (N:Nat):SEnv:=(((SEnv.base tab cuts ccut bcut unr ety).addCal 50 (c50 N)).addCal 52 (c52 N)).addCal 51 (c51 N)
theorem ok0 (N:Nat):EnvOK tab (E0 N):=(((base_ok tab cuts ccut bcut unr ety).addCal (ok50 N)).addCal (ok52 N)).addCal (ok51 N)
def T0_11:Tmpl:=⟨[(1,.c (.int .i64)),(2,.c (.ptr 0 2 0 0 0)),(4,.c (.ptr 0 4 1 0 0)),(8,.c (.int .u64)),(38,.c (.sl (.int .u8) .d)),(39,.c (.int .i64)),(40,.c (.int .i64))],[],[(0,2,.box 0 [.sl (.int .u8) .d,.int .i64]),(0,4,.box 1 [.nil true,.int .i64])],1,[],2,[.int .i64,.int .u64,(.sl (.int .u8)),.int .i64,.int .i64,(.sl (.int .u8)),.int .i64,.int .i64]⟩
def O0_11:Outs:=[(.exit 0,⟨[(1,.c (.int .i64)),(2,.c (.ptr 0 2 0 0 0)),(4,.c (.ptr 0 4 1 0 0)),(8,.c (.int .u64))],[],[(0,2,.box 0 [.sl (.int .u8) .d,.int .i64]),(0,4,.box 1 [.nil true,.int .i64])],1,[],2,[.int .i64,.int .u64,(.sl (.int .u8)),.int .i64,.int .i64]⟩)]
def L0_11 (N:Nat) (k:Nat) (x:Int×Int×List Int×Int×Int×List Int×Int×Int):Option ((Int×Int×List Int×Int×Int)):=loopF (loopStep (E0 N) fuelW 0 11 (bodyAt t21 11) T0_11 O0_11) k x
theorem L0_11_succ (N:Nat) (k:Nat) (v3:Int) (v4:Int) (v5:List Int) (v6:Int) (v7:Int) (v8:List Int) (v9:Int) (v10:Int):L0_11 N (k+1) (v3,v4,v5,v6,v7,v8,v9,v10) =
 (bif (decide (v7<v6))
 then ((idx v5 v7).bind fun x11=>
 (chk (!decide ((wi64 ((8:Int)*v7))<0))
 (L0_11 N k (v3,(ior .u64 v4 (wu64 ((wu64 x11)*(2 ^ min (Int.toNat (wi64 ((8:Int)*v7))) 64)))),v5,v6,(wi64 (v7+(1:Int))),v8,v9,v10))))
 else some (v3,v4,v8,v9,v10)):=by kernel_rfl
def E1 (N:Nat):SEnv:=(E0 N).addLoop N 0 11 T0_11 O0_11
theorem ok1 (N:Nat):EnvOK tab (E1 N):=(ok0 N).addLoop N 0 11 T0_11 O0_11
end f21
def F21 (N:Nat) (x:List Int×Int×Int):Option (List Int×Int×Int×Int):=fnRun (f21.E1 N) fuelW 21 f21.args f21.ta f21.res f21.tr 0 x
open f21 in
theorem F21_eq (N:Nat) (p0:List Int) (p1:Int) (p2:Int):F21 N (p0,p1,p2) =
 ((F50 N (p0,p1)).bind fun y0=>
 ((F52 N p2).bind fun y1=>
 ((F51 N [y0,y1]).bind fun y2=>
 (bif (y2 != (0:Int))
 then some ([],(0:Int),(0:Int),y2)
 else (bif (decide (p2>(wi64 ((p0.length:Int)-p1))))
 then some ([],(0:Int),(0:Int),(24:Int))
 else (chk (decide (0≤p1))
 ((chk (decide (0≤(wi64 (p1+p2))))
 ((chk (decide ((Int.toNat p1)≤(Int.toNat (wi64 (p1+p2))))&&decide ((Int.toNat (wi64 (p1+p2)))≤p0.length))
 (((L0_11 N N (p2,(0:Int),((p0.drop (Int.toNat p1)).take ((Int.toNat (wi64 (p1+p2)))-(Int.toNat p1))),(((p0.drop (Int.toNat p1)).take ((Int.toNat (wi64 (p1+p2)))-(Int.toNat p1))).length:Int),(0:Int),p0,p1,(0:Int))).bind fun y12=>
 some (y12.2.2.1,(wi64 (y12.2.2.2.1+y12.1)),y12.2.1,(0:Int)))))))))))))):=by kernel_rfl
def c21 (N:Nat):Sym.Callee:=⟨f21.args,f21.ta,f21.res,f21.tr,0,F21 N⟩
theorem ok21 (N:Nat):CalOK tab 21 (c21 N):=fn_ok (f21.ok1 N) fuelW 21 f21.args f21.ta f21.res f21.tr 0
namespace f23
def bcut:Nat→Nat→Option (Nat×Ty):=fun c i=>match c,i with
 |0,2=>some (22,.bool)
 |0,3=>some (7,(.int .i64))
 |0,9=>some (47,.bool)
 |0,10=>some (7,(.int .i64))
 |_,_=>none
def args:List PSh:=[.agg [.sl (.int .u8) .d,.int .i64],.c (.int .i64)]
def ta:List Ty:=[(.sl (.int .u8)),.int .i64,.int .i64]
def res:List (Bool×List CSh):=[(true,[.sl (.int .u8) .d,.int .i64]),(false,[.str]),(false,[.int .i64])]
def tr:List Ty:=[(.sl (.int .u8)),.int .i64,.str,.int .i64]
def E0 (N:Nat):SEnv:=((SEnv.base tab cuts ccut bcut unr ety).addCal 50 (c50 N)).addCal 20 (c20 N)
theorem ok0 (N:Nat):EnvOK tab (E0 N):=((base_ok tab cuts ccut bcut unr ety).addCal (ok50 N)).addCal (ok20 N)
end f23
def F23 (N:Nat) (x:List Int×Int×Int):Option (List Int×Int×List UInt8×Int):=fnRun (f23.E0 N) fuelW 23 f23.args f23.ta f23.res f23.tr 0 x
open f23 in
theorem F23_eq (N:Nat) (p0:List Int) (p1:Int) (p2:Int):F23 N (p0,p1,p2) =
 ((F50 N (p0,p1)).bind fun y0=>
 (Option.bind ((bif (y0==(0:Int))
 then (bif (decide (p2<(0:Int)))
 then some true
 else some (decide (p2>(200000:Int))))
 else some false)) fun b1=>
 (Option.bind ((bif b1
 then some (2:Int)
 else some y0)) fun b2=>
 (bif (b2 != (0:Int))
 then some ([],(0:Int),([]:List UInt8),b2)
 else ((F20 N (p0,p1,(wu64 p2))).bind fun y3=>
 (Option.bind ((bif (y3.2.2.2==(0:Int))
 then some (decide (y3.2.2.1>(wu64 (wi64 ((y3.1.length:Int)-y3.2.1)))))
 else some false)) fun b4=>
 (Option.bind ((bif b4
 then some (24:Int)
 else some y3.2.2.2)) fun b5=>
 (bif (b5 != (0:Int))
 then some ([],(0:Int),([]:List UInt8),b5)
 else (chk (decide (0≤y3.2.1))
 ((chk (decide (0≤(wi64 (y3.2.1+(wi64 y3.2.2.1)))))
 ((chk (decide ((Int.toNat y3.2.1)≤(Int.toNat (wi64 (y3.2.1+(wi64 y3.2.2.1)))))&&decide ((Int.toNat (wi64 (y3.2.1+(wi64 y3.2.2.1))))≤y3.1.length))
 (some (y3.1,(wi64 (y3.2.1+(wi64 y3.2.2.1))),(((y3.1.drop (Int.toNat y3.2.1)).take ((Int.toNat (wi64 (y3.2.1+(wi64 y3.2.2.1))))-(Int.toNat y3.2.1))).map fun (n:Int)=>UInt8.ofNat n.toNat),(0:Int)))))))))))))))):=by kernel_rfl
def c23 (N:Nat):Sym.Callee:=⟨f23.args,f23.ta,f23.res,f23.tr,0,F23 N⟩
theorem ok23 (N:Nat):CalOK tab 23 (c23 N):=fn_ok (f23.ok0 N) fuelW 23 f23.args f23.ta f23.res f23.tr 0
namespace f9
def args:List PSh:=[.box [.sl (.int .u8) .d,.int .i64,.int .i64],.c (.int .i64)]
def ta:List Ty:=[(.sl (.int .u8)),.int .i64,.int .i64,.int .i64]
def res:List (Bool×List CSh):=[(true,[.sl (.int .u8) .d,.int .i64,.int .i64]),(false,[.str])]
def tr:List Ty:=[(.sl (.int .u8)),.int .i64,.int .i64,.str]
def E0 (N:Nat):SEnv:=(SEnv.base tab cuts ccut bcut unr ety).addCal 23 (c23 N)
theorem ok0 (N:Nat):EnvOK tab (E0 N):=(base_ok tab cuts ccut bcut unr ety).addCal (ok23 N)
end f9
def F9 (N:Nat) (x:List Int×Int×Int×Int):Option (List Int×Int×Int×List UInt8):=fnRun (f9.E0 N) fuelW 9 f9.args f9.ta f9.res f9.tr 0 x
open f9 in
theorem F9_eq (N:Nat) (p0:List Int) (p1:Int) (p2:Int) (p3:Int):F9 N (p0,p1,p2,p3) =
 (bif (p2 != (0:Int))
 then some (p0,p1,p2,([]:List UInt8))
 else ((F23 N (p0,p1,p3)).bind fun y0=>
 some (y0.1,y0.2.1,y0.2.2.2,y0.2.2.1))):=by kernel_rfl
def c9 (N:Nat):Sym.Callee:=⟨f9.args,f9.ta,f9.res,f9.tr,0,F9 N⟩
theorem ok9 (N:Nat):CalOK tab 9 (c9 N):=fn_ok (f9.ok0 N) fuelW 9 f9.args f9.ta f9.res f9.tr 0
namespace f22
def ety:Nat→Nat→Option Ty:=fun c d=>match c,d with
 |0,19=>some TField
 |_,_=>none
def args:List PSh:=[.box [.sl (.int .u8) .d,.int .i64,.int .i64],.c (.int .i64)]
def ta:List Ty:=[(.sl (.int .u8)),.int .i64,.int .i64,.int .i64]
def res:List (Bool×List CSh):=[(true,[.sl (.int .u8) .d,.int .i64,.int .i64]),(false,[.sl TField .d])]
def tr:List Ty:=[(.sl (.int .u8)),.int .i64,.int .i64,.sl TField]
def E0 (N:Nat):SEnv:=((SEnv.base tab cuts ccut bcut unr ety).addCal 7 (c7 N)).addCal 9 (c9 N)
theorem ok0 (N:Nat):EnvOK tab (E0 N):=((base_ok tab cuts ccut bcut unr ety).addCal (ok7 N)).addCal (ok9 N)
def T0_4:Tmpl:=⟨[(0,.c (.ptr 0 0 0 0 0)),(5,.c (.sl TField (.app 1))),(9,.c (.int .i64)),(10,.c (.int .i64))],[[(0,.c (.ptr 0 0 0 0 0))]],[(0,0,.box 0 [.sl (.int .u8) .d,.int .i64,.int .i64])],2,[1],2,[.sl TField,.int .i64,.int .i64,(.sl (.int .u8)),.int .i64,.int .i64]⟩
def O0_4:Outs:=[(.exit 0,⟨[(5,.c (.sl TField (.app 1)))],[[(0,.c (.ptr 0 0 0 0 0))]],[(0,0,.box 0 [.sl (.int .u8) .d,.int .i64,.int .i64])],2,[1],2,[.sl TField,(.sl (.int .u8)),.int .i64,.int .i64]⟩)]
def L0_4 (N:Nat) (k:Nat) (x:List Field×Int×Int×List Int×Int×Int):Option ((List Field×List Int×Int×Int)):=loopF (loopStep (E0 N) fuelW 0 4 (bodyAt t22 4) T0_4 O0_4) k x
theorem L0_4_succ (N:Nat) (k:Nat) (v1:List Field) (v2:Int) (v3:Int) (v4:List Int) (v5:Int) (v6:Int):L0_4 N (k+1) (v1,v2,v3,v4,v5,v6) =
 (bif (decide (v3<v2))
 then ((F9 N (v4,v5,v6,(16:Int))).bind fun y7=>
 ((F7 N (y7.1,y7.2.1,y7.2.2.1,(32:Int))).bind fun y8=>
 (chk (room (v1.length+1) 24)
 (L0_4 N k ((v1++[(y7.2.2.2,y8.2.2.2)]),v2,(wi64 (v3+(1:Int))),y8.1,y8.2.1,y8.2.2.1)))))
 else some (v1,v4,v5,v6)):=by kernel_rfl
def E1 (N:Nat):SEnv:=(E0 N).addLoop N 0 4 T0_4 O0_4
theorem ok1 (N:Nat):EnvOK tab (E1 N):=(ok0 N).addLoop N 0 4 T0_4 O0_4
end f22
def F22 (N:Nat) (x:List Int×Int×Int×Int):Option (List Int×Int×Int×List Field):=fnRun (f22.E1 N) fuelW 22 f22.args f22.ta f22.res f22.tr 0 x
open f22 in
theorem F22_eq (N:Nat) (p0:List Int) (p1:Int) (p2:Int) (p3:Int):F22 N (p0,p1,p2,p3) =
 ((F7 N (p0,p1,p2,p3)).bind fun y0=>
 ((L0_4 N N ([],y0.2.2.2,(0:Int),y0.1,y0.2.1,y0.2.2.1)).bind fun y9=>
 some (y9.2.1,y9.2.2.1,y9.2.2.2,y9.1))):=by kernel_rfl
def c22 (N:Nat):Sym.Callee:=⟨f22.args,f22.ta,f22.res,f22.tr,0,F22 N⟩
theorem ok22 (N:Nat):CalOK tab 22 (c22 N):=fn_ok (f22.ok1 N) fuelW 22 f22.args f22.ta f22.res f22.tr 0
namespace f8
def bcut:Nat→Nat→Option (Nat×Ty):=fun c i=>match c,i with
 |0,10=>some (30,.bool)
 |_,_=>none
def args:List PSh:=[.box [.sl (.int .u8) .d,.int .i64,.int .i64]]
def ta:List Ty:=[(.sl (.int .u8)),.int .i64,.int .i64]
def res:List (Bool×List CSh):=[(true,[.sl (.int .u8) .d,.int .i64,.int .i64]),(true,[.int .u8,.int .i64,.int .i64,.sl TField .d])]
def tr:List Ty:=[(.sl (.int .u8)),.int .i64,.int .i64,.int .u8,.int .i64,.int .i64,.sl TField]
def E0 (N:Nat):SEnv:=(((SEnv.base tab cuts ccut bcut unr ety).addCal 21 (c21 N)).addCal 7 (c7 N)).addCal 22 (c22 N)
theorem ok0 (N:Nat):EnvOK tab (E0 N):=(((base_ok tab cuts ccut bcut unr ety).addCal (ok21 N)).addCal (ok7 N)).addCal (ok22 N)
end f8
def F8 (N:Nat) (x:List Int×Int×Int):Option (List Int×Int×Int×Int×Int×Int×List Field):=fnRun (f8.E0 N) fuelW 8 f8.args f8.ta f8.res f8.tr 0 x
open f8 in
theorem F8_eq (N:Nat) (p0:List Int) (p1:Int) (p2:Int):F8 N (p0,p1,p2) =
 (bif (p2==(0:Int))
 then ((F21 N (p0,p1,(1:Int))).bind fun y0=>
 (Option.bind ((bif ((wu8 y0.2.2.1)==(4:Int))
 then some true
 else some ((wu8 y0.2.2.1)==(7:Int)))) fun b1=>
 (bif b1
 then ((F7 N (y0.1,y0.2.1,y0.2.2.2,(32:Int))).bind fun y2=>
 some (y2.1,y2.2.1,y2.2.2.1,(wu8 y0.2.2.1),y2.2.2.2,(0:Int),[]))
 else (bif ((wu8 y0.2.2.1)==(6:Int))
 then ((F7 N (y0.1,y0.2.1,y0.2.2.2,(32:Int))).bind fun y3=>
 ((F7 N (y3.1,y3.2.1,y3.2.2.1,(16:Int))).bind fun y4=>
 some (y4.1,y4.2.1,y4.2.2.1,(wu8 y0.2.2.1),y3.2.2.2,y4.2.2.2,[])))
 else (bif ((wu8 y0.2.2.1)==(5:Int))
 then ((F22 N (y0.1,y0.2.1,y0.2.2.2,(8:Int))).bind fun y5=>
 some (y5.1,y5.2.1,y5.2.2.1,(wu8 y0.2.2.1),(0:Int),(0:Int),y5.2.2.2))
 else some (y0.1,y0.2.1,y0.2.2.2,(wu8 y0.2.2.1),(0:Int),(0:Int),[]))))))
 else (bif ((0:Int)==(7:Int))
 then ((F7 N (p0,p1,p2,(32:Int))).bind fun y7=>
 some (y7.1,y7.2.1,y7.2.2.1,(0:Int),y7.2.2.2,(0:Int),[]))
 else some (p0,p1,p2,(0:Int),(0:Int),(0:Int),[]))):=by kernel_rfl
def c8 (N:Nat):Sym.Callee:=⟨f8.args,f8.ta,f8.res,f8.tr,0,F8 N⟩
theorem ok8 (N:Nat):CalOK tab 8 (c8 N):=fn_ok (f8.ok0 N) fuelW 8 f8.args f8.ta f8.res f8.tr 0
namespace f24
def args:List PSh:=[.agg [.sl (.int .u8) .d,.int .i64]]
def ta:List Ty:=[(.sl (.int .u8)),.int .i64]
def res:List (Bool×List CSh):=[(true,[.sl (.int .u8) .d,.int .i64]),(false,[.int .i64]),(false,[.int .i64])]
def tr:List Ty:=[(.sl (.int .u8)),.int .i64,.int .i64,.int .i64]
def E0 (N:Nat):SEnv:=(SEnv.base tab cuts ccut bcut unr ety).addCal 20 (c20 N)
theorem ok0 (N:Nat):EnvOK tab (E0 N):=(base_ok tab cuts ccut bcut unr ety).addCal (ok20 N)
end f24
def F24 (N:Nat) (x:List Int×Int):Option (List Int×Int×Int×Int):=fnRun (f24.E0 N) fuelW 24 f24.args f24.ta f24.res f24.tr 0 x
open f24 in
theorem F24_eq (N:Nat) (p0:List Int) (p1:Int):F24 N (p0,p1) =
 ((F20 N (p0,p1,(18446744073709551615:Int))).bind fun y0=>
 some (y0.1,y0.2.1,(ixor .i64 (wi64 (Int.fdiv y0.2.2.1 2)) (wi64 (0-(wi64 (iand .u64 y0.2.2.1 (1:Int)))))),y0.2.2.2)):=by kernel_rfl
def c24 (N:Nat):Sym.Callee:=⟨f24.args,f24.ta,f24.res,f24.tr,0,F24 N⟩
theorem ok24 (N:Nat):CalOK tab 24 (c24 N):=fn_ok (f24.ok0 N) fuelW 24 f24.args f24.ta f24.res f24.tr 0
namespace f53
def args:List PSh:=[.c (.int .i64)]
def ta:List Ty:=[.int .i64]
def res:List (Bool×List CSh):=[(true,[.sl (.int .u8) .d,.int .i64]),(true,[.int .u8,.int .i64,.int .i64,.int .i64]),(false,[.int .i64])]
def tr:List Ty:=[(.sl (.int .u8)),.int .i64,.int .u8,.int .i64,.int .i64,.int .i64,.int .i64]
def E0 (N:Nat):SEnv:=SEnv.base tab cuts ccut bcut unr ety
theorem ok0 (N:Nat):EnvOK tab (E0 N):=base_ok tab cuts ccut bcut unr ety
end f53
def F53 (N:Nat) (x:Int):Option (List Int×Int×Int×Int×Int×Int×Int):=fnRun (f53.E0 N) fuelW 53 f53.args f53.ta f53.res f53.tr 0 x
open f53 in
theorem F53_eq (N:Nat) (p0:Int):F53 N p0 =
 some ([],(0:Int),(0:Int),(0:Int),(0:Int),(0:Int),p0):=by kernel_rfl
def c53 (N:Nat):Sym.Callee:=⟨f53.args,f53.ta,f53.res,f53.tr,0,F53 N⟩
theorem ok53 (N:Nat):CalOK tab 53 (c53 N):=fn_ok (f53.ok0 N) fuelW 53 f53.args f53.ta f53.res f53.tr 0
namespace f54
def args:List PSh:=[.agg [.sl (.int .u8) .bor,.int .i64]]
def ta:List Ty:=[(.sl (.int .u8)),.int .i64]
def res:List (Bool×List CSh):=[(false,[.int .i64]),(false,[.int .i64])]
def tr:List Ty:=[.int .i64,.int .i64]
def E0 (N:Nat):SEnv:=(SEnv.base tab cuts ccut bcut unr ety).addCal 50 (c50 N)
theorem ok0 (N:Nat):EnvOK tab (E0 N):=(base_ok tab cuts ccut bcut unr ety).addCal (ok50 N)
end f54
def F54 (N:Nat) (x:List Int×Int):Option (Int×Int):=fnRun (f54.E0 N) fuelW 54 f54.args f54.ta f54.res f54.tr 0 x
open f54 in
theorem F54_eq (N:Nat) (p0:List Int) (p1:Int):F54 N (p0,p1) =
 ((F50 N (p0,p1)).bind fun y0=>
 (bif (y0 != (0:Int))
 then some ((0:Int),y0)
 else some ((wi64 ((p0.length:Int)-p1)),(0:Int)))):=by kernel_rfl
def c54 (N:Nat):Sym.Callee:=⟨f54.args,f54.ta,f54.res,f54.tr,0,F54 N⟩
theorem ok54 (N:Nat):CalOK tab 54 (c54 N):=fn_ok (f54.ok0 N) fuelW 54 f54.args f54.ta f54.res f54.tr 0
namespace f81
def args:List PSh:=[]
def ta:List Ty:=[]
def res:List (Bool×List CSh):=[(true,[.int .i64,.int .i64,.bool,.bool])]
def tr:List Ty:=[.int .i64,.int .i64,.bool,.bool]
def E0 (N:Nat):SEnv:=SEnv.base tab cuts ccut bcut unr ety
theorem ok0 (N:Nat):EnvOK tab (E0 N):=base_ok tab cuts ccut bcut unr ety
end f81
def F81 (N:Nat) (x:Unit):Option (Int×Int×Bool×Bool):=fnRun (f81.E0 N) fuelW 81 f81.args f81.ta f81.res f81.tr 0 x
open f81 in
theorem F81_eq (N:Nat):F81 N () =
 some ((0:Int),(15:Int),false,true):=by kernel_rfl
def c81 (N:Nat):Sym.Callee:=⟨f81.args,f81.ta,f81.res,f81.tr,0,F81 N⟩
theorem ok81 (N:Nat):CalOK tab 81 (c81 N):=fn_ok (f81.ok0 N) fuelW 81 f81.args f81.ta f81.res f81.tr 0
namespace f82
def args:List PSh:=[]
def ta:List Ty:=[]
def res:List (Bool×List CSh):=[(true,[.int .i64,.int .i64,.bool,.bool])]
def tr:List Ty:=[.int .i64,.int .i64,.bool,.bool]
def E0 (N:Nat):SEnv:=SEnv.base tab cuts ccut bcut unr ety
theorem ok0 (N:Nat):EnvOK tab (E0 N):=base_ok tab cuts ccut bcut unr ety
end f82
def F82 (N:Nat) (x:Unit):Option (Int×Int×Bool×Bool):=fnRun (f82.E0 N) fuelW 82 f82.args f82.ta f82.res f82.tr 0 x
open f82 in
theorem F82_eq (N:Nat):F82 N () =
 some ((-9223372036854775808:Int),(9223372036854775807:Int),false,false):=by kernel_rfl
def c82 (N:Nat):Sym.Callee:=⟨f82.args,f82.ta,f82.res,f82.tr,0,F82 N⟩
theorem ok82 (N:Nat):CalOK tab 82 (c82 N):=fn_ok (f82.ok0 N) fuelW 82 f82.args f82.ta f82.res f82.tr 0
namespace f83
def args:List PSh:=[.c (.int .i64)]
def ta:List Ty:=[.int .i64]
def res:List (Bool×List CSh):=[(true,[.int .i64,.int .i64,.bool,.bool])]
def tr:List Ty:=[.int .i64,.int .i64,.bool,.bool]
def E0 (N:Nat):SEnv:=SEnv.base tab cuts ccut bcut unr ety
theorem ok0 (N:Nat):EnvOK tab (E0 N):=base_ok tab cuts ccut bcut unr ety
end f83
def F83 (N:Nat) (x:Int):Option (Int×Int×Bool×Bool):=fnRun (f83.E0 N) fuelW 83 f83.args f83.ta f83.res f83.tr 0 x
open f83 in
theorem F83_eq (N:Nat) (p0:Int):F83 N p0 =
 some ((0:Int),(wi64 (p0-(1:Int))),false,false):=by kernel_rfl
def c83 (N:Nat):Sym.Callee:=⟨f83.args,f83.ta,f83.res,f83.tr,0,F83 N⟩
theorem ok83 (N:Nat):CalOK tab 83 (c83 N):=fn_ok (f83.ok0 N) fuelW 83 f83.args f83.ta f83.res f83.tr 0
namespace f84
def args:List PSh:=[]
def ta:List Ty:=[]
def res:List (Bool×List CSh):=[(true,[.int .i64,.int .i64,.bool,.bool])]
def tr:List Ty:=[.int .i64,.int .i64,.bool,.bool]
def E0 (N:Nat):SEnv:=SEnv.base tab cuts ccut bcut unr ety
theorem ok0 (N:Nat):EnvOK tab (E0 N):=base_ok tab cuts ccut bcut unr ety
end f84
def F84 (N:Nat) (x:Unit):Option (Int×Int×Bool×Bool):=fnRun (f84.E0 N) fuelW 84 f84.args f84.ta f84.res f84.tr 0 x
open f84 in
theorem F84_eq (N:Nat):F84 N () =
 some ((0:Int),(15:Int),true,false):=by kernel_rfl
def c84 (N:Nat):Sym.Callee:=⟨f84.args,f84.ta,f84.res,f84.tr,0,F84 N⟩
theorem ok84 (N:Nat):CalOK tab 84 (c84 N):=fn_ok (f84.ok0 N) fuelW 84 f84.args f84.ta f84.res f84.tr 0
namespace f55
def bcut:Nat→Nat→Option (Nat×Ty):=fun c i=>match c,i with
 |0,24=>some (7,.bool)
 |0,34=>some (16,.bool)
 |0,48=>some (19,.bool)
 |0,46=>some (19,.bool)
 |0,44=>some (19,.bool)
 |0,42=>some (19,.bool)
 |0,40=>some (19,.bool)
 |0,38=>some (19,.bool)
 |0,60=>some (27,.bool)
 |0,58=>some (27,.bool)
 |0,56=>some (27,.bool)
 |0,54=>some (27,.bool)
 |0,52=>some (27,.bool)
 |0,78=>some (46,.bool)
 |0,76=>some (46,.bool)
 |0,84=>some (52,.bool)
 |_,_=>none
def ety:Nat→Nat→Option Ty:=fun c d=>match c,d with
 |0,62=>some Tuse
 |0,67=>some Tuse
 |0,72=>some Tuse
 |0,76=>some Tuse
 |0,91=>some Tuse
 |0,97=>some Tuse
 |0,103=>some Tuse
 |0,108=>some Tuse
 |0,112=>some Tuse
 |0,117=>some Tuse
 |0,121=>some Tuse
 |0,126=>some Tuse
 |0,132=>some Tuse
 |0,137=>some Tuse
 |0,141=>some Tuse
 |_,_=>none
def args:List PSh:=[.c (.int .u8)]
def ta:List Ty:=[.int .u8]
def res:List (Bool×List CSh):=[(true,[.int .i64,.int .i64,.bool,.bool,.int .i64,.int .i64,.bool,.bool,.int .i64,.int .i64,.bool,.bool]),(false,[.int .i64])]
def tr:List Ty:=[.int .i64,.int .i64,.bool,.bool,.int .i64,.int .i64,.bool,.bool,.int .i64,.int .i64,.bool,.bool,.int .i64]
def E0 (N:Nat):SEnv:=((((SEnv.base tab cuts ccut bcut unr ety).addCal 81 (c81 N)).addCal 82 (c82 N)).addCal 83 (c83 N)).addCal 84 (c84 N)
theorem ok0 (N:Nat):EnvOK tab (E0 N):=((((base_ok tab cuts ccut bcut unr ety).addCal (ok81 N)).addCal (ok82 N)).addCal (ok83 N)).addCal (ok84 N)
end f55
def F55 (N:Nat) (x:Int):Option (Int×Int×Bool×Bool×Int×Int×Bool×Bool×Int×Int×Bool×Bool×Int):=fnRun (f55.E0 N) fuelW 55 f55.args f55.ta f55.res f55.tr 0 x
open f55 in
theorem F55_eq (N:Nat) (p0:Int):F55 N p0 =
 (Option.bind ((bif (p0==(30:Int))
 then some true
 else some (p0==(31:Int)))) fun b0=>
 (bif b0
 then some ((0:Int),(0:Int),false,false,(0:Int),(0:Int),false,false,(0:Int),(0:Int),false,false,(0:Int))
 else (bif (p0==(1:Int))
 then ((F81 N ()).bind fun y1=>
 ((F82 N ()).bind fun y2=>
 some (y1.1,y1.2.1,y1.2.2.1,y1.2.2.2,y2.1,y2.2.1,y2.2.2.1,y2.2.2.2,(0:Int),(0:Int),false,false,(2:Int))))
 else (bif (p0==(2:Int))
 then ((F81 N ()).bind fun y3=>
 ((F83 N (32:Int)).bind fun y4=>
 some (y3.1,y3.2.1,y3.2.2.1,y3.2.2.2,y4.1,y4.2.1,y4.2.2.1,y4.2.2.2,(0:Int),(0:Int),false,false,(2:Int))))
 else (bif (p0==(3:Int))
 then ((F81 N ()).bind fun y5=>
 ((F83 N (2:Int)).bind fun y6=>
 some (y5.1,y5.2.1,y5.2.2.1,y5.2.2.2,y6.1,y6.2.1,y6.2.2.1,y6.2.2.2,(0:Int),(0:Int),false,false,(2:Int))))
 else (Option.bind ((bif (p0==(4:Int))
 then some true
 else some (p0==(15:Int)))) fun b7=>
 (bif b7
 then ((F81 N ()).bind fun y8=>
 some (y8.1,y8.2.1,y8.2.2.1,y8.2.2.2,(0:Int),(0:Int),false,false,(0:Int),(0:Int),false,false,(1:Int)))
 else (Option.bind ((bif (p0==(6:Int))
 then some true
 else (Option.bind ((bif (p0==(7:Int))
 then some true
 else (Option.bind ((bif (p0==(8:Int))
 then some true
 else (Option.bind ((bif (p0==(9:Int))
 then some true
 else (Option.bind ((bif (p0==(10:Int))
 then some true
 else (Option.bind ((bif (p0==(11:Int))
 then some true
 else some (p0==(19:Int)))) fun b9=>
 some b9))) fun b10=>
 some b10))) fun b11=>
 some b11))) fun b12=>
 some b12))) fun b13=>
 some b13))) fun b14=>
 (bif b14
 then ((F84 N ()).bind fun y15=>
 ((F81 N ()).bind fun y16=>
 ((F84 N ()).bind fun y17=>
 (bif y15.2.2.1
 then some (y16.1,y16.2.1,y16.2.2.1,y16.2.2.2,y17.1,y17.2.1,y17.2.2.1,y17.2.2.2,y15.1,y15.2.1,y15.2.2.1,y15.2.2.2,(3:Int))
 else some (y16.1,y16.2.1,y16.2.2.1,y16.2.2.2,y17.1,y17.2.1,y17.2.2.1,y17.2.2.2,y15.1,y15.2.1,y15.2.2.1,y15.2.2.2,(2:Int))))))
 else (Option.bind ((bif (p0==(5:Int))
 then some true
 else (Option.bind ((bif (p0==(12:Int))
 then some true
 else (Option.bind ((bif (p0==(16:Int))
 then some true
 else (Option.bind ((bif (p0==(18:Int))
 then some true
 else (Option.bind ((bif (p0==(21:Int))
 then some true
 else some (p0==(33:Int)))) fun b18=>
 some b18))) fun b19=>
 some b19))) fun b20=>
 some b20))) fun b21=>
 some b21))) fun b22=>
 (bif b22
 then ((F81 N ()).bind fun y23=>
 ((F84 N ()).bind fun y24=>
 some (y23.1,y23.2.1,y23.2.2.1,y23.2.2.2,y24.1,y24.2.1,y24.2.2.1,y24.2.2.2,(0:Int),(0:Int),false,false,(2:Int))))
 else (bif (p0==(13:Int))
 then ((F81 N ()).bind fun y25=>
 ((F84 N ()).bind fun y26=>
 ((F83 N (8:Int)).bind fun y27=>
 some (y25.1,y25.2.1,y25.2.2.1,y25.2.2.2,y26.1,y26.2.1,y26.2.2.1,y26.2.2.2,y27.1,y27.2.1,y27.2.2.1,y27.2.2.2,(3:Int)))))
 else (bif (p0==(14:Int))
 then ((F84 N ()).bind fun y28=>
 ((F83 N (8:Int)).bind fun y29=>
 ((F84 N ()).bind fun y30=>
 some (y28.1,y28.2.1,y28.2.2.1,y28.2.2.2,y29.1,y29.2.1,y29.2.2.1,y29.2.2.2,y30.1,y30.2.1,y30.2.2.1,y30.2.2.2,(3:Int)))))
 else (bif (p0==(20:Int))
 then ((F84 N ()).bind fun y31=>
 ((F84 N ()).bind fun y32=>
 ((F84 N ()).bind fun y33=>
 some (y31.1,y31.2.1,y31.2.2.1,y31.2.2.2,y32.1,y32.2.1,y32.2.2.1,y32.2.2.2,y33.1,y33.2.1,y33.2.2.1,y33.2.2.2,(3:Int)))))
 else (bif (p0==(17:Int))
 then ((F84 N ()).bind fun y34=>
 ((F84 N ()).bind fun y35=>
 some (y34.1,y34.2.1,y34.2.2.1,y34.2.2.2,y35.1,y35.2.1,y35.2.2.1,y35.2.2.2,(0:Int),(0:Int),false,false,(2:Int))))
 else (bif (p0==(22:Int))
 then ((F83 N (200:Int)).bind fun y36=>
 some (y36.1,y36.2.1,y36.2.2.1,y36.2.2.2,(0:Int),(0:Int),false,false,(0:Int),(0:Int),false,false,(1:Int)))
 else (bif (p0==(23:Int))
 then ((F84 N ()).bind fun y37=>
 ((F83 N (200:Int)).bind fun y38=>
 some (y37.1,y37.2.1,y37.2.2.1,y37.2.2.2,y38.1,y38.2.1,y38.2.2.1,y38.2.2.2,(0:Int),(0:Int),false,false,(2:Int))))
 else (Option.bind ((bif (p0==(24:Int))
 then some true
 else (Option.bind ((bif (p0==(28:Int))
 then some true
 else some (p0==(32:Int)))) fun b39=>
 some b39))) fun b40=>
 (bif b40
 then ((F84 N ()).bind fun y41=>
 some (y41.1,y41.2.1,y41.2.2.1,y41.2.2.2,(0:Int),(0:Int),false,false,(0:Int),(0:Int),false,false,(1:Int)))
 else (bif (p0==(25:Int))
 then ((F81 N ()).bind fun y42=>
 ((F83 N (32:Int)).bind fun y43=>
 some ((-1:Int),y42.2.1,y42.2.2.1,y42.2.2.2,y43.1,y43.2.1,y43.2.2.1,y43.2.2.2,(0:Int),(0:Int),false,false,(2:Int))))
 else (Option.bind ((bif (p0==(26:Int))
 then some true
 else some (p0==(27:Int)))) fun b44=>
 (bif b44
 then ((F83 N (32:Int)).bind fun y45=>
 some (y45.1,y45.2.1,y45.2.2.1,y45.2.2.2,(0:Int),(0:Int),false,false,(0:Int),(0:Int),false,false,(1:Int)))
 else (bif (p0==(29:Int))
 then ((F81 N ()).bind fun y46=>
 ((F81 N ()).bind fun y47=>
 some (y46.1,y46.2.1,y46.2.2.1,y46.2.2.2,y47.1,y47.2.1,y47.2.2.1,y47.2.2.2,(0:Int),(0:Int),false,false,(2:Int))))
 else (bif (p0==(34:Int))
 then ((F84 N ()).bind fun y48=>
 some ((-1:Int),y48.2.1,y48.2.2.1,y48.2.2.2,(0:Int),(0:Int),false,false,(0:Int),(0:Int),false,false,(1:Int)))
 else some ((0:Int),(0:Int),false,false,(0:Int),(0:Int),false,false,(0:Int),(0:Int),false,false,(-1:Int)))))))))))))))))))))))))):=by kernel_rfl
def c55 (N:Nat):Sym.Callee:=⟨f55.args,f55.ta,f55.res,f55.tr,0,F55 N⟩
theorem ok55 (N:Nat):CalOK tab 55 (c55 N):=fn_ok (f55.ok0 N) fuelW 55 f55.args f55.ta f55.res f55.tr 0
namespace f85
def args:List PSh:=[.agg [.int .u8,.int .i64,.int .i64,.int .i64]]
def ta:List Ty:=[.int .u8,.int .i64,.int .i64,.int .i64]
def res:List (Bool×List CSh):=[(true,[.int .i64,.int .i64,.int .i64])]
def tr:List Ty:=[.int .i64,.int .i64,.int .i64]
def E0 (N:Nat):SEnv:=SEnv.base tab cuts ccut bcut unr ety
theorem ok0 (N:Nat):EnvOK tab (E0 N):=base_ok tab cuts ccut bcut unr ety
end f85
def F85 (N:Nat) (x:Int×Int×Int×Int):Option (Int×Int×Int):=fnRun (f85.E0 N) fuelW 85 f85.args f85.ta f85.res f85.tr 0 x
open f85 in
theorem F85_eq (N:Nat) (p0:Int) (p1:Int) (p2:Int) (p3:Int):F85 N (p0,p1,p2,p3) =
 some (p1,p2,p3):=by kernel_rfl
def c85 (N:Nat):Sym.Callee:=⟨f85.args,f85.ta,f85.res,f85.tr,0,F85 N⟩
theorem ok85 (N:Nat):CalOK tab 85 (c85 N):=fn_ok (f85.ok0 N) fuelW 85 f85.args f85.ta f85.res f85.tr 0
namespace f56
def bcut:Nat→Nat→Option (Nat×Ty):=fun c i=>match c,i with
 |0,12=>some (34,.bool)
 |0,100012=>some (34,.bool)
 |_,_=>none
def unr:Nat→Nat→Bool:=fun c i=>match c,i with
 |0,7=>true
 |0,100007=>true
 |_,_=>false
def args:List PSh:=[.agg [.int .u8,.int .i64,.int .i64,.int .i64]]
def ta:List Ty:=[.int .u8,.int .i64,.int .i64,.int .i64]
def res:List (Bool×List CSh):=[(false,[.int .i64])]
def tr:List Ty:=[.int .i64]
def E0 (N:Nat):SEnv:=((SEnv.base tab cuts ccut bcut unr ety).addCal 55 (c55 N)).addCal 85 (c85 N)
theorem ok0 (N:Nat):EnvOK tab (E0 N):=((base_ok tab cuts ccut bcut unr ety).addCal (ok55 N)).addCal (ok85 N)
end f56
def F56 (N:Nat) (x:Int×Int×Int×Int):Option Int:=fnRun (f56.E0 N) fuelW 56 f56.args f56.ta f56.res f56.tr 0 x
open f56 in
theorem F56_eq (N:Nat) (p0:Int) (p1:Int) (p2:Int) (p3:Int):F56 N (p0,p1,p2,p3) =
 ((F55 N p0).bind fun y0=>
 (bif (decide (y0.2.2.2.2.2.2.2.2.2.2.2.2<(0:Int)))
 then some (8:Int)
 else ((F85 N (p0,p1,p2,p3)).bind fun y1=>
 (Option.bind ((bif (decide (y1.1<y0.1))
 then some true
 else some (decide (y1.1>y0.2.1)))) fun b2=>
 (bif b2
 then some (8:Int)
 else (Option.bind ((bif (decide (y1.2.1<y0.2.2.2.2.1))
 then some true
 else some (decide (y1.2.1>y0.2.2.2.2.2.1)))) fun b3=>
 (bif b3
 then some (8:Int)
 else (Option.bind ((bif (decide (y1.2.2<y0.2.2.2.2.2.2.2.2.1))
 then some true
 else some (decide (y1.2.2>y0.2.2.2.2.2.2.2.2.2.1)))) fun b4=>
 (bif b4
 then some (8:Int)
 else some (0:Int)))))))))):=by kernel_rfl
def c56 (N:Nat):Sym.Callee:=⟨f56.args,f56.ta,f56.res,f56.tr,0,F56 N⟩
theorem ok56 (N:Nat):CalOK tab 56 (c56 N):=fn_ok (f56.ok0 N) fuelW 56 f56.args f56.ta f56.res f56.tr 0
namespace f25
def bcut:Nat→Nat→Option (Nat×Ty):=fun c i=>match c,i with
 |0,24=>some (71,.bool)
 |0,100024=>some (71,.bool)
 |_,_=>none
def unr:Nat→Nat→Bool:=fun c i=>match c,i with
 |0,18=>true
 |0,100018=>true
 |_,_=>false
def args:List PSh:=[.agg [.sl (.int .u8) .d,.int .i64]]
def ta:List Ty:=[(.sl (.int .u8)),.int .i64]
def res:List (Bool×List CSh):=[(true,[.sl (.int .u8) .d,.int .i64]),(true,[.int .u8,.int .i64,.int .i64,.int .i64]),(false,[.int .i64])]
def tr:List Ty:=[(.sl (.int .u8)),.int .i64,.int .u8,.int .i64,.int .i64,.int .i64,.int .i64]
def E0 (N:Nat):SEnv:=((((((SEnv.base tab cuts ccut bcut unr ety).addCal 54 (c54 N)).addCal 53 (c53 N)).addCal 55 (c55 N)).addCal 24 (c24 N)).addCal 20 (c20 N)).addCal 56 (c56 N)
theorem ok0 (N:Nat):EnvOK tab (E0 N):=((((((base_ok tab cuts ccut bcut unr ety).addCal (ok54 N)).addCal (ok53 N)).addCal (ok55 N)).addCal (ok24 N)).addCal (ok20 N)).addCal (ok56 N)
end f25
def F25 (N:Nat) (x:List Int×Int):Option (List Int×Int×Int×Int×Int×Int×Int):=fnRun (f25.E0 N) fuelW 25 f25.args f25.ta f25.res f25.tr 0 x
open f25 in
theorem F25_eq (N:Nat) (p0:List Int) (p1:Int):F25 N (p0,p1) =
 ((F54 N (p0,p1)).bind fun y0=>
 (bif (y0.2 != (0:Int))
 then ((F53 N y0.2).bind fun y1=>
 some (y1.1,y1.2.1,y1.2.2.1,y1.2.2.2.1,y1.2.2.2.2.1,y1.2.2.2.2.2.1,y1.2.2.2.2.2.2))
 else (bif (y0.1==(0:Int))
 then ((F53 N (24:Int)).bind fun y2=>
 some (y2.1,y2.2.1,y2.2.2.1,y2.2.2.2.1,y2.2.2.2.2.1,y2.2.2.2.2.2.1,y2.2.2.2.2.2.2))
 else ((idx p0 p1).bind fun x3=>
 ((F55 N x3).bind fun y4=>
 (bif (decide (y4.2.2.2.2.2.2.2.2.2.2.2.2<(0:Int)))
 then ((F53 N (12:Int)).bind fun y5=>
 some (y5.1,y5.2.1,y5.2.2.1,y5.2.2.2.1,y5.2.2.2.2.1,y5.2.2.2.2.2.1,y5.2.2.2.2.2.2))
 else (bif (decide ((0:Int)<y4.2.2.2.2.2.2.2.2.2.2.2.2))
 then (bif (decide (y4.1<(0:Int)))
 then ((F24 N (p0,(wi64 (p1+(1:Int))))).bind fun y7=>
 (bif (y7.2.2.2 != (0:Int))
 then ((F53 N y7.2.2.2).bind fun y8=>
 some (y8.1,y8.2.1,y8.2.2.1,y8.2.2.2.1,y8.2.2.2.2.1,y8.2.2.2.2.2.1,y8.2.2.2.2.2.2))
 else (bif (decide ((1:Int)<y4.2.2.2.2.2.2.2.2.2.2.2.2))
 then (bif (decide (y4.2.2.2.2.1<(0:Int)))
 then ((F24 N (y7.1,y7.2.1)).bind fun y10=>
 (bif (y10.2.2.2 != (0:Int))
 then ((F53 N y10.2.2.2).bind fun y11=>
 some (y11.1,y11.2.1,y11.2.2.1,y11.2.2.2.1,y11.2.2.2.2.1,y11.2.2.2.2.2.1,y11.2.2.2.2.2.2))
 else (bif (decide ((2:Int)<y4.2.2.2.2.2.2.2.2.2.2.2.2))
 then (bif (decide (y4.2.2.2.2.2.2.2.2.1<(0:Int)))
 then ((F24 N (y10.1,y10.2.1)).bind fun y13=>
 (bif (y13.2.2.2 != (0:Int))
 then ((F53 N y13.2.2.2).bind fun y14=>
 some (y14.1,y14.2.1,y14.2.2.1,y14.2.2.2.1,y14.2.2.2.2.1,y14.2.2.2.2.2.1,y14.2.2.2.2.2.2))
 else (bif (decide ((3:Int)<y4.2.2.2.2.2.2.2.2.2.2.2.2))
 then (Option.bind none fun b15=>
 (bif b15
 then ((F24 N (y13.1,y13.2.1)).bind fun y16=>
 none)
 else ((F20 N (y13.1,y13.2.1,(18446744073709551615:Int))).bind fun y17=>
 none)))
 else ((F56 N (x3,y7.2.2.1,y10.2.2.1,y13.2.2.1)).bind fun y18=>
 (bif (y18 != (0:Int))
 then ((F53 N (12:Int)).bind fun y19=>
 some (y19.1,y19.2.1,y19.2.2.1,y19.2.2.2.1,y19.2.2.2.2.1,y19.2.2.2.2.2.1,y19.2.2.2.2.2.2))
 else some (y13.1,y13.2.1,x3,y7.2.2.1,y10.2.2.1,y13.2.2.1,(0:Int)))))))
 else ((F20 N (y10.1,y10.2.1,(18446744073709551615:Int))).bind fun y20=>
 (bif (y20.2.2.2 != (0:Int))
 then ((F53 N y20.2.2.2).bind fun y21=>
 some (y21.1,y21.2.1,y21.2.2.1,y21.2.2.2.1,y21.2.2.2.2.1,y21.2.2.2.2.2.1,y21.2.2.2.2.2.2))
 else (bif (decide ((3:Int)<y4.2.2.2.2.2.2.2.2.2.2.2.2))
 then (Option.bind none fun b22=>
 (bif b22
 then ((F24 N (y20.1,y20.2.1)).bind fun y23=>
 none)
 else ((F20 N (y20.1,y20.2.1,(18446744073709551615:Int))).bind fun y24=>
 none)))
 else ((F56 N (x3,y7.2.2.1,y10.2.2.1,(wi64 (min y20.2.2.1 (1048576:Int))))).bind fun y25=>
 (bif (y25 != (0:Int))
 then ((F53 N (12:Int)).bind fun y26=>
 some (y26.1,y26.2.1,y26.2.2.1,y26.2.2.2.1,y26.2.2.2.2.1,y26.2.2.2.2.2.1,y26.2.2.2.2.2.2))
 else some (y20.1,y20.2.1,x3,y7.2.2.1,y10.2.2.1,(wi64 (min y20.2.2.1 (1048576:Int))),(0:Int))))))))
 else ((F56 N (x3,y7.2.2.1,y10.2.2.1,(0:Int))).bind fun y27=>
 (bif (y27 != (0:Int))
 then ((F53 N (12:Int)).bind fun y28=>
 some (y28.1,y28.2.1,y28.2.2.1,y28.2.2.2.1,y28.2.2.2.2.1,y28.2.2.2.2.2.1,y28.2.2.2.2.2.2))
 else some (y10.1,y10.2.1,x3,y7.2.2.1,y10.2.2.1,(0:Int),(0:Int)))))))
 else ((F20 N (y7.1,y7.2.1,(18446744073709551615:Int))).bind fun y29=>
 (bif (y29.2.2.2 != (0:Int))
 then ((F53 N y29.2.2.2).bind fun y30=>
 some (y30.1,y30.2.1,y30.2.2.1,y30.2.2.2.1,y30.2.2.2.2.1,y30.2.2.2.2.2.1,y30.2.2.2.2.2.2))
 else (bif (decide ((2:Int)<y4.2.2.2.2.2.2.2.2.2.2.2.2))
 then (bif (decide (y4.2.2.2.2.2.2.2.2.1<(0:Int)))
 then ((F24 N (y29.1,y29.2.1)).bind fun y32=>
 (bif (y32.2.2.2 != (0:Int))
 then ((F53 N y32.2.2.2).bind fun y33=>
 some (y33.1,y33.2.1,y33.2.2.1,y33.2.2.2.1,y33.2.2.2.2.1,y33.2.2.2.2.2.1,y33.2.2.2.2.2.2))
 else (bif (decide ((3:Int)<y4.2.2.2.2.2.2.2.2.2.2.2.2))
 then (Option.bind none fun b34=>
 (bif b34
 then ((F24 N (y32.1,y32.2.1)).bind fun y35=>
 none)
 else ((F20 N (y32.1,y32.2.1,(18446744073709551615:Int))).bind fun y36=>
 none)))
 else ((F56 N (x3,y7.2.2.1,(wi64 (min y29.2.2.1 (1048576:Int))),y32.2.2.1)).bind fun y37=>
 (bif (y37 != (0:Int))
 then ((F53 N (12:Int)).bind fun y38=>
 some (y38.1,y38.2.1,y38.2.2.1,y38.2.2.2.1,y38.2.2.2.2.1,y38.2.2.2.2.2.1,y38.2.2.2.2.2.2))
 else some (y32.1,y32.2.1,x3,y7.2.2.1,(wi64 (min y29.2.2.1 (1048576:Int))),y32.2.2.1,(0:Int)))))))
 else ((F20 N (y29.1,y29.2.1,(18446744073709551615:Int))).bind fun y39=>
 (bif (y39.2.2.2 != (0:Int))
 then ((F53 N y39.2.2.2).bind fun y40=>
 some (y40.1,y40.2.1,y40.2.2.1,y40.2.2.2.1,y40.2.2.2.2.1,y40.2.2.2.2.2.1,y40.2.2.2.2.2.2))
 else (bif (decide ((3:Int)<y4.2.2.2.2.2.2.2.2.2.2.2.2))
 then (Option.bind none fun b41=>
 (bif b41
 then ((F24 N (y39.1,y39.2.1)).bind fun y42=>
 none)
 else ((F20 N (y39.1,y39.2.1,(18446744073709551615:Int))).bind fun y43=>
 none)))
 else ((F56 N (x3,y7.2.2.1,(wi64 (min y29.2.2.1 (1048576:Int))),(wi64 (min y39.2.2.1 (1048576:Int))))).bind fun y44=>
 (bif (y44 != (0:Int))
 then ((F53 N (12:Int)).bind fun y45=>
 some (y45.1,y45.2.1,y45.2.2.1,y45.2.2.2.1,y45.2.2.2.2.1,y45.2.2.2.2.2.1,y45.2.2.2.2.2.2))
 else some (y39.1,y39.2.1,x3,y7.2.2.1,(wi64 (min y29.2.2.1 (1048576:Int))),(wi64 (min y39.2.2.1 (1048576:Int))),(0:Int))))))))
 else ((F56 N (x3,y7.2.2.1,(wi64 (min y29.2.2.1 (1048576:Int))),(0:Int))).bind fun y46=>
 (bif (y46 != (0:Int))
 then ((F53 N (12:Int)).bind fun y47=>
 some (y47.1,y47.2.1,y47.2.2.1,y47.2.2.2.1,y47.2.2.2.2.1,y47.2.2.2.2.2.1,y47.2.2.2.2.2.2))
 else some (y29.1,y29.2.1,x3,y7.2.2.1,(wi64 (min y29.2.2.1 (1048576:Int))),(0:Int),(0:Int))))))))
 else ((F56 N (x3,y7.2.2.1,(0:Int),(0:Int))).bind fun y48=>
 (bif (y48 != (0:Int))
 then ((F53 N (12:Int)).bind fun y49=>
 some (y49.1,y49.2.1,y49.2.2.1,y49.2.2.2.1,y49.2.2.2.2.1,y49.2.2.2.2.2.1,y49.2.2.2.2.2.2))
 else some (y7.1,y7.2.1,x3,y7.2.2.1,(0:Int),(0:Int),(0:Int)))))))
 else ((F20 N (p0,(wi64 (p1+(1:Int))),(18446744073709551615:Int))).bind fun y50=>
 (bif (y50.2.2.2 != (0:Int))
 then ((F53 N y50.2.2.2).bind fun y51=>
 some (y51.1,y51.2.1,y51.2.2.1,y51.2.2.2.1,y51.2.2.2.2.1,y51.2.2.2.2.2.1,y51.2.2.2.2.2.2))
 else (bif (decide ((1:Int)<y4.2.2.2.2.2.2.2.2.2.2.2.2))
 then (bif (decide (y4.2.2.2.2.1<(0:Int)))
 then ((F24 N (y50.1,y50.2.1)).bind fun y53=>
 (bif (y53.2.2.2 != (0:Int))
 then ((F53 N y53.2.2.2).bind fun y54=>
 some (y54.1,y54.2.1,y54.2.2.1,y54.2.2.2.1,y54.2.2.2.2.1,y54.2.2.2.2.2.1,y54.2.2.2.2.2.2))
 else (bif (decide ((2:Int)<y4.2.2.2.2.2.2.2.2.2.2.2.2))
 then (bif (decide (y4.2.2.2.2.2.2.2.2.1<(0:Int)))
 then ((F24 N (y53.1,y53.2.1)).bind fun y56=>
 (bif (y56.2.2.2 != (0:Int))
 then ((F53 N y56.2.2.2).bind fun y57=>
 some (y57.1,y57.2.1,y57.2.2.1,y57.2.2.2.1,y57.2.2.2.2.1,y57.2.2.2.2.2.1,y57.2.2.2.2.2.2))
 else (bif (decide ((3:Int)<y4.2.2.2.2.2.2.2.2.2.2.2.2))
 then (Option.bind none fun b58=>
 (bif b58
 then ((F24 N (y56.1,y56.2.1)).bind fun y59=>
 none)
 else ((F20 N (y56.1,y56.2.1,(18446744073709551615:Int))).bind fun y60=>
 none)))
 else ((F56 N (x3,(wi64 (min y50.2.2.1 (1048576:Int))),y53.2.2.1,y56.2.2.1)).bind fun y61=>
 (bif (y61 != (0:Int))
 then ((F53 N (12:Int)).bind fun y62=>
 some (y62.1,y62.2.1,y62.2.2.1,y62.2.2.2.1,y62.2.2.2.2.1,y62.2.2.2.2.2.1,y62.2.2.2.2.2.2))
 else some (y56.1,y56.2.1,x3,(wi64 (min y50.2.2.1 (1048576:Int))),y53.2.2.1,y56.2.2.1,(0:Int)))))))
 else ((F20 N (y53.1,y53.2.1,(18446744073709551615:Int))).bind fun y63=>
 (bif (y63.2.2.2 != (0:Int))
 then ((F53 N y63.2.2.2).bind fun y64=>
 some (y64.1,y64.2.1,y64.2.2.1,y64.2.2.2.1,y64.2.2.2.2.1,y64.2.2.2.2.2.1,y64.2.2.2.2.2.2))
 else (bif (decide ((3:Int)<y4.2.2.2.2.2.2.2.2.2.2.2.2))
 then (Option.bind none fun b65=>
 (bif b65
 then ((F24 N (y63.1,y63.2.1)).bind fun y66=>
 none)
 else ((F20 N (y63.1,y63.2.1,(18446744073709551615:Int))).bind fun y67=>
 none)))
 else ((F56 N (x3,(wi64 (min y50.2.2.1 (1048576:Int))),y53.2.2.1,(wi64 (min y63.2.2.1 (1048576:Int))))).bind fun y68=>
 (bif (y68 != (0:Int))
 then ((F53 N (12:Int)).bind fun y69=>
 some (y69.1,y69.2.1,y69.2.2.1,y69.2.2.2.1,y69.2.2.2.2.1,y69.2.2.2.2.2.1,y69.2.2.2.2.2.2))
 else some (y63.1,y63.2.1,x3,(wi64 (min y50.2.2.1 (1048576:Int))),y53.2.2.1,(wi64 (min y63.2.2.1 (1048576:Int))),(0:Int))))))))
 else ((F56 N (x3,(wi64 (min y50.2.2.1 (1048576:Int))),y53.2.2.1,(0:Int))).bind fun y70=>
 (bif (y70 != (0:Int))
 then ((F53 N (12:Int)).bind fun y71=>
 some (y71.1,y71.2.1,y71.2.2.1,y71.2.2.2.1,y71.2.2.2.2.1,y71.2.2.2.2.2.1,y71.2.2.2.2.2.2))
 else some (y53.1,y53.2.1,x3,(wi64 (min y50.2.2.1 (1048576:Int))),y53.2.2.1,(0:Int),(0:Int)))))))
 else ((F20 N (y50.1,y50.2.1,(18446744073709551615:Int))).bind fun y72=>
 (bif (y72.2.2.2 != (0:Int))
 then ((F53 N y72.2.2.2).bind fun y73=>
 some (y73.1,y73.2.1,y73.2.2.1,y73.2.2.2.1,y73.2.2.2.2.1,y73.2.2.2.2.2.1,y73.2.2.2.2.2.2))
 else (bif (decide ((2:Int)<y4.2.2.2.2.2.2.2.2.2.2.2.2))
 then (bif (decide (y4.2.2.2.2.2.2.2.2.1<(0:Int)))
 then ((F24 N (y72.1,y72.2.1)).bind fun y75=>
 (bif (y75.2.2.2 != (0:Int))
 then ((F53 N y75.2.2.2).bind fun y76=>
 some (y76.1,y76.2.1,y76.2.2.1,y76.2.2.2.1,y76.2.2.2.2.1,y76.2.2.2.2.2.1,y76.2.2.2.2.2.2))
 else (bif (decide ((3:Int)<y4.2.2.2.2.2.2.2.2.2.2.2.2))
 then (Option.bind none fun b77=>
 (bif b77
 then ((F24 N (y75.1,y75.2.1)).bind fun y78=>
 none)
 else ((F20 N (y75.1,y75.2.1,(18446744073709551615:Int))).bind fun y79=>
 none)))
 else ((F56 N (x3,(wi64 (min y50.2.2.1 (1048576:Int))),(wi64 (min y72.2.2.1 (1048576:Int))),y75.2.2.1)).bind fun y80=>
 (bif (y80 != (0:Int))
 then ((F53 N (12:Int)).bind fun y81=>
 some (y81.1,y81.2.1,y81.2.2.1,y81.2.2.2.1,y81.2.2.2.2.1,y81.2.2.2.2.2.1,y81.2.2.2.2.2.2))
 else some (y75.1,y75.2.1,x3,(wi64 (min y50.2.2.1 (1048576:Int))),(wi64 (min y72.2.2.1 (1048576:Int))),y75.2.2.1,(0:Int)))))))
 else ((F20 N (y72.1,y72.2.1,(18446744073709551615:Int))).bind fun y82=>
 (bif (y82.2.2.2 != (0:Int))
 then ((F53 N y82.2.2.2).bind fun y83=>
 some (y83.1,y83.2.1,y83.2.2.1,y83.2.2.2.1,y83.2.2.2.2.1,y83.2.2.2.2.2.1,y83.2.2.2.2.2.2))
 else (bif (decide ((3:Int)<y4.2.2.2.2.2.2.2.2.2.2.2.2))
 then (Option.bind none fun b84=>
 (bif b84
 then ((F24 N (y82.1,y82.2.1)).bind fun y85=>
 none)
 else ((F20 N (y82.1,y82.2.1,(18446744073709551615:Int))).bind fun y86=>
 none)))
 else ((F56 N (x3,(wi64 (min y50.2.2.1 (1048576:Int))),(wi64 (min y72.2.2.1 (1048576:Int))),(wi64 (min y82.2.2.1 (1048576:Int))))).bind fun y87=>
 (bif (y87 != (0:Int))
 then ((F53 N (12:Int)).bind fun y88=>
 some (y88.1,y88.2.1,y88.2.2.1,y88.2.2.2.1,y88.2.2.2.2.1,y88.2.2.2.2.2.1,y88.2.2.2.2.2.2))
 else some (y82.1,y82.2.1,x3,(wi64 (min y50.2.2.1 (1048576:Int))),(wi64 (min y72.2.2.1 (1048576:Int))),(wi64 (min y82.2.2.1 (1048576:Int))),(0:Int))))))))
 else ((F56 N (x3,(wi64 (min y50.2.2.1 (1048576:Int))),(wi64 (min y72.2.2.1 (1048576:Int))),(0:Int))).bind fun y89=>
 (bif (y89 != (0:Int))
 then ((F53 N (12:Int)).bind fun y90=>
 some (y90.1,y90.2.1,y90.2.2.1,y90.2.2.2.1,y90.2.2.2.2.1,y90.2.2.2.2.2.1,y90.2.2.2.2.2.2))
 else some (y72.1,y72.2.1,x3,(wi64 (min y50.2.2.1 (1048576:Int))),(wi64 (min y72.2.2.1 (1048576:Int))),(0:Int),(0:Int))))))))
 else ((F56 N (x3,(wi64 (min y50.2.2.1 (1048576:Int))),(0:Int),(0:Int))).bind fun y91=>
 (bif (y91 != (0:Int))
 then ((F53 N (12:Int)).bind fun y92=>
 some (y92.1,y92.2.1,y92.2.2.1,y92.2.2.2.1,y92.2.2.2.2.1,y92.2.2.2.2.2.1,y92.2.2.2.2.2.2))
 else some (y50.1,y50.2.1,x3,(wi64 (min y50.2.2.1 (1048576:Int))),(0:Int),(0:Int),(0:Int))))))))
 else ((F56 N (x3,(0:Int),(0:Int),(0:Int))).bind fun y93=>
 (bif (y93 != (0:Int))
 then ((F53 N (12:Int)).bind fun y94=>
 some (y94.1,y94.2.1,y94.2.2.1,y94.2.2.2.1,y94.2.2.2.2.1,y94.2.2.2.2.2.1,y94.2.2.2.2.2.2))
 else some (p0,(wi64 (p1+(1:Int))),x3,(0:Int),(0:Int),(0:Int),(0:Int))))))))))):=by kernel_rfl
def c25 (N:Nat):Sym.Callee:=⟨f25.args,f25.ta,f25.res,f25.tr,0,F25 N⟩
theorem ok25 (N:Nat):CalOK tab 25 (c25 N):=fn_ok (f25.ok0 N) fuelW 25 f25.args f25.ta f25.res f25.tr 0
namespace f86
def args:List PSh:=[.c (.int .i64)]
def ta:List Ty:=[.int .i64]
def res:List (Bool×List CSh):=[(true,[.sl (.int .u8) .d,.int .i64]),(false,[.sl TRun .d]),(false,[.int .i64])]
def tr:List Ty:=[(.sl (.int .u8)),.int .i64,.sl TRun,.int .i64]
def E0 (N:Nat):SEnv:=SEnv.base tab cuts ccut bcut unr ety
theorem ok0 (N:Nat):EnvOK tab (E0 N):=base_ok tab cuts ccut bcut unr ety
end f86
def F86 (N:Nat) (x:Int):Option (List Int×Int×List Run×Int):=fnRun (f86.E0 N) fuelW 86 f86.args f86.ta f86.res f86.tr 0 x
open f86 in
theorem F86_eq (N:Nat) (p0:Int):F86 N p0 =
 some ([],(0:Int),[],p0):=by kernel_rfl
def c86 (N:Nat):Sym.Callee:=⟨f86.args,f86.ta,f86.res,f86.tr,0,F86 N⟩
theorem ok86 (N:Nat):CalOK tab 86 (c86 N):=fn_ok (f86.ok0 N) fuelW 86 f86.args f86.ta f86.res f86.tr 0
namespace f87
def bcut:Nat→Nat→Option (Nat×Ty):=fun c i=>match c,i with
 |0,1=>some (8,.bool)
 |_,_=>none
def args:List PSh:=[.c (.int .i64)]
def ta:List Ty:=[.int .i64]
def res:List (Bool×List CSh):=[(false,[.int .i64])]
def tr:List Ty:=[.int .i64]
def E0 (N:Nat):SEnv:=SEnv.base tab cuts ccut bcut unr ety
theorem ok0 (N:Nat):EnvOK tab (E0 N):=base_ok tab cuts ccut bcut unr ety
end f87
def F87 (N:Nat) (x:Int):Option Int:=fnRun (f87.E0 N) fuelW 87 f87.args f87.ta f87.res f87.tr 0 x
open f87 in
theorem F87_eq (N:Nat) (p0:Int):F87 N p0 =
 (Option.bind ((bif (decide (p0<(1:Int)))
 then some true
 else some (decide (p0>(200:Int))))) fun b0=>
 (bif b0
 then some (2:Int)
 else some (0:Int))):=by kernel_rfl
def c87 (N:Nat):Sym.Callee:=⟨f87.args,f87.ta,f87.res,f87.tr,0,F87 N⟩
theorem ok87 (N:Nat):CalOK tab 87 (c87 N):=fn_ok (f87.ok0 N) fuelW 87 f87.args f87.ta f87.res f87.tr 0
namespace f88
def bcut:Nat→Nat→Option (Nat×Ty):=fun c i=>match c,i with
 |0,1=>some (28,.bool)
 |_,_=>none
def args:List PSh:=[.c (.sl TRun .bor),.c (.int .i64)]
def ta:List Ty:=[.sl TRun,.int .i64]
def res:List (Bool×List CSh):=[(false,[.bool])]
def tr:List Ty:=[.bool]
def E0 (N:Nat):SEnv:=SEnv.base tab cuts ccut bcut unr ety
theorem ok0 (N:Nat):EnvOK tab (E0 N):=base_ok tab cuts ccut bcut unr ety
def T0_7:Tmpl:=⟨[(5,.c (.ptr 0 5 0 0 0)),(33,.c (.sl TRun .bor)),(34,.c (.int .i64)),(35,.c (.int .i64))],[],[(0,5,.box 0 [.int .i64,.int .u64])],1,[],1,[.sl TRun,.int .i64,.int .i64,.int .i64,.int .u64]⟩
def O0_7:Outs:=[(.ret,⟨[(4,.c (.bool))],[],[],1,[],0,[.bool]⟩),(.exit 0,⟨[],[],[],1,[],0,[]⟩)]
def L0_7 (N:Nat) (k:Nat) (x:List Run×Int×Int×Int×Int):Option (Bool⊕Unit):=loopF (loopStep (E0 N) fuelW 0 7 (bodyAt t88 7) T0_7 O0_7) k x
theorem L0_7_succ (N:Nat) (k:Nat) (v4:List Run) (v5:Int) (v6:Int) (v7:Int) (v8:Int):L0_7 N (k+1) (v4,v5,v6,v7,v8) =
 (bif (decide (v6<v5))
 then ((idx v4 v6).bind fun x9=>
 (bif (decide (x9.1≤v7))
 then some (Sum.inl false)
 else (bif (x9.1==x9.1&&(x9.2==v8&&true))
 then some (Sum.inl false)
 else L0_7 N k (v4,v5,(wi64 (v6+(1:Int))),x9.1,x9.2))))
 else some (Sum.inr ())):=by kernel_rfl
def E1 (N:Nat):SEnv:=(E0 N).addLoop N 0 7 T0_7 O0_7
theorem ok1 (N:Nat):EnvOK tab (E1 N):=(ok0 N).addLoop N 0 7 T0_7 O0_7
end f88
def F88 (N:Nat) (x:List Run×Int):Option Bool:=fnRun (f88.E1 N) fuelW 88 f88.args f88.ta f88.res f88.tr 0 x
open f88 in
theorem F88_eq (N:Nat) (p0:List Run) (p1:Int):F88 N (p0,p1) =
 (Option.bind ((bif ((p0.length:Int)==(0:Int))
 then some true
 else ((idx p0 (0:Int)).bind fun x0=>
 (bif (x0.1 != (0:Int))
 then some true
 else ((idx p0 (wi64 ((p0.length:Int)-(1:Int)))).bind fun x1=>
 some (decide (x1.1≥p1))))))) fun b2=>
 (bif b2
 then some false
 else ((idx p0 (0:Int)).bind fun x3=>
 (chk (decide (1≤p0.length))
 (((L0_7 N N ((p0.drop 1),((p0.drop 1).length:Int),(0:Int),x3.1,x3.2)).bind fun y10=>
 (match y10 with
 |.inl a11=>some a11
 |.inr b12=>some true))))))):=by kernel_rfl
def c88 (N:Nat):Sym.Callee:=⟨f88.args,f88.ta,f88.res,f88.tr,0,F88 N⟩
theorem ok88 (N:Nat):CalOK tab 88 (c88 N):=fn_ok (f88.ok1 N) fuelW 88 f88.args f88.ta f88.res f88.tr 0
namespace f57
def ety:Nat→Nat→Option Ty:=fun c d=>match c,d with
 |0,97=>some TRun
 |_,_=>none
def args:List PSh:=[.agg [.sl (.int .u8) .d,.int .i64],.c (.int .i64)]
def ta:List Ty:=[(.sl (.int .u8)),.int .i64,.int .i64]
def res:List (Bool×List CSh):=[(true,[.sl (.int .u8) .d,.int .i64]),(false,[.sl TRun .d]),(false,[.int .i64])]
def tr:List Ty:=[(.sl (.int .u8)),.int .i64,.sl TRun,.int .i64]
def E0 (N:Nat):SEnv:=(((((SEnv.base tab cuts ccut bcut unr ety).addCal 54 (c54 N)).addCal 86 (c86 N)).addCal 87 (c87 N)).addCal 20 (c20 N)).addCal 88 (c88 N)
theorem ok0 (N:Nat):EnvOK tab (E0 N):=(((((base_ok tab cuts ccut bcut unr ety).addCal (ok54 N)).addCal (ok86 N)).addCal (ok87 N)).addCal (ok20 N)).addCal (ok88 N)
def T0_18:Tmpl:=⟨[(1,.c (.int .i64)),(2,.c (.ptr 0 2 0 0 0)),(4,.c (.ptr 0 4 1 0 0)),(7,.clo 86 []),(13,.c (.sl TRun (.app 2))),(14,.c (.int .i64)),(57,.c (.int .i64)),(58,.c (.int .i64))],[],[(0,2,.box 0 [.sl (.int .u8) .d,.int .i64]),(0,4,.box 1 [.nil true,.int .i64])],1,[2],3,[.int .i64,.sl TRun,.int .i64,.int .i64,.int .i64,(.sl (.int .u8)),.int .i64,.int .i64]⟩
def O0_18:Outs:=[(.ret,⟨[(4,.c (.ptr 0 4 0 0 0)),(5,.c (.sl TRun .d)),(6,.c (.int .i64))],[],[(0,4,.box 0 [.sl (.int .u8) .d,.int .i64])],1,[],1,[.sl TRun,.int .i64,(.sl (.int .u8)),.int .i64]⟩),(.exit 0,⟨[(1,.c (.int .i64)),(2,.c (.ptr 0 2 0 0 0)),(4,.c (.ptr 0 4 1 0 0)),(7,.clo 86 []),(13,.c (.sl TRun (.app 2)))],[],[(0,2,.box 0 [.sl (.int .u8) .d,.int .i64]),(0,4,.box 1 [.nil true,.int .i64])],1,[2],3,[.int .i64,.sl TRun,(.sl (.int .u8)),.int .i64,.int .i64]⟩)]
def L0_18 (N:Nat) (k:Nat) (x:Int×List Run×Int×Int×Int×List Int×Int×Int):Option ((List Run×Int×List Int×Int)⊕(Int×List Run×List Int×Int×Int)):=loopF (loopStep (E0 N) fuelW 0 18 (bodyAt t57 18) T0_18 O0_18) k x
theorem L0_18_succ (N:Nat) (k:Nat) (v6:Int) (v7:List Run) (v8:Int) (v9:Int) (v10:Int) (v11:List Int) (v12:Int) (v13:Int):L0_18 N (k+1) (v6,v7,v8,v9,v10,v11,v12,v13) =
 (bif (decide (v10<v9))
 then ((F20 N (v11,v12,(18446744073709551615:Int))).bind fun y14=>
 (bif (y14.2.2.2 != (0:Int))
 then ((F86 N y14.2.2.2).bind fun y15=>
 some (Sum.inl (y15.2.2.1,y15.2.2.2,y15.1,y15.2.1)))
 else ((F20 N (y14.1,y14.2.1,(18446744073709551615:Int))).bind fun y16=>
 (bif (y16.2.2.2 != (0:Int))
 then ((F86 N y16.2.2.2).bind fun y17=>
 some (Sum.inl (y17.2.2.1,y17.2.2.2,y17.1,y17.2.1)))
 else (chk (room (v7.length+1) 16)
 (L0_18 N k (v6,(v7++[((wi64 (v8+(wi64 (min y14.2.2.1 (200:Int))))),y16.2.2.1)]),(wi64 (v8+(wi64 (min y14.2.2.1 (200:Int))))),v9,(wi64 (v10+(1:Int))),y16.1,y16.2.1,v13)))))))
 else some (Sum.inr (v6,v7,v11,v12,v13))):=by kernel_rfl
def E1 (N:Nat):SEnv:=(E0 N).addLoop N 0 18 T0_18 O0_18
theorem ok1 (N:Nat):EnvOK tab (E1 N):=(ok0 N).addLoop N 0 18 T0_18 O0_18
end f57
def F57 (N:Nat) (x:List Int×Int×Int):Option (List Int×Int×List Run×Int):=fnRun (f57.E1 N) fuelW 57 f57.args f57.ta f57.res f57.tr 0 x
open f57 in
theorem F57_eq (N:Nat) (p0:List Int) (p1:Int) (p2:Int):F57 N (p0,p1,p2) =
 ((F54 N (p0,p1)).bind fun y0=>
 (bif (y0.2 != (0:Int))
 then ((F86 N y0.2).bind fun y1=>
 some (y1.1,y1.2.1,y1.2.2.1,y1.2.2.2))
 else ((F87 N p2).bind fun y2=>
 (bif (y2 != (0:Int))
 then ((F86 N y2).bind fun y3=>
 some (y3.1,y3.2.1,y3.2.2.1,y3.2.2.2))
 else ((F20 N (p0,p1,(wu64 p2))).bind fun y4=>
 (bif (y4.2.2.2 != (0:Int))
 then ((F86 N y4.2.2.2).bind fun y5=>
 some (y5.1,y5.2.1,y5.2.2.1,y5.2.2.2))
 else ((L0_18 N N (p2,[],(0:Int),(wi64 y4.2.2.1),(0:Int),y4.1,y4.2.1,(0:Int))).bind fun y18=>
 (match y18 with
 |.inl a19=>some (a19.2.2.1,a19.2.2.2,a19.1,a19.2.1)
 |.inr b20=>((F88 N (b20.2.1,b20.1)).bind fun y21=>
 (bif (!y21)
 then ((F86 N (12:Int)).bind fun y22=>
 some (y22.1,y22.2.1,y22.2.2.1,y22.2.2.2))
 else some (b20.2.2.1,b20.2.2.2.1,b20.2.1,(0:Int)))))))))))):=by kernel_rfl
def c57 (N:Nat):Sym.Callee:=⟨f57.args,f57.ta,f57.res,f57.tr,0,F57 N⟩
theorem ok57 (N:Nat):CalOK tab 57 (c57 N):=fn_ok (f57.ok1 N) fuelW 57 f57.args f57.ta f57.res f57.tr 0
namespace f26
def args:List PSh:=[.box [.sl (.int .u8) .d,.int .i64,.int .i64],.c (.int .i64)]
def ta:List Ty:=[(.sl (.int .u8)),.int .i64,.int .i64,.int .i64]
def res:List (Bool×List CSh):=[(true,[.sl (.int .u8) .d,.int .i64,.int .i64]),(false,[.sl TRun .d])]
def tr:List Ty:=[(.sl (.int .u8)),.int .i64,.int .i64,.sl TRun]
def E0 (N:Nat):SEnv:=(SEnv.base tab cuts ccut bcut unr ety).addCal 57 (c57 N)
theorem ok0 (N:Nat):EnvOK tab (E0 N):=(base_ok tab cuts ccut bcut unr ety).addCal (ok57 N)
end f26
def F26 (N:Nat) (x:List Int×Int×Int×Int):Option (List Int×Int×Int×List Run):=fnRun (f26.E0 N) fuelW 26 f26.args f26.ta f26.res f26.tr 0 x
open f26 in
theorem F26_eq (N:Nat) (p0:List Int) (p1:Int) (p2:Int) (p3:Int):F26 N (p0,p1,p2,p3) =
 (bif (p2 != (0:Int))
 then some (p0,p1,p2,[])
 else ((F57 N (p0,p1,p3)).bind fun y0=>
 some (y0.1,y0.2.1,y0.2.2.2,y0.2.2.1))):=by kernel_rfl
def c26 (N:Nat):Sym.Callee:=⟨f26.args,f26.ta,f26.res,f26.tr,0,F26 N⟩
theorem ok26 (N:Nat):CalOK tab 26 (c26 N):=fn_ok (f26.ok0 N) fuelW 26 f26.args f26.ta f26.res f26.tr 0
namespace f10
def ety:Nat→Nat→Option Ty:=fun c d=>match c,d with
 |0,63=>some TInstr
 |_,_=>none
def args:List PSh:=[.box [.sl (.int .u8) .d,.int .i64,.int .i64]]
def ta:List Ty:=[(.sl (.int .u8)),.int .i64,.int .i64]
def res:List (Bool×List CSh):=[(true,[.sl (.int .u8) .d,.int .i64,.int .i64]),(true,[.str,.int .i64,.int .i64,.sl TField .d,.sl TInstr .d,.sl TRun .d,.sl TRun .d])]
def tr:List Ty:=[(.sl (.int .u8)),.int .i64,.int .i64,.str,.int .i64,.int .i64,.sl TField,.sl TInstr,.sl TRun,.sl TRun]
def E0 (N:Nat):SEnv:=((((((SEnv.base tab cuts ccut bcut unr ety).addCal 9 (c9 N)).addCal 7 (c7 N)).addCal 24 (c24 N)).addCal 22 (c22 N)).addCal 25 (c25 N)).addCal 26 (c26 N)
theorem ok0 (N:Nat):EnvOK tab (E0 N):=((((((base_ok tab cuts ccut bcut unr ety).addCal (ok9 N)).addCal (ok7 N)).addCal (ok24 N)).addCal (ok22 N)).addCal (ok25 N)).addCal (ok26 N)
def T0_10:Tmpl:=⟨[(0,.c (.ptr 0 0 0 0 0)),(2,.c (.ptr 1 2 1 0 0)),(3,.c (.ptr 1 3 2 0 0)),(37,.c (.int .i64)),(38,.c (.int .i64))],[[(0,.c (.ptr 0 0 0 0 0))]],[(0,0,.box 0 [.sl (.int .u8) .d,.int .i64,.int .i64]),(1,2,.box 1 [.str,.int .i64,.int .i64,.nil true,.nil true,.nil true,.nil true]),(1,3,.box 2 [.str,.int .i64,.int .i64,.sl TField .d,.sl TInstr (.app 3),.nil true,.nil true])],2,[3],4,[.int .i64,.int .i64,(.sl (.int .u8)),.int .i64,.int .i64,.str,.int .i64,.int .i64,.str,.int .i64,.int .i64,.sl TField,.sl TInstr]⟩
def O0_10:Outs:=[(.exit 0,⟨[(0,.c (.ptr 0 0 0 0 0)),(2,.c (.ptr 1 2 1 0 0)),(3,.c (.ptr 1 3 2 0 0))],[[(0,.c (.ptr 0 0 0 0 0))]],[(0,0,.box 0 [.sl (.int .u8) .d,.int .i64,.int .i64]),(1,2,.box 1 [.str,.int .i64,.int .i64,.nil true,.nil true,.nil true,.nil true]),(1,3,.box 2 [.str,.int .i64,.int .i64,.sl TField .d,.sl TInstr (.app 3),.nil true,.nil true])],2,[3],4,[(.sl (.int .u8)),.int .i64,.int .i64,.str,.int .i64,.int .i64,.str,.int .i64,.int .i64,.sl TField,.sl TInstr]⟩)]
def L0_10 (N:Nat) (k:Nat) (x:Int×Int×List Int×Int×Int×List UInt8×Int×Int×List UInt8×Int×Int×List Field×List Instr):Option ((List Int×Int×Int×List UInt8×Int×Int×List UInt8×Int×Int×List Field×List Instr)):=loopF (loopStep (E0 N) fuelW 0 10 (bodyAt t10 10) T0_10 O0_10) k x
theorem L0_10_succ (N:Nat) (k:Nat) (v5:Int) (v6:Int) (v7:List Int) (v8:Int) (v9:Int) (v10:List UInt8) (v11:Int) (v12:Int) (v13:List UInt8) (v14:Int) (v15:Int) (v16:List Field) (v17:List Instr):L0_10 N (k+1) (v5,v6,v7,v8,v9,v10,v11,v12,v13,v14,v15,v16,v17) =
 (bif (decide (v6<v5))
 then (bif (v9 != (0:Int))
 then some (v7,v8,v9,v10,v11,v12,v13,v14,v15,v16,v17)
 else ((F25 N (v7,v8)).bind fun y18=>
 (chk (room (v17.length+1) 32)
 (L0_10 N k (v5,(wi64 (v6+(1:Int))),y18.1,y18.2.1,y18.2.2.2.2.2.2,v10,v11,v12,v13,v14,v15,v16,(v17++[(y18.2.2.1,y18.2.2.2.1,y18.2.2.2.2.1,y18.2.2.2.2.2.1)]))))))
 else some (v7,v8,v9,v10,v11,v12,v13,v14,v15,v16,v17)):=by kernel_rfl
def E1 (N:Nat):SEnv:=(E0 N).addLoop N 0 10 T0_10 O0_10
theorem ok1 (N:Nat):EnvOK tab (E1 N):=(ok0 N).addLoop N 0 10 T0_10 O0_10
end f10
def F10 (N:Nat) (x:List Int×Int×Int):Option (List Int×Int×Int×List UInt8×Int×Int×List Field×List Instr×List Run×List Run):=fnRun (f10.E1 N) fuelW 10 f10.args f10.ta f10.res f10.tr 0 x
open f10 in
theorem F10_eq (N:Nat) (p0:List Int) (p1:Int) (p2:Int):F10 N (p0,p1,p2) =
 ((F9 N (p0,p1,p2,(16:Int))).bind fun y0=>
 ((F7 N (y0.1,y0.2.1,y0.2.2.1,(16:Int))).bind fun y1=>
 (bif (y1.2.2.1==(0:Int))
 then ((F24 N (y1.1,y1.2.1)).bind fun y2=>
 ((F22 N (y2.1,y2.2.1,y2.2.2.2,(16:Int))).bind fun y3=>
 ((F7 N (y3.1,y3.2.1,y3.2.2.1,(200:Int))).bind fun y4=>
 ((L0_10 N N (y4.2.2.2,(0:Int),y4.1,y4.2.1,y4.2.2.1,([]:List UInt8),(0:Int),(0:Int),y0.2.2.2,y1.2.2.2,y2.2.2.1,y3.2.2.2,[])).bind fun y19=>
 ((F26 N (y19.1,y19.2.1,y19.2.2.1,(y19.2.2.2.2.2.2.2.2.2.2.length:Int))).bind fun y20=>
 ((F26 N (y20.1,y20.2.1,y20.2.2.1,(y19.2.2.2.2.2.2.2.2.2.2.length:Int))).bind fun y21=>
 some (y21.1,y21.2.1,y21.2.2.1,y19.2.2.2.2.2.2.1,y19.2.2.2.2.2.2.2.1,y19.2.2.2.2.2.2.2.2.1,y19.2.2.2.2.2.2.2.2.2.1,y19.2.2.2.2.2.2.2.2.2.2,y20.2.2.2,y21.2.2.2)))))))
 else ((F22 N (y1.1,y1.2.1,y1.2.2.1,(16:Int))).bind fun y22=>
 ((F7 N (y22.1,y22.2.1,y22.2.2.1,(200:Int))).bind fun y23=>
 ((L0_10 N N (y23.2.2.2,(0:Int),y23.1,y23.2.1,y23.2.2.1,([]:List UInt8),(0:Int),(0:Int),y0.2.2.2,y1.2.2.2,(0:Int),y22.2.2.2,[])).bind fun y24=>
 ((F26 N (y24.1,y24.2.1,y24.2.2.1,(y24.2.2.2.2.2.2.2.2.2.2.length:Int))).bind fun y25=>
 ((F26 N (y25.1,y25.2.1,y25.2.2.1,(y24.2.2.2.2.2.2.2.2.2.2.length:Int))).bind fun y26=>
 some (y26.1,y26.2.1,y26.2.2.1,y24.2.2.2.2.2.2.1,y24.2.2.2.2.2.2.2.1,y24.2.2.2.2.2.2.2.2.1,y24.2.2.2.2.2.2.2.2.2.1,y24.2.2.2.2.2.2.2.2.2.2,y25.2.2.2,y26.2.2.2))))))))):=by kernel_rfl
def c10 (N:Nat):Sym.Callee:=⟨f10.args,f10.ta,f10.res,f10.tr,0,F10 N⟩
theorem ok10 (N:Nat):CalOK tab 10 (c10 N):=fn_ok (f10.ok1 N) fuelW 10 f10.args f10.ta f10.res f10.tr 0
namespace f89
def bcut:Nat→Nat→Option (Nat×Ty):=fun c i=>match c,i with
 |0,1=>some (4,.bool)
 |_,_=>none
def args:List PSh:=[.c (.int .i64),.c (.int .i64)]
def ta:List Ty:=[.int .i64,.int .i64]
def res:List (Bool×List CSh):=[(false,[.bool])]
def tr:List Ty:=[.bool]
def E0 (N:Nat):SEnv:=SEnv.base tab cuts ccut bcut unr ety
theorem ok0 (N:Nat):EnvOK tab (E0 N):=base_ok tab cuts ccut bcut unr ety
end f89
def F89 (N:Nat) (x:Int×Int):Option Bool:=fnRun (f89.E0 N) fuelW 89 f89.args f89.ta f89.res f89.tr 0 x
open f89 in
theorem F89_eq (N:Nat) (p0:Int) (p1:Int):F89 N (p0,p1) =
 (Option.bind ((bif (decide (p0≥(0:Int)))
 then some (decide (p0<p1))
 else some false)) fun b0=>
 some b0):=by kernel_rfl
def c89 (N:Nat):Sym.Callee:=⟨f89.args,f89.ta,f89.res,f89.tr,0,F89 N⟩
theorem ok89 (N:Nat):CalOK tab 89 (c89 N):=fn_ok (f89.ok0 N) fuelW 89 f89.args f89.ta f89.res f89.tr 0
namespace f101
def args:List PSh:=[.c (.int .i64)]
def ta:List Ty:=[.int .i64]
def res:List (Bool×List CSh):=[(false,[.bool])]
def tr:List Ty:=[.bool]
def E0 (N:Nat):SEnv:=SEnv.base tab cuts ccut bcut unr ety
theorem ok0 (N:Nat):EnvOK tab (E0 N):=base_ok tab cuts ccut bcut unr ety
end f101
def F101 (N:Nat) (x:Int):Option Bool:=fnRun (f101.E0 N) fuelW 101 f101.args f101.ta f101.res f101.tr 0 x
open f101 in
theorem F101_eq (N:Nat) (p0:Int):F101 N p0 =
 some (p0 != (0:Int)):=by kernel_rfl
def c101 (N:Nat):Sym.Callee:=⟨f101.args,f101.ta,f101.res,f101.tr,0,F101 N⟩
theorem ok101 (N:Nat):CalOK tab 101 (c101 N):=fn_ok (f101.ok0 N) fuelW 101 f101.args f101.ta f101.res f101.tr 0
namespace f90
def args:List PSh:=[.c (.sl (.int .i64) .bor)]
def ta:List Ty:=[(.sl (.int .i64))]
def res:List (Bool×List CSh):=[(false,[.bool])]
def tr:List Ty:=[.bool]
def E0 (N:Nat):SEnv:=(SEnv.base tab cuts ccut bcut unr ety).addCal 101 (c101 N)
theorem ok0 (N:Nat):EnvOK tab (E0 N):=(base_ok tab cuts ccut bcut unr ety).addCal (ok101 N)
def T1004001007000_3:Tmpl:=⟨[(0,.c (.sl (.int .i64) .bor)),(1,.clo 101 []),(7,.c (.int .i64)),(8,.c (.int .i64))],[[],[]],[],3,[],0,[(.sl (.int .i64)),.int .i64,.int .i64]⟩
def O1004001007000_3:Outs:=[(.ret,⟨[(4,.c (.int .i64))],[[],[]],[],3,[],0,[.int .i64]⟩),(.exit 0,⟨[],[[],[]],[],3,[],0,[]⟩)]
def L1004001007000_3 (N:Nat) (k:Nat) (x:List Int×Int×Int):Option (Int⊕Unit):=loopF (loopStep (E0 N) fuelW 1004001007000 3 (bodyAt t104 3) T1004001007000_3 O1004001007000_3) k x
theorem L1004001007000_3_succ (N:Nat) (k:Nat) (v0:List Int) (v1:Int) (v2:Int):L1004001007000_3 N (k+1) (v0,v1,v2) =
 (bif (decide (v2<v1))
 then ((idx v0 v2).bind fun x3=>
 ((F101 N x3).bind fun y4=>
 (bif y4
 then some (Sum.inl v2)
 else L1004001007000_3 N k (v0,v1,(wi64 (v2+(1:Int)))))))
 else some (Sum.inr ())):=by kernel_rfl
def E1 (N:Nat):SEnv:=(E0 N).addLoop N 1004001007000 3 T1004001007000_3 O1004001007000_3
theorem ok1 (N:Nat):EnvOK tab (E1 N):=(ok0 N).addLoop N 1004001007000 3 T1004001007000_3 O1004001007000_3
end f90
def F90 (N:Nat) (x:List Int):Option Bool:=fnRun (f90.E1 N) fuelW 90 f90.args f90.ta f90.res f90.tr 0 x
open f90 in
theorem F90_eq (N:Nat) (p0:List Int):F90 N p0 =
 ((L1004001007000_3 N N (p0,(p0.length:Int),(0:Int))).bind fun y5=>
 (match y5 with
 |.inl a6=>some (!(decide (a6≥(0:Int))))
 |.inr b7=>some (!(decide ((-1:Int)≥(0:Int)))))):=by kernel_rfl
def c90 (N:Nat):Sym.Callee:=⟨f90.args,f90.ta,f90.res,f90.tr,0,F90 N⟩
theorem ok90 (N:Nat):CalOK tab 90 (c90 N):=fn_ok (f90.ok1 N) fuelW 90 f90.args f90.ta f90.res f90.tr 0
namespace f61
def bcut:Nat→Nat→Option (Nat×Ty):=fun c i=>match c,i with
 |0,1=>some (17,.bool)
 |0,11=>some (45,.bool)
 |_,_=>none
def args:List PSh:=[.c (.str)]
def ta:List Ty:=[.str]
def res:List (Bool×List CSh):=[(false,[.bool])]
def tr:List Ty:=[.bool]
def E0 (N:Nat):SEnv:=SEnv.base tab cuts ccut bcut unr ety
theorem ok0 (N:Nat):EnvOK tab (E0 N):=base_ok tab cuts ccut bcut unr ety
def T0_6:Tmpl:=⟨[(19,.c (.sl (.int .u8) .d)),(20,.c (.int .i64)),(21,.c (.int .i64))],[],[],1,[],0,[(.sl (.int .u8)),.int .i64,.int .i64]⟩
def O0_6:Outs:=[(.ret,⟨[(2,.c (.bool))],[],[],1,[],0,[.bool]⟩),(.exit 0,⟨[],[],[],1,[],0,[]⟩)]
def L0_6 (N:Nat) (k:Nat) (x:List Int×Int×Int):Option (Bool⊕Unit):=loopF (loopStep (E0 N) fuelW 0 6 (bodyAt t61 6) T0_6 O0_6) k x
theorem L0_6_succ (N:Nat) (k:Nat) (v2:List Int) (v3:Int) (v4:Int):L0_6 N (k+1) (v2,v3,v4) =
 (bif (decide (v4<v3))
 then ((idx v2 v4).bind fun x5=>
 (Option.bind ((bif (decide ((ior .u8 x5 (32:Int))<(97:Int)))
 then (bif (decide (x5<(48:Int)))
 then some true
 else some (decide (x5>(57:Int))))
 else (bif (decide ((ior .u8 x5 (32:Int))>(122:Int)))
 then (bif (decide (x5<(48:Int)))
 then some true
 else some (decide (x5>(57:Int))))
 else (bif ((iand .u8 x5 (64:Int))==(0:Int))
 then (bif (decide (x5<(48:Int)))
 then some true
 else some (decide (x5>(57:Int))))
 else some false)))) fun b6=>
 (bif b6
 then some (Sum.inl false)
 else L0_6 N k (v2,v3,(wi64 (v4+(1:Int)))))))
 else some (Sum.inr ())):=by kernel_rfl
def E1 (N:Nat):SEnv:=(E0 N).addLoop N 0 6 T0_6 O0_6
theorem ok1 (N:Nat):EnvOK tab (E1 N):=(ok0 N).addLoop N 0 6 T0_6 O0_6
end f61
def F61 (N:Nat) (x:List UInt8):Option Bool:=fnRun (f61.E1 N) fuelW 61 f61.args f61.ta f61.res f61.tr 0 x
open f61 in
theorem F61_eq (N:Nat) (p0:List UInt8):F61 N p0 =
 (Option.bind ((bif ((p0.length:Int)==(0:Int))
 then some true
 else (bif (decide ((p0.length:Int)>(16:Int)))
 then some true
 else ((idx p0 (0:Int)).bind fun c0=>
 some (decide ((c0.toNat:Int)≤(57:Int))))))) fun b1=>
 (bif b1
 then some false
 else ((L0_6 N N ((bytesL p0),((bytesL p0).length:Int),(0:Int))).bind fun y7=>
 (match y7 with
 |.inl a8=>some a8
 |.inr b9=>some true)))):=by kernel_rfl
def c61 (N:Nat):Sym.Callee:=⟨f61.args,f61.ta,f61.res,f61.tr,0,F61 N⟩
theorem ok61 (N:Nat):CalOK tab 61 (c61 N):=fn_ok (f61.ok1 N) fuelW 61 f61.args f61.ta f61.res f61.tr 0
namespace f58
def bcut:Nat→Nat→Option (Nat×Ty):=fun c i=>match c,i with
 |0,8=>some (16,.bool)
 |0,6=>some (16,.bool)
 |0,13=>some (29,.bool)
 |_,_=>none
def args:List PSh:=[.c (.sl TGType .bor),.c (.int .i64)]
def ta:List Ty:=[.sl TGType,.int .i64]
def res:List (Bool×List CSh):=[(false,[.bool])]
def tr:List Ty:=[.bool]
def E0 (N:Nat):SEnv:=(((SEnv.base tab cuts ccut bcut unr ety).addCal 90 (c90 N)).addCal 89 (c89 N)).addCal 61 (c61 N)
theorem ok0 (N:Nat):EnvOK tab (E0 N):=(((base_ok tab cuts ccut bcut unr ety).addCal (ok90 N)).addCal (ok89 N)).addCal (ok61 N)
def T0_25:Tmpl:=⟨[(1,.c (.int .i64)),(5,.c (.ptr 0 5 0 0 0)),(6,.clo 89 []),(7,.c (.mp 0 70 1)),(72,.c (.sl TField .d)),(73,.c (.int .i64)),(74,.c (.int .i64))],[],[(0,5,.box 0 [.int .u8,.int .i64,.int .i64,.sl TField .d]),(0,70,.set 1)],1,[],2,[.int .i64,.sl TField,.int .i64,.int .i64,.int .u8,.int .i64,.int .i64,.sl TField,.sl .str]⟩
def O0_25:Outs:=[(.ret,⟨[(4,.c (.bool))],[],[],1,[],0,[.bool]⟩),(.exit 1,⟨[(5,.c (.ptr 0 5 0 0 0))],[],[(0,5,.box 0 [.int .u8,.int .i64,.int .i64,.sl TField .d])],1,[],1,[.int .u8,.int .i64,.int .i64,.sl TField]⟩)]
def L0_25 (N:Nat) (k:Nat) (x:Int×List Field×Int×Int×Int×Int×Int×List Field×List (List UInt8)):Option (Bool⊕(Int×Int×Int×List Field)):=loopF (loopStep (E0 N) fuelW 0 25 (bodyAt t58 25) T0_25 O0_25) k x
theorem L0_25_succ (N:Nat) (k:Nat) (v10:Int) (v11:List Field) (v12:Int) (v13:Int) (v14:Int) (v15:Int) (v16:Int) (v17:List Field) (v18:List (List UInt8)):L0_25 N (k+1) (v10,v11,v12,v13,v14,v15,v16,v17,v18) =
 (bif (decide (v13<v12))
 then ((idx v11 v13).bind fun x19=>
 ((F61 N x19.1).bind fun y20=>
 (bif (!y20)
 then some (Sum.inl false)
 else (bif (hasB v18 x19.1)
 then some (Sum.inl false)
 else ((F89 N (x19.2,v10)).bind fun y21=>
 (bif (!y21)
 then some (Sum.inl false)
 else L0_25 N k (v10,v11,v12,(wi64 (v13+(1:Int))),v14,v15,v16,v17,(addB v18 x19.1))))))))
 else some (Sum.inr (v14,v15,v16,v17))):=by kernel_rfl
def E1 (N:Nat):SEnv:=(E0 N).addLoop N 0 25 T0_25 O0_25
theorem ok1 (N:Nat):EnvOK tab (E1 N):=(ok0 N).addLoop N 0 25 T0_25 O0_25
end f58
def F58 (N:Nat) (x:List GType×Int):Option Bool:=fnRun (f58.E1 N) fuelW 58 f58.args f58.ta f58.res f58.tr 0 x
open f58 in
theorem F58_eq (N:Nat) (p0:List GType) (p1:Int):F58 N (p0,p1) =
 ((idx p0 p1).bind fun x0=>
 (Option.bind ((bif (x0.1==(1:Int))
 then some true
 else (Option.bind ((bif (x0.1==(2:Int))
 then some true
 else some (x0.1==(3:Int)))) fun b1=>
 some b1))) fun b2=>
 (bif b2
 then ((F90 N [x0.2.1,x0.2.2.1,(x0.2.2.2.length:Int)]).bind fun y3=>
 some y3)
 else (Option.bind ((bif (x0.1==(4:Int))
 then some true
 else some (x0.1==(7:Int)))) fun b4=>
 (bif b4
 then ((F89 N (x0.2.1,(p0.length:Int))).bind fun y5=>
 (bif y5
 then ((F90 N [x0.2.2.1,(x0.2.2.2.length:Int)]).bind fun y6=>
 some y6)
 else some false))
 else (bif (x0.1==(6:Int))
 then ((F89 N (x0.2.1,p1)).bind fun y7=>
 (bif y7
 then ((F89 N ((wi64 (x0.2.2.1-(1:Int))),(16:Int))).bind fun y8=>
 (bif y8
 then ((F90 N [(x0.2.2.2.length:Int)]).bind fun y9=>
 some y9)
 else some false))
 else some false))
 else (bif (x0.1==(5:Int))
 then ((L0_25 N N (p1,x0.2.2.2,(x0.2.2.2.length:Int),(0:Int),x0.1,x0.2.1,x0.2.2.1,x0.2.2.2,([]:List (List UInt8)))).bind fun y22=>
 (match y22 with
 |.inl a23=>some a23
 |.inr b24=>((F90 N [b24.2.1,b24.2.2.1]).bind fun y25=>
 (bif y25
 then (bif (decide ((b24.2.2.2.length:Int)>(0:Int)))
 then some (decide ((b24.2.2.2.length:Int)≤(8:Int)))
 else some false)
 else some false))))
 else some false))))))):=by kernel_rfl
def c58 (N:Nat):Sym.Callee:=⟨f58.args,f58.ta,f58.res,f58.tr,0,F58 N⟩
theorem ok58 (N:Nat):CalOK tab 58 (c58 N):=fn_ok (f58.ok1 N) fuelW 58 f58.args f58.ta f58.res f58.tr 0
namespace f59
def bcut:Nat→Nat→Option (Nat×Ty):=fun c i=>match c,i with
 |0,26=>some (7,(.int .i64))
 |0,23=>some (7,(.int .i64))
 |0,20=>some (7,(.int .i64))
 |_,_=>none
def ety:Nat→Nat→Option Ty:=fun c d=>match c,d with
 |0,12=>some (.int .i64)
 |0,17=>some (.int .i64)
 |_,_=>none
def args:List PSh:=[.c (.sl TGType .bor)]
def ta:List Ty:=[.sl TGType]
def res:List (Bool×List CSh):=[(false,[.sl (.int .i64) .d])]
def tr:List Ty:=[(.sl (.int .i64))]
def E0 (N:Nat):SEnv:=SEnv.base tab cuts ccut bcut unr ety
theorem ok0 (N:Nat):EnvOK tab (E0 N):=base_ok tab cuts ccut bcut unr ety
def T0_30:Tmpl:=⟨[(0,.c (.sl TGType .bor)),(3,.c (.ref 0 3 0 (.int .i64))),(4,.c (.ref 0 17 1 (.int .i64))),(5,.c (.int .i64)),(7,.c (.int .i64)),(13,.c (.int .i64)),(18,.c (.sl TGType .bor)),(19,.c (.int .i64)),(20,.c (.int .i64)),(59,.c (.sl TField .d)),(60,.c (.int .i64)),(61,.c (.int .i64))],[],[(0,3,.row 0 (.int .i64)),(0,17,.row 1 (.int .i64))],1,[],2,[.sl TGType,.int .i64,.int .i64,.int .i64,.sl TGType,.int .i64,.int .i64,.sl TField,.int .i64,.int .i64,(.sl (.int .i64)),(.sl (.int .i64))]⟩
def O0_30:Outs:=[(.exit 5,⟨[(0,.c (.sl TGType .bor)),(3,.c (.ref 0 3 0 (.int .i64))),(4,.c (.ref 0 17 1 (.int .i64))),(5,.c (.int .i64)),(7,.c (.int .i64)),(13,.c (.int .i64)),(18,.c (.sl TGType .bor)),(19,.c (.int .i64)),(20,.c (.int .i64))],[],[(0,3,.row 0 (.int .i64)),(0,17,.row 1 (.int .i64))],1,[],2,[.sl TGType,.int .i64,.int .i64,.int .i64,.sl TGType,.int .i64,.int .i64,(.sl (.int .i64)),(.sl (.int .i64))]⟩)]
def L0_30 (N:Nat) (k:Nat) (x:List GType×Int×Int×Int×List GType×Int×Int×List Field×Int×Int×List Int×List Int):Option ((List GType×Int×Int×Int×List GType×Int×Int×List Int×List Int)):=loopF (loopStep (E0 N) fuelW 0 30 (bodyAt t59 30) T0_30 O0_30) k x
theorem L0_30_succ (N:Nat) (k:Nat) (v17:List GType) (v18:Int) (v19:Int) (v20:Int) (v21:List GType) (v22:Int) (v23:Int) (v24:List Field) (v25:Int) (v26:Int) (v27:List Int) (v28:List Int):L0_30 N (k+1) (v17,v18,v19,v20,v21,v22,v23,v24,v25,v26,v27,v28) =
 (bif (decide (v26<v25))
 then ((idx v24 v26).bind fun x29=>
 (chk (inR x29.2 v28.length)
 ((Option.bind (v28[(Int.toNat x29.2)]?) fun x30=>
 L0_30 N k (v17,v18,(wi64 (v19+x30)),v20,v21,v22,v23,v24,v25,(wi64 (v26+(1:Int))),v27,v28)))))
 else some (v17,v18,v19,v20,v21,v22,v23,v27,v28)):=by kernel_rfl
def E1 (N:Nat):SEnv:=(E0 N).addLoop N 0 30 T0_30 O0_30
theorem ok1 (N:Nat):EnvOK tab (E1 N):=(ok0 N).addLoop N 0 30 T0_30 O0_30
def T0_11:Tmpl:=⟨[(0,.c (.sl TGType .bor)),(3,.c (.ref 0 3 0 (.int .i64))),(4,.c (.ref 0 17 1 (.int .i64))),(13,.c (.int .i64)),(18,.c (.sl TGType .bor)),(19,.c (.int .i64)),(20,.c (.int .i64))],[],[(0,3,.row 0 (.int .i64)),(0,17,.row 1 (.int .i64))],1,[],2,[.sl TGType,.int .i64,.sl TGType,.int .i64,.int .i64,(.sl (.int .i64)),(.sl (.int .i64))]⟩
def O0_11:Outs:=[(.exit 2,⟨[(0,.c (.sl TGType .bor)),(4,.c (.ref 0 17 0 (.int .i64))),(13,.c (.int .i64))],[],[(0,17,.row 0 (.int .i64))],1,[],1,[.sl TGType,.int .i64,(.sl (.int .i64))]⟩)]
def L0_11 (N:Nat) (k:Nat) (x:List GType×Int×List GType×Int×Int×List Int×List Int):Option ((List GType×Int×List Int)):=loopF (loopStep (E1 N) fuelW 0 11 (bodyAt t59 11) T0_11 O0_11) k x
theorem L0_11_succ (N:Nat) (k:Nat) (v3:List GType) (v4:Int) (v5:List GType) (v6:Int) (v7:Int) (v8:List Int) (v9:List Int):L0_11 N (k+1) (v3,v4,v5,v6,v7,v8,v9) =
 (bif (decide (v7<v6))
 then ((idx v5 v7).bind fun x10=>
 (Option.bind ((bif (x10.1==(4:Int))
 then (chk (inR x10.2.1 v8.length)
 ((Option.bind (v8[(Int.toNat x10.2.1)]?) fun x11=>
 some (wi64 ((1:Int)+x11)))))
 else (Option.bind ((bif (x10.1==(7:Int))
 then (chk (inR x10.2.1 v8.length)
 ((Option.bind (v8[(Int.toNat x10.2.1)]?) fun x12=>
 some (wi64 ((1:Int)+(wi64 ((16:Int)*x12)))))))
 else (Option.bind ((bif (x10.1==(6:Int))
 then (chk (inR x10.2.1 v9.length)
 ((Option.bind (v9[(Int.toNat x10.2.1)]?) fun x13=>
 some (wi64 ((1:Int)+(wi64 (x10.2.2.1*x13)))))))
 else some (1:Int))) fun b14=>
 some b14))) fun b15=>
 some b15))) fun b16=>
 ((L0_30 N N (v3,v7,b16,v4,v5,v6,v7,x10.2.2.2,(x10.2.2.2.length:Int),(0:Int),v8,v9)).bind fun y31=>
 (chk (inR y31.2.1 y31.2.2.2.2.2.2.2.2.length)
 ((Option.bind (y31.2.2.2.2.2.2.2.2[(Int.toNat y31.2.1)]?) fun x32=>
 L0_11 N k (y31.1,y31.2.2.2.1,y31.2.2.2.2.1,y31.2.2.2.2.2.1,(wi64 (y31.2.2.2.2.2.2.1+(1:Int))),y31.2.2.2.2.2.2.2.1,(y31.2.2.2.2.2.2.2.2.set (Int.toNat y31.2.1) (min y31.2.2.1 (5001:Int))))))))))
 else some (v3,v4,v9)):=by kernel_rfl
def E2 (N:Nat):SEnv:=(E1 N).addLoop N 0 11 T0_11 O0_11
theorem ok2 (N:Nat):EnvOK tab (E2 N):=(ok1 N).addLoop N 0 11 T0_11 O0_11
def T0_4:Tmpl:=⟨[(0,.c (.sl TGType .bor)),(3,.c (.ref 0 3 0 (.int .i64))),(13,.c (.int .i64))],[],[(0,3,.row 0 (.int .i64))],1,[],1,[.sl TGType,.int .i64,(.sl (.int .i64))]⟩
def O0_4:Outs:=[(.exit 0,⟨[(3,.c (.ref 0 3 0 (.int .i64)))],[],[(0,3,.row 0 (.int .i64))],1,[],1,[(.sl (.int .i64))]⟩)]
def L0_4 (N:Nat) (k:Nat) (x:List GType×Int×List Int):Option ((List Int)):=loopF (loopStep (E2 N) fuelW 0 4 (bodyAt t59 4) T0_4 O0_4) k x
theorem L0_4_succ (N:Nat) (k:Nat) (v0:List GType) (v1:Int) (v2:List Int):L0_4 N (k+1) (v0,v1,v2) =
 (bif (decide (v1<(4:Int)))
 then (chk (decide (0≤(v0.length:Int)))
 ((chk (decide (0≤(v0.length:Int)))
 ((chk (decide ((Int.toNat (v0.length:Int))≤(Int.toNat (v0.length:Int)))&&room (Int.toNat (v0.length:Int)) 8)
 (((L0_11 N N (v0,v1,v0,(v0.length:Int),(0:Int),v2,(List.replicate (Int.toNat (v0.length:Int)) (0:Int)))).bind fun y33=>
 L0_4 N k (y33.1,(wi64 (y33.2.1+(1:Int))),y33.2.2))))))))
 else some v2):=by kernel_rfl
def E3 (N:Nat):SEnv:=(E2 N).addLoop N 0 4 T0_4 O0_4
theorem ok3 (N:Nat):EnvOK tab (E3 N):=(ok2 N).addLoop N 0 4 T0_4 O0_4
end f59
def F59 (N:Nat) (x:List GType):Option (List Int):=fnRun (f59.E3 N) fuelW 59 f59.args f59.ta f59.res f59.tr 0 x
open f59 in
theorem F59_eq (N:Nat) (p0:List GType):F59 N p0 =
 (chk (decide (0≤(p0.length:Int)))
 ((chk (decide (0≤(p0.length:Int)))
 ((chk (decide ((Int.toNat (p0.length:Int))≤(Int.toNat (p0.length:Int)))&&room (Int.toNat (p0.length:Int)) 8)
 (((L0_4 N N (p0,(0:Int),(List.replicate (Int.toNat (p0.length:Int)) (0:Int)))).bind fun y34=>
 some y34))))))):=by kernel_rfl
def c59 (N:Nat):Sym.Callee:=⟨f59.args,f59.ta,f59.res,f59.tr,0,F59 N⟩
theorem ok59 (N:Nat):CalOK tab 59 (c59 N):=fn_ok (f59.ok3 N) fuelW 59 f59.args f59.ta f59.res f59.tr 0
namespace f27
def args:List PSh:=[.c (.sl TGType .bor)]
def ta:List Ty:=[.sl TGType]
def res:List (Bool×List CSh):=[(false,[.int .i64])]
def tr:List Ty:=[.int .i64]
def E0 (N:Nat):SEnv:=((SEnv.base tab cuts ccut bcut unr ety).addCal 58 (c58 N)).addCal 59 (c59 N)
theorem ok0 (N:Nat):EnvOK tab (E0 N):=((base_ok tab cuts ccut bcut unr ety).addCal (ok58 N)).addCal (ok59 N)
def T0_6:Tmpl:=⟨[(0,.c (.sl TGType .bor)),(10,.c (.int .i64)),(11,.c (.int .i64))],[],[],1,[],0,[.sl TGType,.int .i64,.int .i64]⟩
def O0_6:Outs:=[(.ret,⟨[(2,.c (.int .i64))],[],[],1,[],0,[.int .i64]⟩),(.exit 0,⟨[(0,.c (.sl TGType .bor))],[],[],1,[],0,[.sl TGType]⟩)]
def L0_6 (N:Nat) (k:Nat) (x:List GType×Int×Int):Option (Int⊕(List GType)):=loopF (loopStep (E0 N) fuelW 0 6 (bodyAt t27 6) T0_6 O0_6) k x
theorem L0_6_succ (N:Nat) (k:Nat) (v0:List GType) (v1:Int) (v2:Int):L0_6 N (k+1) (v0,v1,v2) =
 (bif (decide (v2<v1))
 then ((F58 N (v0,v2)).bind fun y3=>
 (bif (!y3)
 then some (Sum.inl (8:Int))
 else L0_6 N k (v0,v1,(wi64 (v2+(1:Int))))))
 else some (Sum.inr v0)):=by kernel_rfl
def E1 (N:Nat):SEnv:=(E0 N).addLoop N 0 6 T0_6 O0_6
theorem ok1 (N:Nat):EnvOK tab (E1 N):=(ok0 N).addLoop N 0 6 T0_6 O0_6
def T0_17:Tmpl:=⟨[(20,.c (.sl (.int .i64) .d)),(21,.c (.int .i64)),(22,.c (.int .i64))],[],[],1,[],0,[(.sl (.int .i64)),.int .i64,.int .i64]⟩
def O0_17:Outs:=[(.ret,⟨[(2,.c (.int .i64))],[],[],1,[],0,[.int .i64]⟩),(.exit 2,⟨[],[],[],1,[],0,[]⟩)]
def L0_17 (N:Nat) (k:Nat) (x:List Int×Int×Int):Option (Int⊕Unit):=loopF (loopStep (E1 N) fuelW 0 17 (bodyAt t27 17) T0_17 O0_17) k x
theorem L0_17_succ (N:Nat) (k:Nat) (v8:List Int) (v9:Int) (v10:Int):L0_17 N (k+1) (v8,v9,v10) =
 (bif (decide (v10<v9))
 then ((idx v8 v10).bind fun x11=>
 (bif (decide (x11>(5000:Int)))
 then some (Sum.inl (8:Int))
 else L0_17 N k (v8,v9,(wi64 (v10+(1:Int))))))
 else some (Sum.inr ())):=by kernel_rfl
def E2 (N:Nat):SEnv:=(E1 N).addLoop N 0 17 T0_17 O0_17
theorem ok2 (N:Nat):EnvOK tab (E2 N):=(ok1 N).addLoop N 0 17 T0_17 O0_17
end f27
def F27 (N:Nat) (x:List GType):Option Int:=fnRun (f27.E2 N) fuelW 27 f27.args f27.ta f27.res f27.tr 0 x
open f27 in
theorem F27_eq (N:Nat) (p0:List GType):F27 N p0 =
 (bif (decide ((p0.length:Int)>(32:Int)))
 then some (8:Int)
 else ((L0_6 N N (p0,(p0.length:Int),(0:Int))).bind fun y4=>
 (match y4 with
 |.inl a5=>some a5
 |.inr b6=>((F59 N b6).bind fun y7=>
 ((L0_17 N N (y7,(y7.length:Int),(0:Int))).bind fun y12=>
 (match y12 with
 |.inl a13=>some a13
 |.inr b14=>some (0:Int))))))):=by kernel_rfl
def c27 (N:Nat):Sym.Callee:=⟨f27.args,f27.ta,f27.res,f27.tr,0,F27 N⟩
theorem ok27 (N:Nat):CalOK tab 27 (c27 N):=fn_ok (f27.ok2 N) fuelW 27 f27.args f27.ta f27.res f27.tr 0
namespace f102
def ety:Nat→Nat→Option Ty:=fun c d=>match c,d with
 |0,13=>some (.int .i64)
 |_,_=>none
def args:List PSh:=[.c (.sl Textent .bor),.c (.sl TField .bor)]
def ta:List Ty:=[.sl Textent,.sl TField]
def res:List (Bool×List CSh):=[(false,[.sl (.int .i64) .d]),(true,[.int .i64,.int .i64])]
def tr:List Ty:=[(.sl (.int .i64)),.int .i64,.int .i64]
def E0 (N:Nat):SEnv:=SEnv.base tab cuts ccut bcut unr ety
theorem ok0 (N:Nat):EnvOK tab (E0 N):=base_ok tab cuts ccut bcut unr ety
def T0_4:Tmpl:=⟨[(0,.c (.sl Textent .bor)),(5,.c (.ptr 0 5 0 0 0)),(6,.c (.ref 0 13 1 (.int .i64))),(7,.c (.ptr 0 7 2 0 0)),(15,.c (.sl TField .bor)),(16,.c (.int .i64)),(17,.c (.int .i64))],[],[(0,5,.box 0 [.int .i64,.int .i64]),(0,13,.row 1 (.int .i64)),(0,7,.box 2 [.int .i64,.int .i64])],1,[],3,[.sl Textent,.sl TField,.int .i64,.int .i64,.int .i64,.int .i64,(.sl (.int .i64)),.int .i64,.int .i64]⟩
def O0_4:Outs:=[(.exit 0,⟨[(5,.c (.ptr 0 5 0 0 0)),(6,.c (.ref 0 13 1 (.int .i64))),(7,.c (.ptr 0 7 2 0 0))],[],[(0,5,.box 0 [.int .i64,.int .i64]),(0,13,.row 1 (.int .i64)),(0,7,.box 2 [.int .i64,.int .i64])],1,[],3,[.int .i64,.int .i64,(.sl (.int .i64)),.int .i64,.int .i64]⟩)]
def L0_4 (N:Nat) (k:Nat) (x:List extent×List Field×Int×Int×Int×Int×List Int×Int×Int):Option ((Int×Int×List Int×Int×Int)):=loopF (loopStep (E0 N) fuelW 0 4 (bodyAt t102 4) T0_4 O0_4) k x
theorem L0_4_succ (N:Nat) (k:Nat) (v0:List extent) (v1:List Field) (v2:Int) (v3:Int) (v4:Int) (v5:Int) (v6:List Int) (v7:Int) (v8:Int):L0_4 N (k+1) (v0,v1,v2,v3,v4,v5,v6,v7,v8) =
 (bif (decide (v3<v2))
 then ((idx v1 v3).bind fun x9=>
 ((idx v0 x9.2).bind fun x10=>
 (chk (inR v3 v6.length)
 ((Option.bind (v6[(Int.toNat v3)]?) fun x11=>
 (chk (inR v3 (v6.set (Int.toNat v3) (iandnot .i64 (wi64 ((wi64 (v7+x10.2))-(1:Int))) (wi64 (x10.2-(1:Int))))).length)
 ((Option.bind ((v6.set (Int.toNat v3) (iandnot .i64 (wi64 ((wi64 (v7+x10.2))-(1:Int))) (wi64 (x10.2-(1:Int)))))[(Int.toNat v3)]?) fun x12=>
 L0_4 N k (v0,v1,v2,(wi64 (v3+(1:Int))),v4,v5,(v6.set (Int.toNat v3) (iandnot .i64 (wi64 ((wi64 (v7+x10.2))-(1:Int))) (wi64 (x10.2-(1:Int))))),(min (1048576:Int) (wi64 (x12+x10.1))),(max v8 x10.2))))))))))
 else some (v4,v5,v6,v7,v8)):=by kernel_rfl
def E1 (N:Nat):SEnv:=(E0 N).addLoop N 0 4 T0_4 O0_4
theorem ok1 (N:Nat):EnvOK tab (E1 N):=(ok0 N).addLoop N 0 4 T0_4 O0_4
end f102
def F102 (N:Nat) (x:List extent×List Field):Option (List Int×Int×Int):=fnRun (f102.E1 N) fuelW 102 f102.args f102.ta f102.res f102.tr 0 x
open f102 in
theorem F102_eq (N:Nat) (p0:List extent) (p1:List Field):F102 N (p0,p1) =
 (chk (decide (0≤(p1.length:Int)))
 ((chk (decide (0≤(p1.length:Int)))
 ((chk (decide ((Int.toNat (p1.length:Int))≤(Int.toNat (p1.length:Int)))&&room (Int.toNat (p1.length:Int)) 8)
 (((L0_4 N N (p0,p1,(p1.length:Int),(0:Int),(0:Int),(0:Int),(List.replicate (Int.toNat (p1.length:Int)) (0:Int)),(0:Int),(1:Int))).bind fun y13=>
 some (y13.2.2.1,(iandnot .i64 (wi64 ((wi64 (y13.2.2.2.1+y13.2.2.2.2))-(1:Int))) (wi64 (y13.2.2.2.2-(1:Int)))),y13.2.2.2.2)))))))):=by kernel_rfl
def c102 (N:Nat):Sym.Callee:=⟨f102.args,f102.ta,f102.res,f102.tr,0,F102 N⟩
theorem ok102 (N:Nat):CalOK tab 102 (c102 N):=fn_ok (f102.ok1 N) fuelW 102 f102.args f102.ta f102.res f102.tr 0
namespace f91
def bcut:Nat→Nat→Option (Nat×Ty):=fun c i=>match c,i with
 |0,15=>some (25,.bool)
 |_,_=>none
def ety:Nat→Nat→Option Ty:=fun c d=>match c,d with
 |0,9=>some Textent
 |_,_=>none
def args:List PSh:=[.c (.sl TGType .bor)]
def ta:List Ty:=[.sl TGType]
def res:List (Bool×List CSh):=[(false,[.sl Textent .d])]
def tr:List Ty:=[.sl Textent]
def E0 (N:Nat):SEnv:=(SEnv.base tab cuts ccut bcut unr ety).addCal 102 (c102 N)
theorem ok0 (N:Nat):EnvOK tab (E0 N):=(base_ok tab cuts ccut bcut unr ety).addCal (ok102 N)
def T0_4:Tmpl:=⟨[(3,.c (.ref 0 9 0 Textent)),(10,.c (.sl TGType .bor)),(11,.c (.int .i64)),(12,.c (.int .i64))],[],[(0,9,.row 0 Textent)],1,[],1,[.sl TGType,.int .i64,.int .i64,.sl Textent]⟩
def O0_4:Outs:=[(.exit 0,⟨[(3,.c (.ref 0 9 0 Textent))],[],[(0,9,.row 0 Textent)],1,[],1,[.sl Textent]⟩)]
def L0_4 (N:Nat) (k:Nat) (x:List GType×Int×Int×List extent):Option ((List extent)):=loopF (loopStep (E0 N) fuelW 0 4 (bodyAt t91 4) T0_4 O0_4) k x
theorem L0_4_succ (N:Nat) (k:Nat) (v0:List GType) (v1:Int) (v2:Int) (v3:List extent):L0_4 N (k+1) (v0,v1,v2,v3) =
 (bif (decide (v2<v1))
 then ((idx v0 v2).bind fun x4=>
 (bif (x4.1==(1:Int))
 then (chk (inR v2 v3.length)
 ((Option.bind (v3[(Int.toNat v2)]?) fun x5=>
 L0_4 N k (v0,v1,(wi64 (v2+(1:Int))),(v3.set (Int.toNat v2) ((1:Int),(1:Int)))))))
 else (Option.bind ((bif (x4.1==(2:Int))
 then some true
 else some (x4.1==(4:Int)))) fun b6=>
 (bif b6
 then (chk (inR v2 v3.length)
 ((Option.bind (v3[(Int.toNat v2)]?) fun x7=>
 L0_4 N k (v0,v1,(wi64 (v2+(1:Int))),(v3.set (Int.toNat v2) ((8:Int),(8:Int)))))))
 else (bif (x4.1==(3:Int))
 then (chk (inR v2 v3.length)
 ((Option.bind (v3[(Int.toNat v2)]?) fun x8=>
 L0_4 N k (v0,v1,(wi64 (v2+(1:Int))),(v3.set (Int.toNat v2) ((16:Int),(8:Int)))))))
 else (bif (x4.1==(7:Int))
 then (chk (inR v2 v3.length)
 ((Option.bind (v3[(Int.toNat v2)]?) fun x9=>
 L0_4 N k (v0,v1,(wi64 (v2+(1:Int))),(v3.set (Int.toNat v2) ((24:Int),(8:Int)))))))
 else (bif (x4.1==(6:Int))
 then (chk (inR x4.2.1 v3.length)
 ((Option.bind (v3[(Int.toNat x4.2.1)]?) fun x10=>
 (chk (inR v2 v3.length)
 ((Option.bind (v3[(Int.toNat v2)]?) fun x11=>
 L0_4 N k (v0,v1,(wi64 (v2+(1:Int))),(v3.set (Int.toNat v2) ((min (1048576:Int) (wi64 (x4.2.2.1*x10.1))),x10.2)))))))))
 else (bif (x4.1==(5:Int))
 then ((F102 N (v3,x4.2.2.2)).bind fun y12=>
 (chk (inR v2 v3.length)
 ((Option.bind (v3[(Int.toNat v2)]?) fun x13=>
 L0_4 N k (v0,v1,(wi64 (v2+(1:Int))),(v3.set (Int.toNat v2) y12.2))))))
 else L0_4 N k (v0,v1,(wi64 (v2+(1:Int))),v3)))))))))
 else some v3):=by kernel_rfl
def E1 (N:Nat):SEnv:=(E0 N).addLoop N 0 4 T0_4 O0_4
theorem ok1 (N:Nat):EnvOK tab (E1 N):=(ok0 N).addLoop N 0 4 T0_4 O0_4
end f91
def F91 (N:Nat) (x:List GType):Option (List extent):=fnRun (f91.E1 N) fuelW 91 f91.args f91.ta f91.res f91.tr 0 x
open f91 in
theorem F91_eq (N:Nat) (p0:List GType):F91 N p0 =
 (chk (decide (0≤(p0.length:Int)))
 ((chk (decide (0≤(p0.length:Int)))
 ((chk (decide ((Int.toNat (p0.length:Int))≤(Int.toNat (p0.length:Int)))&&room (Int.toNat (p0.length:Int)) 16)
 (((L0_4 N N (p0,(p0.length:Int),(0:Int),(List.replicate (Int.toNat (p0.length:Int)) ((0:Int),(0:Int))))).bind fun y14=>
 some y14))))))):=by kernel_rfl
def c91 (N:Nat):Sym.Callee:=⟨f91.args,f91.ta,f91.res,f91.tr,0,F91 N⟩
theorem ok91 (N:Nat):CalOK tab 91 (c91 N):=fn_ok (f91.ok1 N) fuelW 91 f91.args f91.ta f91.res f91.tr 0
namespace f60
def bcut:Nat→Nat→Option (Nat×Ty):=fun c i=>match c,i with
 |0,5=>some (20,.bool)
 |_,_=>none
def args:List PSh:=[.c (.sl TGType .bor),.c (.int .i64)]
def ta:List Ty:=[.sl TGType,.int .i64]
def res:List (Bool×List CSh):=[(false,[.sl Textent .d]),(false,[.int .i64])]
def tr:List Ty:=[.sl Textent,.int .i64]
def E0 (N:Nat):SEnv:=((SEnv.base tab cuts ccut bcut unr ety).addCal 27 (c27 N)).addCal 91 (c91 N)
theorem ok0 (N:Nat):EnvOK tab (E0 N):=((base_ok tab cuts ccut bcut unr ety).addCal (ok27 N)).addCal (ok91 N)
end f60
def F60 (N:Nat) (x:List GType×Int):Option (List extent×Int):=fnRun (f60.E0 N) fuelW 60 f60.args f60.ta f60.res f60.tr 0 x
open f60 in
theorem F60_eq (N:Nat) (p0:List GType) (p1:Int):F60 N (p0,p1) =
 ((F27 N p0).bind fun y0=>
 (bif (y0 != (0:Int))
 then some ([],y0)
 else (Option.bind ((bif (decide (p1<(0:Int)))
 then some true
 else some (decide (p1≥(p0.length:Int))))) fun b1=>
 (bif b1
 then some ([],(2:Int))
 else ((F91 N p0).bind fun y2=>
 ((idx y2 p1).bind fun x3=>
 (bif (decide (x3.1>(256:Int)))
 then some ([],(16:Int))
 else some (y2,(0:Int))))))))):=by kernel_rfl
def c60 (N:Nat):Sym.Callee:=⟨f60.args,f60.ta,f60.res,f60.tr,0,F60 N⟩
theorem ok60 (N:Nat):CalOK tab 60 (c60 N):=fn_ok (f60.ok0 N) fuelW 60 f60.args f60.ta f60.res f60.tr 0
namespace f28
def args:List PSh:=[.c (.sl TGType .bor),.c (.int .i64)]
def ta:List Ty:=[.sl TGType,.int .i64]
def res:List (Bool×List CSh):=[(false,[.int .i64]),(false,[.int .i64]),(false,[.int .i64])]
def tr:List Ty:=[.int .i64,.int .i64,.int .i64]
def E0 (N:Nat):SEnv:=(SEnv.base tab cuts ccut bcut unr ety).addCal 60 (c60 N)
theorem ok0 (N:Nat):EnvOK tab (E0 N):=(base_ok tab cuts ccut bcut unr ety).addCal (ok60 N)
end f28
def F28 (N:Nat) (x:List GType×Int):Option (Int×Int×Int):=fnRun (f28.E0 N) fuelW 28 f28.args f28.ta f28.res f28.tr 0 x
open f28 in
theorem F28_eq (N:Nat) (p0:List GType) (p1:Int):F28 N (p0,p1) =
 ((F60 N (p0,p1)).bind fun y0=>
 (bif (y0.2 != (0:Int))
 then some ((0:Int),(0:Int),y0.2)
 else ((idx y0.1 p1).bind fun x1=>
 ((idx y0.1 p1).bind fun x2=>
 some (x1.1,x2.2,(0:Int)))))):=by kernel_rfl
def c28 (N:Nat):Sym.Callee:=⟨f28.args,f28.ta,f28.res,f28.tr,0,F28 N⟩
theorem ok28 (N:Nat):CalOK tab 28 (c28 N):=fn_ok (f28.ok0 N) fuelW 28 f28.args f28.ta f28.res f28.tr 0
namespace f62
def args:List PSh:=[.c (.sl TField .bor)]
def ta:List Ty:=[.sl TField]
def res:List (Bool×List CSh):=[(false,[.bool])]
def tr:List Ty:=[.bool]
def E0 (N:Nat):SEnv:=(SEnv.base tab cuts ccut bcut unr ety).addCal 61 (c61 N)
theorem ok0 (N:Nat):EnvOK tab (E0 N):=(base_ok tab cuts ccut bcut unr ety).addCal (ok61 N)
def T1021001007000_3:Tmpl:=⟨[(0,.c (.sl TField .bor)),(1,.clo 93 [.ptr 0 4 0 0 0]),(7,.c (.int .i64)),(8,.c (.int .i64))],[[],[]],[(0,4,.box 0 [.str,.int .i64])],3,[],1,[.sl TField,.int .i64,.int .i64,.str,.int .i64]⟩
def O1021001007000_3:Outs:=[(.ret,⟨[(4,.c (.int .i64))],[[],[]],[],3,[],0,[.int .i64]⟩),(.exit 0,⟨[],[[],[]],[],3,[],0,[]⟩)]
def L1021001007000_3 (N:Nat) (k:Nat) (x:List Field×Int×Int×List UInt8×Int):Option (Int⊕Unit):=loopF (loopStep (E0 N) fuelW 1021001007000 3 (bodyAt t103 3) T1021001007000_3 O1021001007000_3) k x
theorem L1021001007000_3_succ (N:Nat) (k:Nat) (v6:List Field) (v7:Int) (v8:Int) (v9:List UInt8) (v10:Int):L1021001007000_3 N (k+1) (v6,v7,v8,v9,v10) =
 (bif (decide (v8<v7))
 then ((idx v6 v8).bind fun x11=>
 (bif (x11.1==v9)
 then some (Sum.inl v8)
 else L1021001007000_3 N k (v6,v7,(wi64 (v8+(1:Int))),v9,v10)))
 else some (Sum.inr ())):=by kernel_rfl
def E1 (N:Nat):SEnv:=(E0 N).addLoop N 1021001007000 3 T1021001007000_3 O1021001007000_3
theorem ok1 (N:Nat):EnvOK tab (E1 N):=(ok0 N).addLoop N 1021001007000 3 T1021001007000_3 O1021001007000_3
def T0_3:Tmpl:=⟨[(0,.c (.sl TField .bor)),(5,.c (.sl TField .bor)),(6,.c (.int .i64)),(7,.c (.int .i64))],[],[],1,[],0,[.sl TField,.sl TField,.int .i64,.int .i64]⟩
def O0_3:Outs:=[(.ret,⟨[(2,.c (.bool))],[],[],1,[],0,[.bool]⟩),(.exit 0,⟨[],[],[],1,[],0,[]⟩)]
def L0_3 (N:Nat) (k:Nat) (x:List Field×List Field×Int×Int):Option (Bool⊕Unit):=loopF (loopStep (E1 N) fuelW 0 3 (bodyAt t62 3) T0_3 O0_3) k x
theorem L0_3_succ (N:Nat) (k:Nat) (v0:List Field) (v1:List Field) (v2:Int) (v3:Int):L0_3 N (k+1) (v0,v1,v2,v3) =
 (bif (decide (v3<v2))
 then ((idx v1 v3).bind fun x4=>
 ((F61 N x4.1).bind fun y5=>
 (bif (!y5)
 then some (Sum.inl false)
 else (chk (decide (0≤v3))
 ((chk (decide ((Int.toNat v3)≤v0.length))
 (((L1021001007000_3 N N ((v0.take (Int.toNat v3)),((v0.take (Int.toNat v3)).length:Int),(0:Int),x4.1,x4.2)).bind fun y12=>
 (match y12 with
 |.inl a13=>(bif (decide (a13≥(0:Int)))
 then some (Sum.inl false)
 else L0_3 N k (v0,v1,v2,(wi64 (v3+(1:Int)))))
 |.inr b14=>L0_3 N k (v0,v1,v2,(wi64 (v3+(1:Int)))))))))))))
 else some (Sum.inr ())):=by kernel_rfl
def E2 (N:Nat):SEnv:=(E1 N).addLoop N 0 3 T0_3 O0_3
theorem ok2 (N:Nat):EnvOK tab (E2 N):=(ok1 N).addLoop N 0 3 T0_3 O0_3
end f62
def F62 (N:Nat) (x:List Field):Option Bool:=fnRun (f62.E2 N) fuelW 62 f62.args f62.ta f62.res f62.tr 0 x
open f62 in
theorem F62_eq (N:Nat) (p0:List Field):F62 N p0 =
 ((L0_3 N N (p0,p0,(p0.length:Int),(0:Int))).bind fun y15=>
 (match y15 with
 |.inl a16=>some a16
 |.inr b17=>some true)):=by kernel_rfl
def c62 (N:Nat):Sym.Callee:=⟨f62.args,f62.ta,f62.res,f62.tr,0,F62 N⟩
theorem ok62 (N:Nat):CalOK tab 62 (c62 N):=fn_ok (f62.ok2 N) fuelW 62 f62.args f62.ta f62.res f62.tr 0
namespace f63
def args:List PSh:=[.c (.sl TRun .bor),.c (.int .i64)]
def ta:List Ty:=[.sl TRun,.int .i64]
def res:List (Bool×List CSh):=[(false,[.int .i64])]
def tr:List Ty:=[.int .i64]
def E0 (N:Nat):SEnv:=((SEnv.base tab cuts ccut bcut unr ety).addCal 87 (c87 N)).addCal 88 (c88 N)
theorem ok0 (N:Nat):EnvOK tab (E0 N):=((base_ok tab cuts ccut bcut unr ety).addCal (ok87 N)).addCal (ok88 N)
end f63
def F63 (N:Nat) (x:List Run×Int):Option Int:=fnRun (f63.E0 N) fuelW 63 f63.args f63.ta f63.res f63.tr 0 x
open f63 in
theorem F63_eq (N:Nat) (p0:List Run) (p1:Int):F63 N (p0,p1) =
 ((F87 N p1).bind fun y0=>
 (bif (y0 != (0:Int))
 then some y0
 else ((F88 N (p0,p1)).bind fun y1=>
 (bif (!y1)
 then some (8:Int)
 else some (0:Int))))):=by kernel_rfl
def c63 (N:Nat):Sym.Callee:=⟨f63.args,f63.ta,f63.res,f63.tr,0,F63 N⟩
theorem ok63 (N:Nat):CalOK tab 63 (c63 N):=fn_ok (f63.ok0 N) fuelW 63 f63.args f63.ta f63.res f63.tr 0
namespace f29
def bcut:Nat→Nat→Option (Nat×Ty):=fun c i=>match c,i with
 |0,1=>some (49,.bool)
 |0,11=>some (66,.bool)
 |0,26=>some (4,.bool)
 |_,_=>none
def args:List PSh:=[.c (.sl TGType .bor),.agg [.str,.int .i64,.int .i64,.sl TField .bor,.sl TInstr .bor,.sl TRun .bor,.sl TRun .bor]]
def ta:List Ty:=[.sl TGType,.str,.int .i64,.int .i64,.sl TField,.sl TInstr,.sl TRun,.sl TRun]
def res:List (Bool×List CSh):=[(false,[.bool])]
def tr:List Ty:=[.bool]
def E0 (N:Nat):SEnv:=((((SEnv.base tab cuts ccut bcut unr ety).addCal 61 (c61 N)).addCal 62 (c62 N)).addCal 56 (c56 N)).addCal 63 (c63 N)
theorem ok0 (N:Nat):EnvOK tab (E0 N):=((((base_ok tab cuts ccut bcut unr ety).addCal (ok61 N)).addCal (ok62 N)).addCal (ok56 N)).addCal (ok63 N)
def T0_6:Tmpl:=⟨[(0,.c (.sl TGType .bor)),(3,.c (.ptr 0 3 0 0 0)),(51,.c (.sl TField .bor)),(52,.c (.int .i64)),(53,.c (.int .i64))],[],[(0,3,.box 0 [.str,.int .i64,.int .i64,.sl TField .bor,.sl TInstr .bor,.sl TRun .bor,.sl TRun .bor])],1,[],1,[.sl TGType,.sl TField,.int .i64,.int .i64,.str,.int .i64,.int .i64,.sl TField,.sl TInstr,.sl TRun,.sl TRun]⟩
def O0_6:Outs:=[(.ret,⟨[(4,.c (.bool))],[],[],1,[],0,[.bool]⟩),(.exit 0,⟨[(3,.c (.ptr 0 3 0 0 0))],[],[(0,3,.box 0 [.str,.int .i64,.int .i64,.sl TField .bor,.sl TInstr .bor,.sl TRun .bor,.sl TRun .bor])],1,[],1,[.str,.int .i64,.int .i64,.sl TField,.sl TInstr,.sl TRun,.sl TRun]⟩)]
def L0_6 (N:Nat) (k:Nat) (x:List GType×List Field×Int×Int×List UInt8×Int×Int×List Field×List Instr×List Run×List Run):Option (Bool⊕(List UInt8×Int×Int×List Field×List Instr×List Run×List Run)):=loopF (loopStep (E0 N) fuelW 0 6 (bodyAt t29 6) T0_6 O0_6) k x
theorem L0_6_succ (N:Nat) (k:Nat) (v3:List GType) (v4:List Field) (v5:Int) (v6:Int) (v7:List UInt8) (v8:Int) (v9:Int) (v10:List Field) (v11:List Instr) (v12:List Run) (v13:List Run):L0_6 N (k+1) (v3,v4,v5,v6,v7,v8,v9,v10,v11,v12,v13) =
 (bif (decide (v6<v5))
 then ((idx v4 v6).bind fun x14=>
 (Option.bind ((bif (decide (x14.2<(0:Int)))
 then some true
 else some (decide (x14.2≥(v3.length:Int))))) fun b15=>
 (bif b15
 then some (Sum.inl false)
 else L0_6 N k (v3,v4,v5,(wi64 (v6+(1:Int))),v7,v8,v9,v10,v11,v12,v13))))
 else some (Sum.inr (v7,v8,v9,v10,v11,v12,v13))):=by kernel_rfl
def E1 (N:Nat):SEnv:=(E0 N).addLoop N 0 6 T0_6 O0_6
theorem ok1 (N:Nat):EnvOK tab (E1 N):=(ok0 N).addLoop N 0 6 T0_6 O0_6
def T0_17:Tmpl:=⟨[(3,.c (.ptr 0 3 0 0 0)),(69,.c (.sl TInstr .bor)),(70,.c (.int .i64)),(71,.c (.int .i64))],[],[(0,3,.box 0 [.str,.int .i64,.int .i64,.sl TField .bor,.sl TInstr .bor,.sl TRun .bor,.sl TRun .bor])],1,[],1,[.sl TInstr,.int .i64,.int .i64,.str,.int .i64,.int .i64,.sl TField,.sl TInstr,.sl TRun,.sl TRun]⟩
def O0_17:Outs:=[(.ret,⟨[(4,.c (.bool))],[],[],1,[],0,[.bool]⟩),(.exit 2,⟨[(3,.c (.ptr 0 3 0 0 0))],[],[(0,3,.box 0 [.str,.int .i64,.int .i64,.sl TField .bor,.sl TInstr .bor,.sl TRun .bor,.sl TRun .bor])],1,[],1,[.str,.int .i64,.int .i64,.sl TField,.sl TInstr,.sl TRun,.sl TRun]⟩)]
def L0_17 (N:Nat) (k:Nat) (x:List Instr×Int×Int×List UInt8×Int×Int×List Field×List Instr×List Run×List Run):Option (Bool⊕(List UInt8×Int×Int×List Field×List Instr×List Run×List Run)):=loopF (loopStep (E1 N) fuelW 0 17 (bodyAt t29 17) T0_17 O0_17) k x
theorem L0_17_succ (N:Nat) (k:Nat) (v19:List Instr) (v20:Int) (v21:Int) (v22:List UInt8) (v23:Int) (v24:Int) (v25:List Field) (v26:List Instr) (v27:List Run) (v28:List Run):L0_17 N (k+1) (v19,v20,v21,v22,v23,v24,v25,v26,v27,v28) =
 (bif (decide (v21<v20))
 then ((idx v19 v21).bind fun x29=>
 ((F56 N (x29.1,x29.2.1,x29.2.2.1,x29.2.2.2)).bind fun y30=>
 (bif (y30 != (0:Int))
 then some (Sum.inl false)
 else L0_17 N k (v19,v20,(wi64 (v21+(1:Int))),v22,v23,v24,v25,v26,v27,v28))))
 else some (Sum.inr (v22,v23,v24,v25,v26,v27,v28))):=by kernel_rfl
def E2 (N:Nat):SEnv:=(E1 N).addLoop N 0 17 T0_17 O0_17
theorem ok2 (N:Nat):EnvOK tab (E2 N):=(ok1 N).addLoop N 0 17 T0_17 O0_17
end f29
def F29 (N:Nat) (x:List GType×List UInt8×Int×Int×List Field×List Instr×List Run×List Run):Option Bool:=fnRun (f29.E2 N) fuelW 29 f29.args f29.ta f29.res f29.tr 0 x
open f29 in
theorem F29_eq (N:Nat) (p0:List GType) (p1:List UInt8) (p2:Int) (p3:Int) (p4:List Field) (p5:List Instr) (p6:List Run) (p7:List Run):F29 N (p0,p1,p2,p3,p4,p5,p6,p7) =
 (Option.bind (((F61 N p1).bind fun y0=>
 (bif (!y0)
 then some true
 else (bif (decide ((p4.length:Int)>(16:Int)))
 then some true
 else ((F62 N p4).bind fun y1=>
 (bif (!y1)
 then some true
 else (bif (decide (p2<(0:Int)))
 then some true
 else (bif (decide (p2>(p4.length:Int)))
 then some true
 else (bif (decide (p3<(-1:Int)))
 then some true
 else some (decide (p3≥(p0.length:Int)))))))))))) fun b2=>
 (bif b2
 then some false
 else ((L0_6 N N (p0,p4,(p4.length:Int),(0:Int),p1,p2,p3,p4,p5,p6,p7)).bind fun y16=>
 (match y16 with
 |.inl a17=>some a17
 |.inr b18=>((L0_17 N N (b18.2.2.2.2.1,(b18.2.2.2.2.1.length:Int),(0:Int),b18.1,b18.2.1,b18.2.2.1,b18.2.2.2.1,b18.2.2.2.2.1,b18.2.2.2.2.2.1,b18.2.2.2.2.2.2)).bind fun y31=>
 (match y31 with
 |.inl a32=>some a32
 |.inr b33=>(Option.bind (((F63 N (b33.2.2.2.2.2.1,(b33.2.2.2.2.1.length:Int))).bind fun y34=>
 (bif (y34==(0:Int))
 then ((F63 N (b33.2.2.2.2.2.2,(b33.2.2.2.2.1.length:Int))).bind fun y35=>
 some (y35==(0:Int)))
 else some false))) fun b36=>
 some b36))))))):=by kernel_rfl
def c29 (N:Nat):Sym.Callee:=⟨f29.args,f29.ta,f29.res,f29.tr,0,F29 N⟩
theorem ok29 (N:Nat):CalOK tab 29 (c29 N):=fn_ok (f29.ok2 N) fuelW 29 f29.args f29.ta f29.res f29.tr 0
namespace f11
def bcut:Nat→Nat→Option (Nat×Ty):=fun c i=>match c,i with
 |0,1=>some (33,.bool)
 |_,_=>none
def args:List PSh:=[.agg [.sl TGType .bor,.sl .str .bor,.sl TFunc .bor]]
def ta:List Ty:=[.sl TGType,.sl .str,.sl TFunc]
def res:List (Bool×List CSh):=[(false,[.bool])]
def tr:List Ty:=[.bool]
def E0 (N:Nat):SEnv:=(((SEnv.base tab cuts ccut bcut unr ety).addCal 27 (c27 N)).addCal 28 (c28 N)).addCal 29 (c29 N)
theorem ok0 (N:Nat):EnvOK tab (E0 N):=(((base_ok tab cuts ccut bcut unr ety).addCal (ok27 N)).addCal (ok28 N)).addCal (ok29 N)
def T0_6:Tmpl:=⟨[(1,.c (.ptr 0 1 0 0 0)),(36,.c (.int .i64)),(37,.c (.int .i64))],[],[(0,1,.box 0 [.sl TGType .bor,.sl .str .bor,.sl TFunc .bor])],1,[],1,[.int .i64,.int .i64,.sl TGType,.sl .str,.sl TFunc]⟩
def O0_6:Outs:=[(.ret,⟨[(2,.c (.bool))],[],[],1,[],0,[.bool]⟩),(.exit 0,⟨[(1,.c (.ptr 0 1 0 0 0))],[],[(0,1,.box 0 [.sl TGType .bor,.sl .str .bor,.sl TFunc .bor])],1,[],1,[.sl TGType,.sl .str,.sl TFunc]⟩)]
def L0_6 (N:Nat) (k:Nat) (x:Int×Int×List GType×(List (List UInt8))×List Func):Option (Bool⊕(List GType×(List (List UInt8))×List Func)):=loopF (loopStep (E0 N) fuelW 0 6 (bodyAt t11 6) T0_6 O0_6) k x
theorem L0_6_succ (N:Nat) (k:Nat) (v2:Int) (v3:Int) (v4:List GType) (v5:List (List UInt8)) (v6:List Func):L0_6 N (k+1) (v2,v3,v4,v5,v6) =
 (bif (decide (v3<v2))
 then ((F28 N (v4,v3)).bind fun y7=>
 (bif (y7.2.2 != (0:Int))
 then some (Sum.inl false)
 else L0_6 N k (v2,(wi64 (v3+(1:Int))),v4,v5,v6)))
 else some (Sum.inr (v4,v5,v6))):=by kernel_rfl
def E1 (N:Nat):SEnv:=(E0 N).addLoop N 0 6 T0_6 O0_6
theorem ok1 (N:Nat):EnvOK tab (E1 N):=(ok0 N).addLoop N 0 6 T0_6 O0_6
def T0_18:Tmpl:=⟨[(1,.c (.ptr 0 1 0 0 0)),(52,.c (.sl .str .bor)),(53,.c (.int .i64)),(54,.c (.int .i64))],[],[(0,1,.box 0 [.sl TGType .bor,.sl .str .bor,.sl TFunc .bor])],1,[],1,[.sl .str,.int .i64,.int .i64,.sl TGType,.sl .str,.sl TFunc]⟩
def O0_18:Outs:=[(.ret,⟨[(2,.c (.bool))],[],[],1,[],0,[.bool]⟩),(.exit 2,⟨[(1,.c (.ptr 0 1 0 0 0))],[],[(0,1,.box 0 [.sl TGType .bor,.sl .str .bor,.sl TFunc .bor])],1,[],1,[.sl TGType,.sl .str,.sl TFunc]⟩)]
def L0_18 (N:Nat) (k:Nat) (x:(List (List UInt8))×Int×Int×List GType×(List (List UInt8))×List Func):Option (Bool⊕(List GType×(List (List UInt8))×List Func)):=loopF (loopStep (E1 N) fuelW 0 18 (bodyAt t11 18) T0_18 O0_18) k x
theorem L0_18_succ (N:Nat) (k:Nat) (v11:List (List UInt8)) (v12:Int) (v13:Int) (v14:List GType) (v15:List (List UInt8)) (v16:List Func):L0_18 N (k+1) (v11,v12,v13,v14,v15,v16) =
 (bif (decide (v13<v12))
 then ((idx v11 v13).bind fun x17=>
 (bif (decide ((x17.length:Int)>(64:Int)))
 then some (Sum.inl false)
 else L0_18 N k (v11,v12,(wi64 (v13+(1:Int))),v14,v15,v16)))
 else some (Sum.inr (v14,v15,v16))):=by kernel_rfl
def E2 (N:Nat):SEnv:=(E1 N).addLoop N 0 18 T0_18 O0_18
theorem ok2 (N:Nat):EnvOK tab (E2 N):=(ok1 N).addLoop N 0 18 T0_18 O0_18
def T0_30:Tmpl:=⟨[(1,.c (.ptr 0 1 0 0 0)),(9,.c (.mp 0 62 1)),(64,.c (.sl TFunc .bor)),(65,.c (.int .i64)),(66,.c (.int .i64))],[],[(0,1,.box 0 [.sl TGType .bor,.sl .str .bor,.sl TFunc .bor]),(0,62,.set 1)],1,[],2,[.sl TFunc,.int .i64,.int .i64,.sl TGType,.sl .str,.sl TFunc,.sl .str]⟩
def O0_30:Outs:=[(.ret,⟨[(2,.c (.bool))],[],[],1,[],0,[.bool]⟩),(.exit 4,⟨[],[],[],1,[],0,[]⟩)]
def L0_30 (N:Nat) (k:Nat) (x:List Func×Int×Int×List GType×(List (List UInt8))×List Func×List (List UInt8)):Option (Bool⊕Unit):=loopF (loopStep (E2 N) fuelW 0 30 (bodyAt t11 30) T0_30 O0_30) k x
theorem L0_30_succ (N:Nat) (k:Nat) (v21:List Func) (v22:Int) (v23:Int) (v24:List GType) (v25:List (List UInt8)) (v26:List Func) (v27:List (List UInt8)):L0_30 N (k+1) (v21,v22,v23,v24,v25,v26,v27) =
 (bif (decide (v23<v22))
 then ((idx v21 v23).bind fun x28=>
 (bif (hasB v27 x28.1)
 then some (Sum.inl false)
 else ((F29 N (v24,x28.1,x28.2.1,x28.2.2.1,x28.2.2.2.1,x28.2.2.2.2.1,x28.2.2.2.2.2.1,x28.2.2.2.2.2.2)).bind fun y29=>
 (bif (!y29)
 then some (Sum.inl false)
 else L0_30 N k (v21,v22,(wi64 (v23+(1:Int))),v24,v25,v26,(addB v27 x28.1))))))
 else some (Sum.inr ())):=by kernel_rfl
def E3 (N:Nat):SEnv:=(E2 N).addLoop N 0 30 T0_30 O0_30
theorem ok3 (N:Nat):EnvOK tab (E3 N):=(ok2 N).addLoop N 0 30 T0_30 O0_30
end f11
def F11 (N:Nat) (x:List GType×(List (List UInt8))×List Func):Option Bool:=fnRun (f11.E3 N) fuelW 11 f11.args f11.ta f11.res f11.tr 0 x
open f11 in
theorem F11_eq (N:Nat) (p0:List GType) (p1:List (List UInt8)) (p2:List Func):F11 N (p0,p1,p2) =
 (Option.bind (((F27 N p0).bind fun y0=>
 (bif (y0 != (0:Int))
 then some true
 else (bif (decide ((p1.length:Int)>(32:Int)))
 then some true
 else (bif ((p2.length:Int)==(0:Int))
 then some true
 else some (decide ((p2.length:Int)>(32:Int)))))))) fun b1=>
 (bif b1
 then some false
 else ((L0_6 N N ((p0.length:Int),(0:Int),p0,p1,p2)).bind fun y8=>
 (match y8 with
 |.inl a9=>some a9
 |.inr b10=>((L0_18 N N (b10.2.1,(b10.2.1.length:Int),(0:Int),b10.1,b10.2.1,b10.2.2)).bind fun y18=>
 (match y18 with
 |.inl a19=>some a19
 |.inr b20=>((L0_30 N N (b20.2.2,(b20.2.2.length:Int),(0:Int),b20.1,b20.2.1,b20.2.2,([]:List (List UInt8)))).bind fun y30=>
 (match y30 with
 |.inl a31=>some a31
 |.inr b32=>some true)))))))):=by kernel_rfl
def c11 (N:Nat):Sym.Callee:=⟨f11.args,f11.ta,f11.res,f11.tr,0,F11 N⟩
theorem ok11 (N:Nat):CalOK tab 11 (c11 N):=fn_ok (f11.ok3 N) fuelW 11 f11.args f11.ta f11.res f11.tr 0
namespace f4
def bcut:Nat→Nat→Option (Nat×Ty):=fun c i=>match c,i with
 |0,30=>some (58,.bool)
 |_,_=>none
def ety:Nat→Nat→Option Ty:=fun c d=>match c,d with
 |0,19=>some TGType
 |0,29=>some .str
 |0,39=>some TFunc
 |_,_=>none
def args:List PSh:=[.c (.sl (.int .u8) .d)]
def ta:List Ty:=[(.sl (.int .u8))]
def res:List (Bool×List CSh):=[(true,[.sl TGType .d,.sl .str .d,.sl TFunc .d]),(false,[.int .i64])]
def tr:List Ty:=[.sl TGType,.sl .str,.sl TFunc,.int .i64]
def E0 (N:Nat):SEnv:=(((((SEnv.base tab cuts ccut bcut unr ety).addCal 7 (c7 N)).addCal 8 (c8 N)).addCal 9 (c9 N)).addCal 10 (c10 N)).addCal 11 (c11 N)
theorem ok0 (N:Nat):EnvOK tab (E0 N):=(((((base_ok tab cuts ccut bcut unr ety).addCal (ok7 N)).addCal (ok8 N)).addCal (ok9 N)).addCal (ok10 N)).addCal (ok11 N)
def T0_8:Tmpl:=⟨[(0,.c (.sl (.int .u8) .d)),(2,.c (.ptr 0 2 0 0 0)),(4,.c (.ptr 0 4 1 0 0)),(5,.c (.ptr 0 5 2 0 0)),(13,.c (.int .i64)),(14,.c (.int .i64))],[],[(0,2,.box 0 [.nil true,.nil true,.nil true]),(0,4,.box 1 [.sl TGType (.app 3),.nil true,.nil true]),(0,5,.box 2 [.sl (.int .u8) .d,.int .i64,.int .i64])],1,[3],4,[(.sl (.int .u8)),.int .i64,.int .i64,.sl TGType,(.sl (.int .u8)),.int .i64,.int .i64]⟩
def O0_8:Outs:=[(.exit 0,⟨[(0,.c (.sl (.int .u8) .d)),(2,.c (.ptr 0 2 0 0 0)),(4,.c (.ptr 0 4 1 0 0)),(5,.c (.ptr 0 5 2 0 0))],[],[(0,2,.box 0 [.nil true,.nil true,.nil true]),(0,4,.box 1 [.sl TGType (.app 3),.nil true,.nil true]),(0,5,.box 2 [.sl (.int .u8) .d,.int .i64,.int .i64])],1,[3],4,[(.sl (.int .u8)),.sl TGType,(.sl (.int .u8)),.int .i64,.int .i64]⟩)]
def L0_8 (N:Nat) (k:Nat) (x:List Int×Int×Int×List GType×List Int×Int×Int):Option ((List Int×List GType×List Int×Int×Int)):=loopF (loopStep (E0 N) fuelW 0 8 (bodyAt t4 8) T0_8 O0_8) k x
theorem L0_8_succ (N:Nat) (k:Nat) (v1:List Int) (v2:Int) (v3:Int) (v4:List GType) (v5:List Int) (v6:Int) (v7:Int):L0_8 N (k+1) (v1,v2,v3,v4,v5,v6,v7) =
 (bif (decide (v3<v2))
 then ((F8 N (v5,v6,v7)).bind fun y8=>
 (chk (room (v4.length+1) 48)
 (L0_8 N k (v1,v2,(wi64 (v3+(1:Int))),(v4++[y8.2.2.2]),y8.1,y8.2.1,y8.2.2.1))))
 else some (v1,v4,v5,v6,v7)):=by kernel_rfl
def E1 (N:Nat):SEnv:=(E0 N).addLoop N 0 8 T0_8 O0_8
theorem ok1 (N:Nat):EnvOK tab (E1 N):=(ok0 N).addLoop N 0 8 T0_8 O0_8
def T0_16:Tmpl:=⟨[(0,.c (.sl (.int .u8) .d)),(2,.c (.ptr 0 2 0 0 0)),(4,.c (.ptr 0 4 1 0 0)),(5,.c (.ptr 0 5 2 0 0)),(23,.c (.int .i64)),(24,.c (.int .i64))],[],[(0,2,.box 0 [.nil true,.nil true,.nil true]),(0,4,.box 1 [.sl TGType (.app 4),.sl .str (.app 3),.nil true]),(0,5,.box 2 [.sl (.int .u8) .d,.int .i64,.int .i64])],1,[4,3],5,[(.sl (.int .u8)),.int .i64,.int .i64,.sl TGType,.sl .str,(.sl (.int .u8)),.int .i64,.int .i64]⟩
def O0_16:Outs:=[(.exit 2,⟨[(0,.c (.sl (.int .u8) .d)),(2,.c (.ptr 0 2 0 0 0)),(4,.c (.ptr 0 4 1 0 0)),(5,.c (.ptr 0 5 2 0 0))],[],[(0,2,.box 0 [.nil true,.nil true,.nil true]),(0,4,.box 1 [.sl TGType (.app 3),.sl .str (.app 4),.nil true]),(0,5,.box 2 [.sl (.int .u8) .d,.int .i64,.int .i64])],1,[3,4],5,[(.sl (.int .u8)),.sl TGType,.sl .str,(.sl (.int .u8)),.int .i64,.int .i64]⟩)]
def L0_16 (N:Nat) (k:Nat) (x:List Int×Int×Int×List GType×(List (List UInt8))×List Int×Int×Int):Option ((List Int×List GType×(List (List UInt8))×List Int×Int×Int)):=loopF (loopStep (E1 N) fuelW 0 16 (bodyAt t4 16) T0_16 O0_16) k x
theorem L0_16_succ (N:Nat) (k:Nat) (v11:List Int) (v12:Int) (v13:Int) (v14:List GType) (v15:List (List UInt8)) (v16:List Int) (v17:Int) (v18:Int):L0_16 N (k+1) (v11,v12,v13,v14,v15,v16,v17,v18) =
 (bif (decide (v13<v12))
 then ((F9 N (v16,v17,v18,(64:Int))).bind fun y19=>
 (chk (room (v15.length+1) 16)
 (L0_16 N k (v11,v12,(wi64 (v13+(1:Int))),v14,(v15++[y19.2.2.2]),y19.1,y19.2.1,y19.2.2.1))))
 else some (v11,v14,v15,v16,v17,v18)):=by kernel_rfl
def E2 (N:Nat):SEnv:=(E1 N).addLoop N 0 16 T0_16 O0_16
theorem ok2 (N:Nat):EnvOK tab (E2 N):=(ok1 N).addLoop N 0 16 T0_16 O0_16
def T0_24:Tmpl:=⟨[(0,.c (.sl (.int .u8) .d)),(2,.c (.ptr 0 2 0 0 0)),(4,.c (.ptr 0 4 1 0 0)),(5,.c (.ptr 0 5 2 0 0)),(33,.c (.int .i64)),(34,.c (.int .i64))],[],[(0,2,.box 0 [.nil true,.nil true,.nil true]),(0,4,.box 1 [.sl TGType (.app 4),.sl .str (.app 5),.sl TFunc (.app 3)]),(0,5,.box 2 [.sl (.int .u8) .d,.int .i64,.int .i64])],1,[4,5,3],6,[(.sl (.int .u8)),.int .i64,.int .i64,.sl TGType,.sl .str,.sl TFunc,(.sl (.int .u8)),.int .i64,.int .i64]⟩
def O0_24:Outs:=[(.exit 4,⟨[(0,.c (.sl (.int .u8) .d)),(2,.c (.ptr 0 2 0 0 0)),(4,.c (.ptr 0 4 1 0 0)),(5,.c (.ptr 0 5 2 0 0))],[],[(0,2,.box 0 [.nil true,.nil true,.nil true]),(0,4,.box 1 [.sl TGType (.app 3),.sl .str (.app 4),.sl TFunc (.app 5)]),(0,5,.box 2 [.sl (.int .u8) .d,.int .i64,.int .i64])],1,[3,4,5],6,[(.sl (.int .u8)),.sl TGType,.sl .str,.sl TFunc,(.sl (.int .u8)),.int .i64,.int .i64]⟩)]
def L0_24 (N:Nat) (k:Nat) (x:List Int×Int×Int×List GType×(List (List UInt8))×List Func×List Int×Int×Int):Option ((List Int×List GType×(List (List UInt8))×List Func×List Int×Int×Int)):=loopF (loopStep (E2 N) fuelW 0 24 (bodyAt t4 24) T0_24 O0_24) k x
theorem L0_24_succ (N:Nat) (k:Nat) (v22:List Int) (v23:Int) (v24:Int) (v25:List GType) (v26:List (List UInt8)) (v27:List Func) (v28:List Int) (v29:Int) (v30:Int):L0_24 N (k+1) (v22,v23,v24,v25,v26,v27,v28,v29,v30) =
 (bif (decide (v24<v23))
 then ((F10 N (v28,v29,v30)).bind fun y31=>
 (chk (room (v27.length+1) 128)
 (L0_24 N k (v22,v23,(wi64 (v24+(1:Int))),v25,v26,(v27++[y31.2.2.2]),y31.1,y31.2.1,y31.2.2.1))))
 else some (v22,v25,v26,v27,v28,v29,v30)):=by kernel_rfl
def E3 (N:Nat):SEnv:=(E2 N).addLoop N 0 24 T0_24 O0_24
theorem ok3 (N:Nat):EnvOK tab (E3 N):=(ok2 N).addLoop N 0 24 T0_24 O0_24
end f4
def F4 (N:Nat) (x:List Int):Option (List GType×(List (List UInt8))×List Func×Int):=fnRun (f4.E3 N) fuelW 4 f4.args f4.ta f4.res f4.tr 0 x
open f4 in
theorem F4_eq (N:Nat) (p0:List Int):F4 N p0 =
 (bif (decide ((p0.length:Int)>(20000:Int)))
 then some ([],[],[],(4:Int))
 else ((F7 N (p0,(0:Int),(0:Int),(32:Int))).bind fun y0=>
 ((L0_8 N N (p0,y0.2.2.2,(0:Int),[],y0.1,y0.2.1,y0.2.2.1)).bind fun y9=>
 ((F7 N (y9.2.2.1,y9.2.2.2.1,y9.2.2.2.2,(32:Int))).bind fun y10=>
 ((L0_16 N N (y9.1,y10.2.2.2,(0:Int),y9.2.1,[],y10.1,y10.2.1,y10.2.2.1)).bind fun y20=>
 ((F7 N (y20.2.2.2.1,y20.2.2.2.2.1,y20.2.2.2.2.2,(32:Int))).bind fun y21=>
 ((L0_24 N N (y20.1,y21.2.2.2,(0:Int),y20.2.1,y20.2.2.1,[],y21.1,y21.2.1,y21.2.2.1)).bind fun y32=>
 (Option.bind ((bif (y32.2.2.2.2.2.2 != (0:Int))
 then some true
 else (bif (y32.2.2.2.2.2.1 != (y32.1.length:Int))
 then some true
 else ((F11 N (y32.2.1,y32.2.2.1,y32.2.2.2.1)).bind fun y33=>
 some (!y33))))) fun b34=>
 (bif b34
 then some ([],[],[],(12:Int))
 else some (y32.2.1,y32.2.2.1,y32.2.2.2.1,(0:Int))))))))))):=by kernel_rfl
def c4 (N:Nat):Sym.Callee:=⟨f4.args,f4.ta,f4.res,f4.tr,0,F4 N⟩
theorem ok4 (N:Nat):CalOK tab 4 (c4 N):=fn_ok (f4.ok3 N) fuelW 4 f4.args f4.ta f4.res f4.tr 0
namespace f64
def bcut:Nat→Nat→Option (Nat×Ty):=fun c i=>match c,i with
 |0,1=>some (19,.bool)
 |_,_=>none
def args:List PSh:=[.agg [.sl (.int .u8) .bor,.int .i64]]
def ta:List Ty:=[(.sl (.int .u8)),.int .i64]
def res:List (Bool×List CSh):=[(false,[.int .i64])]
def tr:List Ty:=[.int .i64]
def E0 (N:Nat):SEnv:=SEnv.base tab cuts ccut bcut unr ety
theorem ok0 (N:Nat):EnvOK tab (E0 N):=base_ok tab cuts ccut bcut unr ety
end f64
def F64 (N:Nat) (x:List Int×Int):Option Int:=fnRun (f64.E0 N) fuelW 64 f64.args f64.ta f64.res f64.tr 0 x
open f64 in
theorem F64_eq (N:Nat) (p0:List Int) (p1:Int):F64 N (p0,p1) =
 (Option.bind ((bif (decide ((p0.length:Int)>(200000:Int)))
 then some true
 else (bif (decide (p1<(0:Int)))
 then some true
 else some (decide (p1>(p0.length:Int)))))) fun b0=>
 (bif b0
 then some (8:Int)
 else some (0:Int))):=by kernel_rfl
def c64 (N:Nat):Sym.Callee:=⟨f64.args,f64.ta,f64.res,f64.tr,0,F64 N⟩
theorem ok64 (N:Nat):CalOK tab 64 (c64 N):=fn_ok (f64.ok0 N) fuelW 64 f64.args f64.ta f64.res f64.tr 0
namespace f66
def args:List PSh:=[.agg [.sl (.int .u8) .d,.int .i64],.c (.int .i64)]
def ta:List Ty:=[(.sl (.int .u8)),.int .i64,.int .i64]
def res:List (Bool×List CSh):=[(true,[.sl (.int .u8) .d,.int .i64])]
def tr:List Ty:=[(.sl (.int .u8)),.int .i64]
def E0 (N:Nat):SEnv:=SEnv.base tab cuts ccut bcut unr ety
theorem ok0 (N:Nat):EnvOK tab (E0 N):=base_ok tab cuts ccut bcut unr ety
end f66
def F66 (N:Nat) (x:List Int×Int×Int):Option (List Int×Int):=fnRun (f66.E0 N) fuelW 66 f66.args f66.ta f66.res f66.tr 0 x
open f66 in
theorem F66_eq (N:Nat) (p0:List Int) (p1:Int) (p2:Int):F66 N (p0,p1,p2) =
 some (p0,(wi64 (p1+p2))):=by kernel_rfl
def c66 (N:Nat):Sym.Callee:=⟨f66.args,f66.ta,f66.res,f66.tr,0,F66 N⟩
theorem ok66 (N:Nat):CalOK tab 66 (c66 N):=fn_ok (f66.ok0 N) fuelW 66 f66.args f66.ta f66.res f66.tr 0
namespace f65
def bcut:Nat→Nat→Option (Nat×Ty):=fun c i=>match c,i with
 |0,12=>some (35,.bool)
 |0,19=>some (53,.bool)
 |_,_=>none
def args:List PSh:=[.agg [.sl (.int .u8) .d,.int .i64]]
def ta:List Ty:=[(.sl (.int .u8)),.int .i64]
def res:List (Bool×List CSh):=[(true,[.sl (.int .u8) .d,.int .i64]),(false,[.int .u64]),(false,[.int .i64])]
def tr:List Ty:=[(.sl (.int .u8)),.int .i64,.int .u64,.int .i64]
def E0 (N:Nat):SEnv:=(SEnv.base tab cuts ccut bcut unr ety).addCal 66 (c66 N)
theorem ok0 (N:Nat):EnvOK tab (E0 N):=(base_ok tab cuts ccut bcut unr ety).addCal (ok66 N)
def T0_4:Tmpl:=⟨[(1,.c (.ptr 0 1 0 0 0)),(2,.c (.ptr 0 2 1 0 0)),(5,.c (.int .u64)),(6,.c (.int .u64)),(7,.c (.int .i64))],[],[(0,1,.box 0 [.sl (.int .u8) .d,.int .i64]),(0,2,.box 1 [.nil true,.int .i64])],1,[],2,[.int .u64,.int .u64,.int .i64,(.sl (.int .u8)),.int .i64,.int .i64]⟩
def O0_4:Outs:=[(.ret,⟨[(2,.c (.ptr 0 2 0 0 0)),(3,.c (.int .u64)),(4,.c (.int .i64))],[],[(0,2,.box 0 [.sl (.int .u8) .d,.int .i64])],1,[],1,[.int .u64,.int .i64,(.sl (.int .u8)),.int .i64]⟩),(.exit 0,⟨[(2,.c (.ptr 0 2 0 0 0))],[],[(0,2,.box 0 [.nil true,.int .i64])],1,[],1,[.int .i64]⟩)]
def L0_4 (N:Nat) (k:Nat) (x:Int×Int×Int×List Int×Int×Int):Option ((Int×Int×List Int×Int)⊕Int):=loopF (loopStep (E0 N) fuelW 0 4 (bodyAt t65 4) T0_4 O0_4) k x
theorem L0_4_succ (N:Nat) (k:Nat) (v0:Int) (v1:Int) (v2:Int) (v3:List Int) (v4:Int) (v5:Int):L0_4 N (k+1) (v0,v1,v2,v3,v4,v5) =
 (bif (decide (v2<(10:Int)))
 then (bif (decide ((wi64 (v4+v2))≥(v3.length:Int)))
 then some (Sum.inl ((0:Int),(24:Int),[],(0:Int)))
 else ((idx v3 (wi64 (v4+v2))).bind fun x6=>
 (Option.bind ((bif (v2==(9:Int))
 then some (decide (x6>(1:Int)))
 else some false)) fun b7=>
 (bif b7
 then some (Sum.inl ((0:Int),(12:Int),[],(0:Int)))
 else (bif (decide (x6<(128:Int)))
 then (Option.bind ((bif (x6==(0:Int))
 then some (decide (v2>(0:Int)))
 else some false)) fun b8=>
 (bif b8
 then some (Sum.inl ((0:Int),(12:Int),[],(0:Int)))
 else ((F66 N (v3,v4,(wi64 (v2+(1:Int))))).bind fun y9=>
 some (Sum.inl ((wu64 (v0+(wu64 (v1*(wu64 (Int.tmod x6 (128:Int))))))),(0:Int),y9.1,y9.2)))))
 else L0_4 N k ((wu64 (v0+(wu64 (v1*(wu64 (Int.tmod x6 (128:Int))))))),(wu64 (v1*(128:Int))),(wi64 (v2+(1:Int))),v3,v4,v5))))))
 else some (Sum.inr v5)):=by kernel_rfl
def E1 (N:Nat):SEnv:=(E0 N).addLoop N 0 4 T0_4 O0_4
theorem ok1 (N:Nat):EnvOK tab (E1 N):=(ok0 N).addLoop N 0 4 T0_4 O0_4
end f65
def F65 (N:Nat) (x:List Int×Int):Option (List Int×Int×Int×Int):=fnRun (f65.E1 N) fuelW 65 f65.args f65.ta f65.res f65.tr 0 x
open f65 in
theorem F65_eq (N:Nat) (p0:List Int) (p1:Int):F65 N (p0,p1) =
 ((L0_4 N N ((0:Int),(1:Int),(0:Int),p0,p1,(0:Int))).bind fun y10=>
 (match y10 with
 |.inl a11=>some (a11.2.2.1,a11.2.2.2,a11.1,a11.2.1)
 |.inr b12=>some ([],(0:Int),(0:Int),(12:Int)))):=by kernel_rfl
def c65 (N:Nat):Sym.Callee:=⟨f65.args,f65.ta,f65.res,f65.tr,0,F65 N⟩
theorem ok65 (N:Nat):CalOK tab 65 (c65 N):=fn_ok (f65.ok1 N) fuelW 65 f65.args f65.ta f65.res f65.tr 0
namespace f30
def bcut:Nat→Nat→Option (Nat×Ty):=fun c i=>match c,i with
 |0,5=>some (26,.bool)
 |0,6=>some (9,(.int .i64))
 |_,_=>none
def args:List PSh:=[.agg [.sl (.int .u8) .d,.int .i64],.c (.int .u64)]
def ta:List Ty:=[(.sl (.int .u8)),.int .i64,.int .u64]
def res:List (Bool×List CSh):=[(true,[.sl (.int .u8) .d,.int .i64]),(false,[.int .u64]),(false,[.int .i64])]
def tr:List Ty:=[(.sl (.int .u8)),.int .i64,.int .u64,.int .i64]
def E0 (N:Nat):SEnv:=((SEnv.base tab cuts ccut bcut unr ety).addCal 64 (c64 N)).addCal 65 (c65 N)
theorem ok0 (N:Nat):EnvOK tab (E0 N):=((base_ok tab cuts ccut bcut unr ety).addCal (ok64 N)).addCal (ok65 N)
end f30
def F30 (N:Nat) (x:List Int×Int×Int):Option (List Int×Int×Int×Int):=fnRun (f30.E0 N) fuelW 30 f30.args f30.ta f30.res f30.tr 0 x
open f30 in
theorem F30_eq (N:Nat) (p0:List Int) (p1:Int) (p2:Int):F30 N (p0,p1,p2) =
 ((F64 N (p0,p1)).bind fun y0=>
 (bif (y0 != (0:Int))
 then some ([],(0:Int),(0:Int),(8:Int))
 else ((F65 N (p0,p1)).bind fun y1=>
 (Option.bind ((bif (y1.2.2.2==(0:Int))
 then some (decide (y1.2.2.1>p2))
 else some false)) fun b2=>
 (Option.bind ((bif b2
 then some (4:Int)
 else some y1.2.2.2)) fun b3=>
 (bif (b3 != (0:Int))
 then some ([],(0:Int),(0:Int),b3)
 else some (y1.1,y1.2.1,y1.2.2.1,(0:Int)))))))):=by kernel_rfl
def c30 (N:Nat):Sym.Callee:=⟨f30.args,f30.ta,f30.res,f30.tr,0,F30 N⟩
theorem ok30 (N:Nat):CalOK tab 30 (c30 N):=fn_ok (f30.ok0 N) fuelW 30 f30.args f30.ta f30.res f30.tr 0
namespace f12
def args:List PSh:=[.box [.sl (.int .u8) .d,.int .i64,.bool],.c (.int .i64)]
def ta:List Ty:=[(.sl (.int .u8)),.int .i64,.bool,.int .i64]
def res:List (Bool×List CSh):=[(true,[.sl (.int .u8) .d,.int .i64,.bool]),(false,[.int .i64])]
def tr:List Ty:=[(.sl (.int .u8)),.int .i64,.bool,.int .i64]
def E0 (N:Nat):SEnv:=(SEnv.base tab cuts ccut bcut unr ety).addCal 30 (c30 N)
theorem ok0 (N:Nat):EnvOK tab (E0 N):=(base_ok tab cuts ccut bcut unr ety).addCal (ok30 N)
end f12
def F12 (N:Nat) (x:List Int×Int×Bool×Int):Option (List Int×Int×Bool×Int):=fnRun (f12.E0 N) fuelW 12 f12.args f12.ta f12.res f12.tr 0 x
open f12 in
theorem F12_eq (N:Nat) (p0:List Int) (p1:Int) (p2:Bool) (p3:Int):F12 N (p0,p1,p2,p3) =
 (bif p2
 then some (p0,p1,p2,(0:Int))
 else ((F30 N (p0,p1,(wu64 p3))).bind fun y0=>
 (bif (y0.2.2.2 != (0:Int))
 then some (p0,p1,true,(0:Int))
 else some (y0.1,y0.2.1,p2,(wi64 y0.2.2.1))))):=by kernel_rfl
def c12 (N:Nat):Sym.Callee:=⟨f12.args,f12.ta,f12.res,f12.tr,0,F12 N⟩
theorem ok12 (N:Nat):CalOK tab 12 (c12 N):=fn_ok (f12.ok0 N) fuelW 12 f12.args f12.ta f12.res f12.tr 0
namespace f31
def bcut:Nat→Nat→Option (Nat×Ty):=fun c i=>match c,i with
 |0,1=>some (21,.bool)
 |_,_=>none
def args:List PSh:=[.box [.sl (.int .u8) .d,.int .i64,.bool]]
def ta:List Ty:=[(.sl (.int .u8)),.int .i64,.bool]
def res:List (Bool×List CSh):=[(true,[.sl (.int .u8) .d,.int .i64,.bool]),(false,[.int .u8])]
def tr:List Ty:=[(.sl (.int .u8)),.int .i64,.bool,.int .u8]
def E0 (N:Nat):SEnv:=SEnv.base tab cuts ccut bcut unr ety
theorem ok0 (N:Nat):EnvOK tab (E0 N):=base_ok tab cuts ccut bcut unr ety
end f31
def F31 (N:Nat) (x:List Int×Int×Bool):Option (List Int×Int×Bool×Int):=fnRun (f31.E0 N) fuelW 31 f31.args f31.ta f31.res f31.tr 0 x
open f31 in
theorem F31_eq (N:Nat) (p0:List Int) (p1:Int) (p2:Bool):F31 N (p0,p1,p2) =
 (Option.bind ((bif p2
 then some true
 else some (p1==(p0.length:Int)))) fun b0=>
 (bif b0
 then some (p0,p1,true,(0:Int))
 else ((idx p0 p1).bind fun x1=>
 some (p0,(wi64 (p1+(1:Int))),p2,x1)))):=by kernel_rfl
def c31 (N:Nat):Sym.Callee:=⟨f31.args,f31.ta,f31.res,f31.tr,0,F31 N⟩
theorem ok31 (N:Nat):CalOK tab 31 (c31 N):=fn_ok (f31.ok0 N) fuelW 31 f31.args f31.ta f31.res f31.tr 0
namespace f33
def bcut:Nat→Nat→Option (Nat×Ty):=fun c i=>match c,i with
 |0,4=>some (19,.bool)
 |_,_=>none
def args:List PSh:=[.agg [.sl (.int .u8) .d,.int .i64],.c (.int .i64)]
def ta:List Ty:=[(.sl (.int .u8)),.int .i64,.int .i64]
def res:List (Bool×List CSh):=[(true,[.sl (.int .u8) .d,.int .i64]),(false,[.str]),(false,[.int .i64])]
def tr:List Ty:=[(.sl (.int .u8)),.int .i64,.str,.int .i64]
def E0 (N:Nat):SEnv:=(((SEnv.base tab cuts ccut bcut unr ety).addCal 64 (c64 N)).addCal 30 (c30 N)).addCal 66 (c66 N)
theorem ok0 (N:Nat):EnvOK tab (E0 N):=(((base_ok tab cuts ccut bcut unr ety).addCal (ok64 N)).addCal (ok30 N)).addCal (ok66 N)
end f33
def F33 (N:Nat) (x:List Int×Int×Int):Option (List Int×Int×List UInt8×Int):=fnRun (f33.E0 N) fuelW 33 f33.args f33.ta f33.res f33.tr 0 x
open f33 in
theorem F33_eq (N:Nat) (p0:List Int) (p1:Int) (p2:Int):F33 N (p0,p1,p2) =
 ((F64 N (p0,p1)).bind fun y0=>
 (bif (y0 != (0:Int))
 then some ([],(0:Int),([]:List UInt8),(8:Int))
 else (Option.bind ((bif (decide (p2<(0:Int)))
 then some true
 else some (decide (p2>(200000:Int))))) fun b1=>
 (bif b1
 then some ([],(0:Int),([]:List UInt8),(2:Int))
 else ((F30 N (p0,p1,(wu64 p2))).bind fun y2=>
 (bif (y2.2.2.2 != (0:Int))
 then some ([],(0:Int),([]:List UInt8),y2.2.2.2)
 else (bif (decide ((wu64 (wi64 ((y2.1.length:Int)-y2.2.1)))<y2.2.2.1))
 then some ([],(0:Int),([]:List UInt8),(24:Int))
 else ((F66 N (y2.1,y2.2.1,(wi64 y2.2.2.1))).bind fun y3=>
 (chk (decide (0≤y2.2.1))
 ((chk (decide (0≤(wi64 (y2.2.1+(wi64 y2.2.2.1)))))
 ((chk (decide ((Int.toNat y2.2.1)≤(Int.toNat (wi64 (y2.2.1+(wi64 y2.2.2.1)))))&&decide ((Int.toNat (wi64 (y2.2.1+(wi64 y2.2.2.1))))≤y2.1.length))
 (some (y3.1,y3.2,(((y2.1.drop (Int.toNat y2.2.1)).take ((Int.toNat (wi64 (y2.2.1+(wi64 y2.2.2.1))))-(Int.toNat y2.2.1))).map fun (n:Int)=>UInt8.ofNat n.toNat),(0:Int)))))))))))))))):=by kernel_rfl
def c33 (N:Nat):Sym.Callee:=⟨f33.args,f33.ta,f33.res,f33.tr,0,F33 N⟩
theorem ok33 (N:Nat):CalOK tab 33 (c33 N):=fn_ok (f33.ok0 N) fuelW 33 f33.args f33.ta f33.res f33.tr 0
namespace f14
def args:List PSh:=[.box [.sl (.int .u8) .d,.int .i64,.bool],.c (.int .i64)]
def ta:List Ty:=[(.sl (.int .u8)),.int .i64,.bool,.int .i64]
def res:List (Bool×List CSh):=[(true,[.sl (.int .u8) .d,.int .i64,.bool]),(false,[.str])]
def tr:List Ty:=[(.sl (.int .u8)),.int .i64,.bool,.str]
def E0 (N:Nat):SEnv:=(SEnv.base tab cuts ccut bcut unr ety).addCal 33 (c33 N)
theorem ok0 (N:Nat):EnvOK tab (E0 N):=(base_ok tab cuts ccut bcut unr ety).addCal (ok33 N)
end f14
def F14 (N:Nat) (x:List Int×Int×Bool×Int):Option (List Int×Int×Bool×List UInt8):=fnRun (f14.E0 N) fuelW 14 f14.args f14.ta f14.res f14.tr 0 x
open f14 in
theorem F14_eq (N:Nat) (p0:List Int) (p1:Int) (p2:Bool) (p3:Int):F14 N (p0,p1,p2,p3) =
 (bif p2
 then some (p0,p1,p2,([]:List UInt8))
 else ((F33 N (p0,p1,p3)).bind fun y0=>
 (bif (y0.2.2.2 != (0:Int))
 then some (p0,p1,true,([]:List UInt8))
 else some (y0.1,y0.2.1,p2,y0.2.2.1)))):=by kernel_rfl
def c14 (N:Nat):Sym.Callee:=⟨f14.args,f14.ta,f14.res,f14.tr,0,F14 N⟩
theorem ok14 (N:Nat):CalOK tab 14 (c14 N):=fn_ok (f14.ok0 N) fuelW 14 f14.args f14.ta f14.res f14.tr 0
namespace f32
def bcut:Nat→Nat→Option (Nat×Ty):=fun c i=>match c,i with
 |0,6=>some (18,.bool)
 |_,_=>none
def ety:Nat→Nat→Option Ty:=fun c d=>match c,d with
 |0,28=>some TField
 |_,_=>none
def args:List PSh:=[.box [.sl (.int .u8) .d,.int .i64,.bool]]
def ta:List Ty:=[(.sl (.int .u8)),.int .i64,.bool]
def res:List (Bool×List CSh):=[(true,[.sl (.int .u8) .d,.int .i64,.bool]),(false,[.sl TField .d])]
def tr:List Ty:=[(.sl (.int .u8)),.int .i64,.bool,.sl TField]
def E0 (N:Nat):SEnv:=((SEnv.base tab cuts ccut bcut unr ety).addCal 12 (c12 N)).addCal 14 (c14 N)
theorem ok0 (N:Nat):EnvOK tab (E0 N):=((base_ok tab cuts ccut bcut unr ety).addCal (ok12 N)).addCal (ok14 N)
def T0_5:Tmpl:=⟨[(0,.c (.ptr 0 0 0 0 0)),(3,.c (.sl TField (.app 1))),(4,.c (.int .i64)),(5,.c (.int .i64))],[[(0,.c (.ptr 0 0 0 0 0))]],[(0,0,.box 0 [.sl (.int .u8) .d,.int .i64,.bool])],2,[1],2,[.sl TField,.int .i64,.int .i64,(.sl (.int .u8)),.int .i64,.bool]⟩
def O0_5:Outs:=[(.exit 0,⟨[(3,.c (.sl TField (.app 1)))],[[(0,.c (.ptr 0 0 0 0 0))]],[(0,0,.box 0 [.sl (.int .u8) .d,.int .i64,.bool])],2,[1],2,[.sl TField,(.sl (.int .u8)),.int .i64,.bool]⟩)]
def L0_5 (N:Nat) (k:Nat) (x:List Field×Int×Int×List Int×Int×Bool):Option ((List Field×List Int×Int×Bool)):=loopF (loopStep (E0 N) fuelW 0 5 (bodyAt t32 5) T0_5 O0_5) k x
theorem L0_5_succ (N:Nat) (k:Nat) (v1:List Field) (v2:Int) (v3:Int) (v4:List Int) (v5:Int) (v6:Bool):L0_5 N (k+1) (v1,v2,v3,v4,v5,v6) =
 (Option.bind ((bif (decide (v3<v2))
 then some (!v6)
 else some false)) fun b7=>
 (bif b7
 then ((F14 N (v4,v5,v6,(100:Int))).bind fun y8=>
 ((F12 N (y8.1,y8.2.1,y8.2.2.1,(100:Int))).bind fun y9=>
 (chk (room (v1.length+1) 24)
 (L0_5 N k ((v1++[(y8.2.2.2,y9.2.2.2)]),v2,(wi64 (v3+(1:Int))),y9.1,y9.2.1,y9.2.2.1)))))
 else some (v1,v4,v5,v6))):=by kernel_rfl
def E1 (N:Nat):SEnv:=(E0 N).addLoop N 0 5 T0_5 O0_5
theorem ok1 (N:Nat):EnvOK tab (E1 N):=(ok0 N).addLoop N 0 5 T0_5 O0_5
end f32
def F32 (N:Nat) (x:List Int×Int×Bool):Option (List Int×Int×Bool×List Field):=fnRun (f32.E1 N) fuelW 32 f32.args f32.ta f32.res f32.tr 0 x
open f32 in
theorem F32_eq (N:Nat) (p0:List Int) (p1:Int) (p2:Bool):F32 N (p0,p1,p2) =
 ((F12 N (p0,p1,p2,(100:Int))).bind fun y0=>
 ((L0_5 N N ([],y0.2.2.2,(0:Int),y0.1,y0.2.1,y0.2.2.1)).bind fun y10=>
 some (y10.2.1,y10.2.2.1,y10.2.2.2,y10.1))):=by kernel_rfl
def c32 (N:Nat):Sym.Callee:=⟨f32.args,f32.ta,f32.res,f32.tr,0,F32 N⟩
theorem ok32 (N:Nat):CalOK tab 32 (c32 N):=fn_ok (f32.ok1 N) fuelW 32 f32.args f32.ta f32.res f32.tr 0
namespace f13
def bcut:Nat→Nat→Option (Nat×Ty):=fun c i=>match c,i with
 |0,5=>some (9,.bool)
 |_,_=>none
def args:List PSh:=[.box [.sl (.int .u8) .d,.int .i64,.bool]]
def ta:List Ty:=[(.sl (.int .u8)),.int .i64,.bool]
def res:List (Bool×List CSh):=[(true,[.sl (.int .u8) .d,.int .i64,.bool]),(true,[.int .u8,.int .i64,.int .i64,.sl TField .d])]
def tr:List Ty:=[(.sl (.int .u8)),.int .i64,.bool,.int .u8,.int .i64,.int .i64,.sl TField]
def E0 (N:Nat):SEnv:=(((SEnv.base tab cuts ccut bcut unr ety).addCal 31 (c31 N)).addCal 12 (c12 N)).addCal 32 (c32 N)
theorem ok0 (N:Nat):EnvOK tab (E0 N):=(((base_ok tab cuts ccut bcut unr ety).addCal (ok31 N)).addCal (ok12 N)).addCal (ok32 N)
end f13
def F13 (N:Nat) (x:List Int×Int×Bool):Option (List Int×Int×Bool×Int×Int×Int×List Field):=fnRun (f13.E0 N) fuelW 13 f13.args f13.ta f13.res f13.tr 0 x
open f13 in
theorem F13_eq (N:Nat) (p0:List Int) (p1:Int) (p2:Bool):F13 N (p0,p1,p2) =
 ((F31 N (p0,p1,p2)).bind fun y0=>
 (Option.bind ((bif (y0.2.2.2==(4:Int))
 then some true
 else some (y0.2.2.2==(7:Int)))) fun b1=>
 (bif b1
 then ((F12 N (y0.1,y0.2.1,y0.2.2.1,(100:Int))).bind fun y2=>
 some (y2.1,y2.2.1,y2.2.2.1,y0.2.2.2,y2.2.2.2,(0:Int),[]))
 else (bif (y0.2.2.2==(6:Int))
 then ((F12 N (y0.1,y0.2.1,y0.2.2.1,(100:Int))).bind fun y3=>
 ((F12 N (y3.1,y3.2.1,y3.2.2.1,(100:Int))).bind fun y4=>
 some (y4.1,y4.2.1,y4.2.2.1,y0.2.2.2,y3.2.2.2,y4.2.2.2,[])))
 else (bif (y0.2.2.2==(5:Int))
 then ((F32 N (y0.1,y0.2.1,y0.2.2.1)).bind fun y5=>
 some (y5.1,y5.2.1,y5.2.2.1,y0.2.2.2,(0:Int),(0:Int),y5.2.2.2))
 else some (y0.1,y0.2.1,y0.2.2.1,y0.2.2.2,(0:Int),(0:Int),[])))))):=by kernel_rfl
def c13 (N:Nat):Sym.Callee:=⟨f13.args,f13.ta,f13.res,f13.tr,0,F13 N⟩
theorem ok13 (N:Nat):CalOK tab 13 (c13 N):=fn_ok (f13.ok0 N) fuelW 13 f13.args f13.ta f13.res f13.tr 0
namespace f94
def args:List PSh:=[.c (.int .u64)]
def ta:List Ty:=[.int .u64]
def res:List (Bool×List CSh):=[(false,[.int .i64])]
def tr:List Ty:=[.int .i64]
def E0 (N:Nat):SEnv:=SEnv.base tab cuts ccut bcut unr ety
theorem ok0 (N:Nat):EnvOK tab (E0 N):=base_ok tab cuts ccut bcut unr ety
end f94
def F94 (N:Nat) (x:Int):Option Int:=fnRun (f94.E0 N) fuelW 94 f94.args f94.ta f94.res f94.tr 0 x
open f94 in
theorem F94_eq (N:Nat) (p0:Int):F94 N p0 =
 (bif ((Int.tmod p0 (2:Int))==(0:Int))
 then some (wi64 (wu64 (Int.tdiv p0 (2:Int))))
 else some (wi64 ((wi64 (0-(wi64 (wu64 (Int.tdiv p0 (2:Int))))))-(1:Int)))):=by kernel_rfl
def c94 (N:Nat):Sym.Callee:=⟨f94.args,f94.ta,f94.res,f94.tr,0,F94 N⟩
theorem ok94 (N:Nat):CalOK tab 94 (c94 N):=fn_ok (f94.ok0 N) fuelW 94 f94.args f94.ta f94.res f94.tr 0
namespace f67
def args:List PSh:=[.agg [.sl (.int .u8) .d,.int .i64]]
def ta:List Ty:=[(.sl (.int .u8)),.int .i64]
def res:List (Bool×List CSh):=[(true,[.sl (.int .u8) .d,.int .i64]),(false,[.int .i64]),(false,[.int .i64])]
def tr:List Ty:=[(.sl (.int .u8)),.int .i64,.int .i64,.int .i64]
def E0 (N:Nat):SEnv:=((SEnv.base tab cuts ccut bcut unr ety).addCal 30 (c30 N)).addCal 94 (c94 N)
theorem ok0 (N:Nat):EnvOK tab (E0 N):=((base_ok tab cuts ccut bcut unr ety).addCal (ok30 N)).addCal (ok94 N)
end f67
def F67 (N:Nat) (x:List Int×Int):Option (List Int×Int×Int×Int):=fnRun (f67.E0 N) fuelW 67 f67.args f67.ta f67.res f67.tr 0 x
open f67 in
theorem F67_eq (N:Nat) (p0:List Int) (p1:Int):F67 N (p0,p1) =
 ((F30 N (p0,p1,(18446744073709551615:Int))).bind fun y0=>
 (bif (y0.2.2.2 != (0:Int))
 then some ([],(0:Int),(0:Int),y0.2.2.2)
 else ((F94 N y0.2.2.1).bind fun y1=>
 some (y0.1,y0.2.1,y1,(0:Int))))):=by kernel_rfl
def c67 (N:Nat):Sym.Callee:=⟨f67.args,f67.ta,f67.res,f67.tr,0,F67 N⟩
theorem ok67 (N:Nat):CalOK tab 67 (c67 N):=fn_ok (f67.ok0 N) fuelW 67 f67.args f67.ta f67.res f67.tr 0
namespace f34
def args:List PSh:=[.box [.sl (.int .u8) .d,.int .i64,.bool]]
def ta:List Ty:=[(.sl (.int .u8)),.int .i64,.bool]
def res:List (Bool×List CSh):=[(true,[.sl (.int .u8) .d,.int .i64,.bool]),(false,[.int .i64])]
def tr:List Ty:=[(.sl (.int .u8)),.int .i64,.bool,.int .i64]
def E0 (N:Nat):SEnv:=(SEnv.base tab cuts ccut bcut unr ety).addCal 67 (c67 N)
theorem ok0 (N:Nat):EnvOK tab (E0 N):=(base_ok tab cuts ccut bcut unr ety).addCal (ok67 N)
end f34
def F34 (N:Nat) (x:List Int×Int×Bool):Option (List Int×Int×Bool×Int):=fnRun (f34.E0 N) fuelW 34 f34.args f34.ta f34.res f34.tr 0 x
open f34 in
theorem F34_eq (N:Nat) (p0:List Int) (p1:Int) (p2:Bool):F34 N (p0,p1,p2) =
 (bif p2
 then some (p0,p1,p2,(0:Int))
 else ((F67 N (p0,p1)).bind fun y0=>
 (bif (y0.2.2.2 != (0:Int))
 then some (p0,p1,true,(0:Int))
 else some (y0.1,y0.2.1,p2,y0.2.2.1)))):=by kernel_rfl
def c34 (N:Nat):Sym.Callee:=⟨f34.args,f34.ta,f34.res,f34.tr,0,F34 N⟩
theorem ok34 (N:Nat):CalOK tab 34 (c34 N):=fn_ok (f34.ok0 N) fuelW 34 f34.args f34.ta f34.res f34.tr 0
namespace f77
def bcut:Nat→Nat→Option (Nat×Ty):=fun c i=>match c,i with
 |0,13=>some (10,.bool)
 |0,24=>some (13,.bool)
 |0,22=>some (13,.bool)
 |0,20=>some (13,.bool)
 |0,18=>some (13,.bool)
 |0,39=>some (19,.bool)
 |0,37=>some (19,.bool)
 |0,35=>some (19,.bool)
 |0,33=>some (19,.bool)
 |0,31=>some (19,.bool)
 |0,29=>some (19,.bool)
 |0,64=>some (39,.bool)
 |0,62=>some (39,.bool)
 |0,72=>some (45,.bool)
 |0,80=>some (50,.bool)
 |_,_=>none
def args:List PSh:=[.c (.int .u8)]
def ta:List Ty:=[.int .u8]
def res:List (Bool×List CSh):=[(false,[.str])]
def tr:List Ty:=[.str]
def E0 (N:Nat):SEnv:=SEnv.base tab cuts ccut bcut unr ety
theorem ok0 (N:Nat):EnvOK tab (E0 N):=base_ok tab cuts ccut bcut unr ety
end f77
def F77 (N:Nat) (x:Int):Option (List UInt8):=fnRun (f77.E0 N) fuelW 77 f77.args f77.ta f77.res f77.tr 0 x
open f77 in
theorem F77_eq (N:Nat) (p0:Int):F77 N p0 =
 (bif (p0==(1:Int))
 then some [119,110,45]
 else (bif (p0==(2:Int))
 then some [119,116,45]
 else (bif (p0==(3:Int))
 then some [119,98,45]
 else (Option.bind ((bif (p0==(4:Int))
 then some true
 else some (p0==(15:Int)))) fun b0=>
 (bif b0
 then some [119,45,45]
 else (Option.bind ((bif (p0==(5:Int))
 then some true
 else (Option.bind ((bif (p0==(12:Int))
 then some true
 else (Option.bind ((bif (p0==(16:Int))
 then some true
 else (Option.bind ((bif (p0==(18:Int))
 then some true
 else some (p0==(21:Int)))) fun b1=>
 some b1))) fun b2=>
 some b2))) fun b3=>
 some b3))) fun b4=>
 (bif b4
 then some [119,114,45]
 else (Option.bind ((bif (p0==(6:Int))
 then some true
 else (Option.bind ((bif (p0==(7:Int))
 then some true
 else (Option.bind ((bif (p0==(8:Int))
 then some true
 else (Option.bind ((bif (p0==(9:Int))
 then some true
 else (Option.bind ((bif (p0==(10:Int))
 then some true
 else (Option.bind ((bif (p0==(11:Int))
 then some true
 else some (p0==(19:Int)))) fun b5=>
 some b5))) fun b6=>
 some b6))) fun b7=>
 some b7))) fun b8=>
 some b8))) fun b9=>
 some b9))) fun b10=>
 (bif b10
 then some [119,114,114]
 else (bif (p0==(13:Int))
 then some [119,114,102]
 else (bif (p0==(14:Int))
 then some [114,102,114]
 else (bif (p0==(17:Int))
 then some [114,114,45]
 else (bif (p0==(20:Int))
 then some [114,114,114]
 else (bif (p0==(22:Int))
 then some [105,45,45]
 else (bif (p0==(23:Int))
 then some [114,105,45]
 else (Option.bind ((bif (p0==(24:Int))
 then some true
 else (Option.bind ((bif (p0==(28:Int))
 then some true
 else some (p0==(32:Int)))) fun b11=>
 some b11))) fun b12=>
 (bif b12
 then some [114,45,45]
 else (bif (p0==(25:Int))
 then some [103,99,45]
 else (Option.bind ((bif (p0==(26:Int))
 then some true
 else some (p0==(27:Int)))) fun b13=>
 (bif b13
 then some [99,45,45]
 else (bif (p0==(29:Int))
 then some [119,119,45]
 else (Option.bind ((bif (p0==(30:Int))
 then some true
 else some (p0==(31:Int)))) fun b14=>
 (bif b14
 then some [45,45,45]
 else (bif (p0==(33:Int))
 then some [119,114,45]
 else (bif (p0==(34:Int))
 then some [101,45,45]
 else some ([]:List UInt8)))))))))))))))))))))))))):=by kernel_rfl
def c77 (N:Nat):Sym.Callee:=⟨f77.args,f77.ta,f77.res,f77.tr,0,F77 N⟩
theorem ok77 (N:Nat):CalOK tab 77 (c77 N):=fn_ok (f77.ok0 N) fuelW 77 f77.args f77.ta f77.res f77.tr 0
namespace f79
def bcut:Nat→Nat→Option (Nat×Ty):=fun c i=>match c,i with
 |0,1=>some (2,.bool)
 |_,_=>none
def args:List PSh:=[.c (.int .u8)]
def ta:List Ty:=[.int .u8]
def res:List (Bool×List CSh):=[(false,[.bool])]
def tr:List Ty:=[.bool]
def E0 (N:Nat):SEnv:=SEnv.base tab cuts ccut bcut unr ety
theorem ok0 (N:Nat):EnvOK tab (E0 N):=base_ok tab cuts ccut bcut unr ety
end f79
def F79 (N:Nat) (x:Int):Option Bool:=fnRun (f79.E0 N) fuelW 79 f79.args f79.ta f79.res f79.tr 0 x
open f79 in
theorem F79_eq (N:Nat) (p0:Int):F79 N p0 =
 (Option.bind ((bif (p0==(110:Int))
 then some true
 else (bif (p0==(103:Int))
 then some true
 else some (p0==(101:Int))))) fun b0=>
 some b0):=by kernel_rfl
def c79 (N:Nat):Sym.Callee:=⟨f79.args,f79.ta,f79.res,f79.tr,0,F79 N⟩
theorem ok79 (N:Nat):CalOK tab 79 (c79 N):=fn_ok (f79.ok0 N) fuelW 79 f79.args f79.ta f79.res f79.tr 0
namespace f95
def bcut:Nat→Nat→Option (Nat×Ty):=fun c i=>match c,i with
 |0,7=>some (10,.bool)
 |0,10=>some (4,.bool)
 |0,12=>some (19,.bool)
 |0,15=>some (4,.bool)
 |0,17=>some (28,.bool)
 |0,20=>some (4,.bool)
 |0,23=>some (4,.bool)
 |0,26=>some (4,.bool)
 |0,29=>some (4,.bool)
 |_,_=>none
def args:List PSh:=[.c (.int .u8),.c (.int .i64)]
def ta:List Ty:=[.int .u8,.int .i64]
def res:List (Bool×List CSh):=[(false,[.bool])]
def tr:List Ty:=[.bool]
def E0 (N:Nat):SEnv:=SEnv.base tab cuts ccut bcut unr ety
theorem ok0 (N:Nat):EnvOK tab (E0 N):=base_ok tab cuts ccut bcut unr ety
end f95
def F95 (N:Nat) (x:Int×Int):Option Bool:=fnRun (f95.E0 N) fuelW 95 f95.args f95.ta f95.res f95.tr 0 x
open f95 in
theorem F95_eq (N:Nat) (p0:Int) (p1:Int):F95 N (p0,p1) =
 (bif (p0==(45:Int))
 then some (p1==(0:Int))
 else (Option.bind ((bif (p0==(119:Int))
 then some true
 else some (p0==(114:Int)))) fun b0=>
 (bif b0
 then (Option.bind ((bif (decide (p1≥(0:Int)))
 then some (decide (p1<(16:Int)))
 else some false)) fun b1=>
 some b1)
 else (Option.bind ((bif (p0==(103:Int))
 then some true
 else some (p0==(101:Int)))) fun b2=>
 (bif b2
 then (Option.bind ((bif (decide (p1≥(-1:Int)))
 then some (decide (p1<(16:Int)))
 else some false)) fun b3=>
 some b3)
 else (Option.bind ((bif (p0==(116:Int))
 then some true
 else some (p0==(99:Int)))) fun b4=>
 (bif b4
 then (Option.bind ((bif (decide (p1≥(0:Int)))
 then some (decide (p1<(32:Int)))
 else some false)) fun b5=>
 some b5)
 else (bif (p0==(98:Int))
 then (Option.bind ((bif (decide (p1≥(0:Int)))
 then some (decide (p1<(2:Int)))
 else some false)) fun b6=>
 some b6)
 else (bif (p0==(102:Int))
 then (Option.bind ((bif (decide (p1≥(0:Int)))
 then some (decide (p1<(8:Int)))
 else some false)) fun b7=>
 some b7)
 else (bif (p0==(105:Int))
 then (Option.bind ((bif (decide (p1≥(0:Int)))
 then some (decide (p1<(200:Int)))
 else some false)) fun b8=>
 some b8)
 else some true)))))))))):=by kernel_rfl
def c95 (N:Nat):Sym.Callee:=⟨f95.args,f95.ta,f95.res,f95.tr,0,F95 N⟩
theorem ok95 (N:Nat):CalOK tab 95 (c95 N):=fn_ok (f95.ok0 N) fuelW 95 f95.args f95.ta f95.res f95.tr 0
namespace f68
def bcut:Nat→Nat→Option (Nat×Ty):=fun c i=>match c,i with
 |0,100030=>some (9,.bool)
 |0,100028=>some (9,.bool)
 |0,30=>some (9,.bool)
 |0,28=>some (9,.bool)
 |_,_=>none
def unr:Nat→Nat→Bool:=fun c i=>match c,i with
 |0,14=>true
 |0,100014=>true
 |_,_=>false
def args:List PSh:=[.agg [.sl (.int .u8) .d,.int .i64]]
def ta:List Ty:=[(.sl (.int .u8)),.int .i64]
def res:List (Bool×List CSh):=[(true,[.sl (.int .u8) .d,.int .i64]),(true,[.int .u8,.int .i64,.int .i64,.int .i64]),(false,[.int .i64])]
def tr:List Ty:=[(.sl (.int .u8)),.int .i64,.int .u8,.int .i64,.int .i64,.int .i64,.int .i64]
def E0 (N:Nat):SEnv:=(((((SEnv.base tab cuts ccut bcut unr ety).addCal 77 (c77 N)).addCal 65 (c65 N)).addCal 79 (c79 N)).addCal 94 (c94 N)).addCal 95 (c95 N)
theorem ok0 (N:Nat):EnvOK tab (E0 N):=(((((base_ok tab cuts ccut bcut unr ety).addCal (ok77 N)).addCal (ok65 N)).addCal (ok79 N)).addCal (ok94 N)).addCal (ok95 N)
end f68
def F68 (N:Nat) (x:List Int×Int):Option (List Int×Int×Int×Int×Int×Int×Int):=fnRun (f68.E0 N) fuelW 68 f68.args f68.ta f68.res f68.tr 0 x
open f68 in
theorem F68_eq (N:Nat) (p0:List Int) (p1:Int):F68 N (p0,p1) =
 (bif (p1==(p0.length:Int))
 then some ([],(0:Int),(0:Int),(0:Int),(0:Int),(0:Int),(24:Int))
 else ((idx p0 p1).bind fun x0=>
 ((F77 N x0).bind fun y1=>
 (bif ((y1.length:Int) != (3:Int))
 then some ([],(0:Int),(0:Int),(0:Int),(0:Int),(0:Int),(12:Int))
 else ((idx y1 (0:Int)).bind fun c2=>
 (bif ((c2.toNat:Int)==(45:Int))
 then ((idx y1 (1:Int)).bind fun c3=>
 (bif ((c3.toNat:Int)==(45:Int))
 then ((idx y1 (2:Int)).bind fun c4=>
 (bif ((c4.toNat:Int)==(45:Int))
 then some (p0,(wi64 (p1+(1:Int))),x0,(0:Int),(0:Int),(0:Int),(0:Int))
 else ((F65 N (p0,(wi64 (p1+(1:Int))))).bind fun y5=>
 (bif (y5.2.2.2 != (0:Int))
 then some ([],(0:Int),(0:Int),(0:Int),(0:Int),(0:Int),y5.2.2.2)
 else ((idx y1 (2:Int)).bind fun c6=>
 ((F79 N (c6.toNat:Int)).bind fun y7=>
 (bif y7
 then ((F94 N y5.2.2.1).bind fun y8=>
 (Option.bind (((idx y1 (2:Int)).bind fun c9=>
 ((F95 N ((c9.toNat:Int),y8)).bind fun y10=>
 some y10))) fun b11=>
 (bif (!b11)
 then some ([],(0:Int),(0:Int),(0:Int),(0:Int),(0:Int),(12:Int))
 else some (y5.1,y5.2.1,x0,(0:Int),(0:Int),y8,(0:Int)))))
 else (Option.bind ((bif (decide (y5.2.2.1<(1000:Int)))
 then ((idx y1 (2:Int)).bind fun c13=>
 ((F95 N ((c13.toNat:Int),(wi64 (Int.tmod y5.2.2.1 (1000:Int))))).bind fun y14=>
 some y14))
 else some false)) fun b15=>
 (bif (!b15)
 then some ([],(0:Int),(0:Int),(0:Int),(0:Int),(0:Int),(12:Int))
 else some (y5.1,y5.2.1,x0,(0:Int),(0:Int),(wi64 (Int.tmod y5.2.2.1 (1000:Int))),(0:Int)))))))))))
 else ((F65 N (p0,(wi64 (p1+(1:Int))))).bind fun y16=>
 (bif (y16.2.2.2 != (0:Int))
 then some ([],(0:Int),(0:Int),(0:Int),(0:Int),(0:Int),y16.2.2.2)
 else ((idx y1 (1:Int)).bind fun c17=>
 ((F79 N (c17.toNat:Int)).bind fun y18=>
 (bif y18
 then ((F94 N y16.2.2.1).bind fun y19=>
 (Option.bind (((idx y1 (1:Int)).bind fun c20=>
 ((F95 N ((c20.toNat:Int),y19)).bind fun y21=>
 some y21))) fun b22=>
 ((idx y1 (2:Int)).bind fun c23=>
 (bif ((c23.toNat:Int)==(45:Int))
 then (bif (!b22)
 then some ([],(0:Int),(0:Int),(0:Int),(0:Int),(0:Int),(12:Int))
 else some (y16.1,y16.2.1,x0,(0:Int),y19,(0:Int),(0:Int)))
 else ((F65 N (y16.1,y16.2.1)).bind fun y24=>
 (bif (y24.2.2.2 != (0:Int))
 then some ([],(0:Int),(0:Int),(0:Int),(0:Int),(0:Int),y24.2.2.2)
 else ((idx y1 (2:Int)).bind fun c25=>
 ((F79 N (c25.toNat:Int)).bind fun y26=>
 (bif y26
 then ((F94 N y24.2.2.1).bind fun y27=>
 (Option.bind ((bif b22
 then ((idx y1 (2:Int)).bind fun c28=>
 ((F95 N ((c28.toNat:Int),y27)).bind fun y29=>
 some y29))
 else some false)) fun b30=>
 (bif (!b30)
 then some ([],(0:Int),(0:Int),(0:Int),(0:Int),(0:Int),(12:Int))
 else some (y24.1,y24.2.1,x0,(0:Int),y19,y27,(0:Int)))))
 else (Option.bind ((bif b22
 then some (decide (y24.2.2.1<(1000:Int)))
 else some false)) fun b31=>
 (Option.bind ((bif b31
 then ((idx y1 (2:Int)).bind fun c32=>
 ((F95 N ((c32.toNat:Int),(wi64 (Int.tmod y24.2.2.1 (1000:Int))))).bind fun y33=>
 some y33))
 else some false)) fun b34=>
 (bif (!b34)
 then some ([],(0:Int),(0:Int),(0:Int),(0:Int),(0:Int),(12:Int))
 else some (y24.1,y24.2.1,x0,(0:Int),y19,(wi64 (Int.tmod y24.2.2.1 (1000:Int))),(0:Int))))))))))))))
 else (Option.bind ((bif (decide (y16.2.2.1<(1000:Int)))
 then ((idx y1 (1:Int)).bind fun c36=>
 ((F95 N ((c36.toNat:Int),(wi64 (Int.tmod y16.2.2.1 (1000:Int))))).bind fun y37=>
 some y37))
 else some false)) fun b38=>
 ((idx y1 (2:Int)).bind fun c39=>
 (bif ((c39.toNat:Int)==(45:Int))
 then (bif (!b38)
 then some ([],(0:Int),(0:Int),(0:Int),(0:Int),(0:Int),(12:Int))
 else some (y16.1,y16.2.1,x0,(0:Int),(wi64 (Int.tmod y16.2.2.1 (1000:Int))),(0:Int),(0:Int)))
 else ((F65 N (y16.1,y16.2.1)).bind fun y40=>
 (bif (y40.2.2.2 != (0:Int))
 then some ([],(0:Int),(0:Int),(0:Int),(0:Int),(0:Int),y40.2.2.2)
 else ((idx y1 (2:Int)).bind fun c41=>
 ((F79 N (c41.toNat:Int)).bind fun y42=>
 (bif y42
 then ((F94 N y40.2.2.1).bind fun y43=>
 (Option.bind ((bif b38
 then ((idx y1 (2:Int)).bind fun c44=>
 ((F95 N ((c44.toNat:Int),y43)).bind fun y45=>
 some y45))
 else some false)) fun b46=>
 (bif (!b46)
 then some ([],(0:Int),(0:Int),(0:Int),(0:Int),(0:Int),(12:Int))
 else some (y40.1,y40.2.1,x0,(0:Int),(wi64 (Int.tmod y16.2.2.1 (1000:Int))),y43,(0:Int)))))
 else (Option.bind ((bif b38
 then some (decide (y40.2.2.1<(1000:Int)))
 else some false)) fun b47=>
 (Option.bind ((bif b47
 then ((idx y1 (2:Int)).bind fun c48=>
 ((F95 N ((c48.toNat:Int),(wi64 (Int.tmod y40.2.2.1 (1000:Int))))).bind fun y49=>
 some y49))
 else some false)) fun b50=>
 (bif (!b50)
 then some ([],(0:Int),(0:Int),(0:Int),(0:Int),(0:Int),(12:Int))
 else some (y40.1,y40.2.1,x0,(0:Int),(wi64 (Int.tmod y16.2.2.1 (1000:Int))),(wi64 (Int.tmod y40.2.2.1 (1000:Int))),(0:Int))))))))))))))))))))
 else ((F65 N (p0,(wi64 (p1+(1:Int))))).bind fun y51=>
 (bif (y51.2.2.2 != (0:Int))
 then some ([],(0:Int),(0:Int),(0:Int),(0:Int),(0:Int),y51.2.2.2)
 else ((idx y1 (0:Int)).bind fun c52=>
 ((F79 N (c52.toNat:Int)).bind fun y53=>
 (bif y53
 then ((F94 N y51.2.2.1).bind fun y54=>
 (Option.bind (((idx y1 (0:Int)).bind fun c55=>
 ((F95 N ((c55.toNat:Int),y54)).bind fun y56=>
 some y56))) fun b57=>
 ((idx y1 (1:Int)).bind fun c58=>
 (bif ((c58.toNat:Int)==(45:Int))
 then ((idx y1 (2:Int)).bind fun c59=>
 (bif ((c59.toNat:Int)==(45:Int))
 then (bif (!b57)
 then some ([],(0:Int),(0:Int),(0:Int),(0:Int),(0:Int),(12:Int))
 else some (y51.1,y51.2.1,x0,y54,(0:Int),(0:Int),(0:Int)))
 else ((F65 N (y51.1,y51.2.1)).bind fun y60=>
 (bif (y60.2.2.2 != (0:Int))
 then some ([],(0:Int),(0:Int),(0:Int),(0:Int),(0:Int),y60.2.2.2)
 else ((idx y1 (2:Int)).bind fun c61=>
 ((F79 N (c61.toNat:Int)).bind fun y62=>
 (bif y62
 then ((F94 N y60.2.2.1).bind fun y63=>
 (Option.bind ((bif b57
 then ((idx y1 (2:Int)).bind fun c64=>
 ((F95 N ((c64.toNat:Int),y63)).bind fun y65=>
 some y65))
 else some false)) fun b66=>
 (bif (!b66)
 then some ([],(0:Int),(0:Int),(0:Int),(0:Int),(0:Int),(12:Int))
 else some (y60.1,y60.2.1,x0,y54,(0:Int),y63,(0:Int)))))
 else (Option.bind ((bif b57
 then some (decide (y60.2.2.1<(1000:Int)))
 else some false)) fun b67=>
 (Option.bind ((bif b67
 then ((idx y1 (2:Int)).bind fun c68=>
 ((F95 N ((c68.toNat:Int),(wi64 (Int.tmod y60.2.2.1 (1000:Int))))).bind fun y69=>
 some y69))
 else some false)) fun b70=>
 (bif (!b70)
 then some ([],(0:Int),(0:Int),(0:Int),(0:Int),(0:Int),(12:Int))
 else some (y60.1,y60.2.1,x0,y54,(0:Int),(wi64 (Int.tmod y60.2.2.1 (1000:Int))),(0:Int))))))))))))
 else ((F65 N (y51.1,y51.2.1)).bind fun y71=>
 (bif (y71.2.2.2 != (0:Int))
 then some ([],(0:Int),(0:Int),(0:Int),(0:Int),(0:Int),y71.2.2.2)
 else ((idx y1 (1:Int)).bind fun c72=>
 ((F79 N (c72.toNat:Int)).bind fun y73=>
 (bif y73
 then ((F94 N y71.2.2.1).bind fun y74=>
 (Option.bind ((bif b57
 then ((idx y1 (1:Int)).bind fun c75=>
 ((F95 N ((c75.toNat:Int),y74)).bind fun y76=>
 some y76))
 else some false)) fun b77=>
 ((idx y1 (2:Int)).bind fun c78=>
 (bif ((c78.toNat:Int)==(45:Int))
 then (bif (!b77)
 then some ([],(0:Int),(0:Int),(0:Int),(0:Int),(0:Int),(12:Int))
 else some (y71.1,y71.2.1,x0,y54,y74,(0:Int),(0:Int)))
 else ((F65 N (y71.1,y71.2.1)).bind fun y79=>
 (bif (y79.2.2.2 != (0:Int))
 then some ([],(0:Int),(0:Int),(0:Int),(0:Int),(0:Int),y79.2.2.2)
 else ((idx y1 (2:Int)).bind fun c80=>
 ((F79 N (c80.toNat:Int)).bind fun y81=>
 (bif y81
 then ((F94 N y79.2.2.1).bind fun y82=>
 (Option.bind ((bif b77
 then ((idx y1 (2:Int)).bind fun c83=>
 ((F95 N ((c83.toNat:Int),y82)).bind fun y84=>
 some y84))
 else some false)) fun b85=>
 (bif (!b85)
 then some ([],(0:Int),(0:Int),(0:Int),(0:Int),(0:Int),(12:Int))
 else some (y79.1,y79.2.1,x0,y54,y74,y82,(0:Int)))))
 else (Option.bind ((bif b77
 then some (decide (y79.2.2.1<(1000:Int)))
 else some false)) fun b86=>
 (Option.bind ((bif b86
 then ((idx y1 (2:Int)).bind fun c87=>
 ((F95 N ((c87.toNat:Int),(wi64 (Int.tmod y79.2.2.1 (1000:Int))))).bind fun y88=>
 some y88))
 else some false)) fun b89=>
 (bif (!b89)
 then some ([],(0:Int),(0:Int),(0:Int),(0:Int),(0:Int),(12:Int))
 else some (y79.1,y79.2.1,x0,y54,y74,(wi64 (Int.tmod y79.2.2.1 (1000:Int))),(0:Int))))))))))))))
 else (Option.bind ((bif b57
 then some (decide (y71.2.2.1<(1000:Int)))
 else some false)) fun b90=>
 (Option.bind ((bif b90
 then ((idx y1 (1:Int)).bind fun c91=>
 ((F95 N ((c91.toNat:Int),(wi64 (Int.tmod y71.2.2.1 (1000:Int))))).bind fun y92=>
 some y92))
 else some false)) fun b93=>
 ((idx y1 (2:Int)).bind fun c94=>
 (bif ((c94.toNat:Int)==(45:Int))
 then (bif (!b93)
 then some ([],(0:Int),(0:Int),(0:Int),(0:Int),(0:Int),(12:Int))
 else some (y71.1,y71.2.1,x0,y54,(wi64 (Int.tmod y71.2.2.1 (1000:Int))),(0:Int),(0:Int)))
 else ((F65 N (y71.1,y71.2.1)).bind fun y95=>
 (bif (y95.2.2.2 != (0:Int))
 then some ([],(0:Int),(0:Int),(0:Int),(0:Int),(0:Int),y95.2.2.2)
 else ((idx y1 (2:Int)).bind fun c96=>
 ((F79 N (c96.toNat:Int)).bind fun y97=>
 (bif y97
 then ((F94 N y95.2.2.1).bind fun y98=>
 (Option.bind ((bif b93
 then ((idx y1 (2:Int)).bind fun c99=>
 ((F95 N ((c99.toNat:Int),y98)).bind fun y100=>
 some y100))
 else some false)) fun b101=>
 (bif (!b101)
 then some ([],(0:Int),(0:Int),(0:Int),(0:Int),(0:Int),(12:Int))
 else some (y95.1,y95.2.1,x0,y54,(wi64 (Int.tmod y71.2.2.1 (1000:Int))),y98,(0:Int)))))
 else (Option.bind ((bif b93
 then some (decide (y95.2.2.1<(1000:Int)))
 else some false)) fun b102=>
 (Option.bind ((bif b102
 then ((idx y1 (2:Int)).bind fun c103=>
 ((F95 N ((c103.toNat:Int),(wi64 (Int.tmod y95.2.2.1 (1000:Int))))).bind fun y104=>
 some y104))
 else some false)) fun b105=>
 (bif (!b105)
 then some ([],(0:Int),(0:Int),(0:Int),(0:Int),(0:Int),(12:Int))
 else some (y95.1,y95.2.1,x0,y54,(wi64 (Int.tmod y71.2.2.1 (1000:Int))),(wi64 (Int.tmod y95.2.2.1 (1000:Int))),(0:Int)))))))))))))))))))))))
 else (Option.bind ((bif (decide (y51.2.2.1<(1000:Int)))
 then ((idx y1 (0:Int)).bind fun c107=>
 ((F95 N ((c107.toNat:Int),(wi64 (Int.tmod y51.2.2.1 (1000:Int))))).bind fun y108=>
 some y108))
 else some false)) fun b109=>
 ((idx y1 (1:Int)).bind fun c110=>
 (bif ((c110.toNat:Int)==(45:Int))
 then ((idx y1 (2:Int)).bind fun c111=>
 (bif ((c111.toNat:Int)==(45:Int))
 then (bif (!b109)
 then some ([],(0:Int),(0:Int),(0:Int),(0:Int),(0:Int),(12:Int))
 else some (y51.1,y51.2.1,x0,(wi64 (Int.tmod y51.2.2.1 (1000:Int))),(0:Int),(0:Int),(0:Int)))
 else ((F65 N (y51.1,y51.2.1)).bind fun y112=>
 (bif (y112.2.2.2 != (0:Int))
 then some ([],(0:Int),(0:Int),(0:Int),(0:Int),(0:Int),y112.2.2.2)
 else ((idx y1 (2:Int)).bind fun c113=>
 ((F79 N (c113.toNat:Int)).bind fun y114=>
 (bif y114
 then ((F94 N y112.2.2.1).bind fun y115=>
 (Option.bind ((bif b109
 then ((idx y1 (2:Int)).bind fun c116=>
 ((F95 N ((c116.toNat:Int),y115)).bind fun y117=>
 some y117))
 else some false)) fun b118=>
 (bif (!b118)
 then some ([],(0:Int),(0:Int),(0:Int),(0:Int),(0:Int),(12:Int))
 else some (y112.1,y112.2.1,x0,(wi64 (Int.tmod y51.2.2.1 (1000:Int))),(0:Int),y115,(0:Int)))))
 else (Option.bind ((bif b109
 then some (decide (y112.2.2.1<(1000:Int)))
 else some false)) fun b119=>
 (Option.bind ((bif b119
 then ((idx y1 (2:Int)).bind fun c120=>
 ((F95 N ((c120.toNat:Int),(wi64 (Int.tmod y112.2.2.1 (1000:Int))))).bind fun y121=>
 some y121))
 else some false)) fun b122=>
 (bif (!b122)
 then some ([],(0:Int),(0:Int),(0:Int),(0:Int),(0:Int),(12:Int))
 else some (y112.1,y112.2.1,x0,(wi64 (Int.tmod y51.2.2.1 (1000:Int))),(0:Int),(wi64 (Int.tmod y112.2.2.1 (1000:Int))),(0:Int))))))))))))
 else ((F65 N (y51.1,y51.2.1)).bind fun y123=>
 (bif (y123.2.2.2 != (0:Int))
 then some ([],(0:Int),(0:Int),(0:Int),(0:Int),(0:Int),y123.2.2.2)
 else ((idx y1 (1:Int)).bind fun c124=>
 ((F79 N (c124.toNat:Int)).bind fun y125=>
 (bif y125
 then ((F94 N y123.2.2.1).bind fun y126=>
 (Option.bind ((bif b109
 then ((idx y1 (1:Int)).bind fun c127=>
 ((F95 N ((c127.toNat:Int),y126)).bind fun y128=>
 some y128))
 else some false)) fun b129=>
 ((idx y1 (2:Int)).bind fun c130=>
 (bif ((c130.toNat:Int)==(45:Int))
 then (bif (!b129)
 then some ([],(0:Int),(0:Int),(0:Int),(0:Int),(0:Int),(12:Int))
 else some (y123.1,y123.2.1,x0,(wi64 (Int.tmod y51.2.2.1 (1000:Int))),y126,(0:Int),(0:Int)))
 else ((F65 N (y123.1,y123.2.1)).bind fun y131=>
 (bif (y131.2.2.2 != (0:Int))
 then some ([],(0:Int),(0:Int),(0:Int),(0:Int),(0:Int),y131.2.2.2)
 else ((idx y1 (2:Int)).bind fun c132=>
 ((F79 N (c132.toNat:Int)).bind fun y133=>
 (bif y133
 then ((F94 N y131.2.2.1).bind fun y134=>
 (Option.bind ((bif b129
 then ((idx y1 (2:Int)).bind fun c135=>
 ((F95 N ((c135.toNat:Int),y134)).bind fun y136=>
 some y136))
 else some false)) fun b137=>
 (bif (!b137)
 then some ([],(0:Int),(0:Int),(0:Int),(0:Int),(0:Int),(12:Int))
 else some (y131.1,y131.2.1,x0,(wi64 (Int.tmod y51.2.2.1 (1000:Int))),y126,y134,(0:Int)))))
 else (Option.bind ((bif b129
 then some (decide (y131.2.2.1<(1000:Int)))
 else some false)) fun b138=>
 (Option.bind ((bif b138
 then ((idx y1 (2:Int)).bind fun c139=>
 ((F95 N ((c139.toNat:Int),(wi64 (Int.tmod y131.2.2.1 (1000:Int))))).bind fun y140=>
 some y140))
 else some false)) fun b141=>
 (bif (!b141)
 then some ([],(0:Int),(0:Int),(0:Int),(0:Int),(0:Int),(12:Int))
 else some (y131.1,y131.2.1,x0,(wi64 (Int.tmod y51.2.2.1 (1000:Int))),y126,(wi64 (Int.tmod y131.2.2.1 (1000:Int))),(0:Int))))))))))))))
 else (Option.bind ((bif b109
 then some (decide (y123.2.2.1<(1000:Int)))
 else some false)) fun b142=>
 (Option.bind ((bif b142
 then ((idx y1 (1:Int)).bind fun c143=>
 ((F95 N ((c143.toNat:Int),(wi64 (Int.tmod y123.2.2.1 (1000:Int))))).bind fun y144=>
 some y144))
 else some false)) fun b145=>
 ((idx y1 (2:Int)).bind fun c146=>
 (bif ((c146.toNat:Int)==(45:Int))
 then (bif (!b145)
 then some ([],(0:Int),(0:Int),(0:Int),(0:Int),(0:Int),(12:Int))
 else some (y123.1,y123.2.1,x0,(wi64 (Int.tmod y51.2.2.1 (1000:Int))),(wi64 (Int.tmod y123.2.2.1 (1000:Int))),(0:Int),(0:Int)))
 else ((F65 N (y123.1,y123.2.1)).bind fun y147=>
 (bif (y147.2.2.2 != (0:Int))
 then some ([],(0:Int),(0:Int),(0:Int),(0:Int),(0:Int),y147.2.2.2)
 else ((idx y1 (2:Int)).bind fun c148=>
 ((F79 N (c148.toNat:Int)).bind fun y149=>
 (bif y149
 then ((F94 N y147.2.2.1).bind fun y150=>
 (Option.bind ((bif b145
 then ((idx y1 (2:Int)).bind fun c151=>
 ((F95 N ((c151.toNat:Int),y150)).bind fun y152=>
 some y152))
 else some false)) fun b153=>
 (bif (!b153)
 then some ([],(0:Int),(0:Int),(0:Int),(0:Int),(0:Int),(12:Int))
 else some (y147.1,y147.2.1,x0,(wi64 (Int.tmod y51.2.2.1 (1000:Int))),(wi64 (Int.tmod y123.2.2.1 (1000:Int))),y150,(0:Int)))))
 else (Option.bind ((bif b145
 then some (decide (y147.2.2.1<(1000:Int)))
 else some false)) fun b154=>
 (Option.bind ((bif b154
 then ((idx y1 (2:Int)).bind fun c155=>
 ((F95 N ((c155.toNat:Int),(wi64 (Int.tmod y147.2.2.1 (1000:Int))))).bind fun y156=>
 some y156))
 else some false)) fun b157=>
 (bif (!b157)
 then some ([],(0:Int),(0:Int),(0:Int),(0:Int),(0:Int),(12:Int))
 else some (y147.1,y147.2.1,x0,(wi64 (Int.tmod y51.2.2.1 (1000:Int))),(wi64 (Int.tmod y123.2.2.1 (1000:Int))),(wi64 (Int.tmod y147.2.2.1 (1000:Int))),(0:Int))))))))))))))))))))))))))))))))):=by kernel_rfl
def c68 (N:Nat):Sym.Callee:=⟨f68.args,f68.ta,f68.res,f68.tr,0,F68 N⟩
theorem ok68 (N:Nat):CalOK tab 68 (c68 N):=fn_ok (f68.ok0 N) fuelW 68 f68.args f68.ta f68.res f68.tr 0
namespace f35
def args:List PSh:=[.agg [.sl (.int .u8) .d,.int .i64]]
def ta:List Ty:=[(.sl (.int .u8)),.int .i64]
def res:List (Bool×List CSh):=[(true,[.sl (.int .u8) .d,.int .i64]),(true,[.int .u8,.int .i64,.int .i64,.int .i64]),(false,[.int .i64])]
def tr:List Ty:=[(.sl (.int .u8)),.int .i64,.int .u8,.int .i64,.int .i64,.int .i64,.int .i64]
def E0 (N:Nat):SEnv:=((SEnv.base tab cuts ccut bcut unr ety).addCal 64 (c64 N)).addCal 68 (c68 N)
theorem ok0 (N:Nat):EnvOK tab (E0 N):=((base_ok tab cuts ccut bcut unr ety).addCal (ok64 N)).addCal (ok68 N)
end f35
def F35 (N:Nat) (x:List Int×Int):Option (List Int×Int×Int×Int×Int×Int×Int):=fnRun (f35.E0 N) fuelW 35 f35.args f35.ta f35.res f35.tr 0 x
open f35 in
theorem F35_eq (N:Nat) (p0:List Int) (p1:Int):F35 N (p0,p1) =
 ((F64 N (p0,p1)).bind fun y0=>
 (bif (y0 != (0:Int))
 then some ([],(0:Int),(0:Int),(0:Int),(0:Int),(0:Int),(8:Int))
 else ((F68 N (p0,p1)).bind fun y1=>
 some (y1.1,y1.2.1,y1.2.2.1,y1.2.2.2.1,y1.2.2.2.2.1,y1.2.2.2.2.2.1,y1.2.2.2.2.2.2)))):=by kernel_rfl
def c35 (N:Nat):Sym.Callee:=⟨f35.args,f35.ta,f35.res,f35.tr,0,F35 N⟩
theorem ok35 (N:Nat):CalOK tab 35 (c35 N):=fn_ok (f35.ok0 N) fuelW 35 f35.args f35.ta f35.res f35.tr 0
namespace f76
def bcut:Nat→Nat→Option (Nat×Ty):=fun c i=>match c,i with
 |0,1=>some (15,.bool)
 |0,10=>some (60,.bool)
 |_,_=>none
def args:List PSh:=[.c (.sl TRun .bor),.c (.int .i64)]
def ta:List Ty:=[.sl TRun,.int .i64]
def res:List (Bool×List CSh):=[(false,[.bool])]
def tr:List Ty:=[.bool]
def E0 (N:Nat):SEnv:=SEnv.base tab cuts ccut bcut unr ety
theorem ok0 (N:Nat):EnvOK tab (E0 N):=base_ok tab cuts ccut bcut unr ety
def T0_6:Tmpl:=⟨[(0,.c (.sl TRun .bor)),(1,.c (.int .i64)),(5,.c (.int .i64))],[],[],1,[],0,[.sl TRun,.int .i64,.int .i64]⟩
def O0_6:Outs:=[(.ret,⟨[(4,.c (.bool))],[],[],1,[],0,[.bool]⟩),(.exit 0,⟨[],[],[],1,[],0,[]⟩)]
def L0_6 (N:Nat) (k:Nat) (x:List Run×Int×Int):Option (Bool⊕Unit):=loopF (loopStep (E0 N) fuelW 0 6 (bodyAt t76 6) T0_6 O0_6) k x
theorem L0_6_succ (N:Nat) (k:Nat) (v2:List Run) (v3:Int) (v4:Int):L0_6 N (k+1) (v2,v3,v4) =
 (bif (decide (v4<(v2.length:Int)))
 then (Option.bind (((idx v2 v4).bind fun x5=>
 (bif (decide (x5.1≥v3))
 then some true
 else (bif (decide (v4>(0:Int)))
 then ((idx v2 (wi64 (v4-(1:Int)))).bind fun x6=>
 ((idx v2 v4).bind fun x7=>
 (bif (decide (x6.1≥x7.1))
 then some true
 else ((idx v2 (wi64 (v4-(1:Int)))).bind fun x8=>
 ((idx v2 v4).bind fun x9=>
 some (x8.2==x9.2))))))
 else some false)))) fun b10=>
 (bif b10
 then some (Sum.inl false)
 else L0_6 N k (v2,v3,(wi64 (v4+(1:Int))))))
 else some (Sum.inr ())):=by kernel_rfl
def E1 (N:Nat):SEnv:=(E0 N).addLoop N 0 6 T0_6 O0_6
theorem ok1 (N:Nat):EnvOK tab (E1 N):=(ok0 N).addLoop N 0 6 T0_6 O0_6
end f76
def F76 (N:Nat) (x:List Run×Int):Option Bool:=fnRun (f76.E1 N) fuelW 76 f76.args f76.ta f76.res f76.tr 0 x
open f76 in
theorem F76_eq (N:Nat) (p0:List Run) (p1:Int):F76 N (p0,p1) =
 (Option.bind ((bif (decide ((p0.length:Int)<(1:Int)))
 then some true
 else ((idx p0 (0:Int)).bind fun x0=>
 some (x0.1 != (0:Int))))) fun b1=>
 (bif b1
 then some false
 else ((L0_6 N N (p0,p1,(0:Int))).bind fun y11=>
 (match y11 with
 |.inl a12=>some a12
 |.inr b13=>some true)))):=by kernel_rfl
def c76 (N:Nat):Sym.Callee:=⟨f76.args,f76.ta,f76.res,f76.tr,0,F76 N⟩
theorem ok76 (N:Nat):CalOK tab 76 (c76 N):=fn_ok (f76.ok1 N) fuelW 76 f76.args f76.ta f76.res f76.tr 0
namespace f96
def bcut:Nat→Nat→Option (Nat×Ty):=fun c i=>match c,i with
 |0,2=>some (32,.bool)
 |0,3=>some (9,(.int .i64))
 |_,_=>none
def ety:Nat→Nat→Option Ty:=fun c d=>match c,d with
 |0,72=>some TRun
 |_,_=>none
def args:List PSh:=[.agg [.sl (.int .u8) .d,.int .i64],.c (.int .i64)]
def ta:List Ty:=[(.sl (.int .u8)),.int .i64,.int .i64]
def res:List (Bool×List CSh):=[(true,[.sl (.int .u8) .d,.int .i64]),(false,[.sl TRun .d]),(false,[.int .i64])]
def tr:List Ty:=[(.sl (.int .u8)),.int .i64,.sl TRun,.int .i64]
def E0 (N:Nat):SEnv:=((SEnv.base tab cuts ccut bcut unr ety).addCal 65 (c65 N)).addCal 76 (c76 N)
theorem ok0 (N:Nat):EnvOK tab (E0 N):=((base_ok tab cuts ccut bcut unr ety).addCal (ok65 N)).addCal (ok76 N)
def T0_12:Tmpl:=⟨[(1,.c (.int .i64)),(4,.c (.ptr 0 4 0 0 0)),(7,.c (.ptr 0 7 1 0 0)),(8,.c (.int .u64)),(10,.c (.sl TRun (.app 2))),(11,.c (.int .u64)),(12,.c (.int .u64))],[],[(0,4,.box 0 [.nil true,.int .i64]),(0,7,.box 1 [.sl (.int .u8) .d,.int .i64])],1,[2],3,[.int .i64,.int .u64,.sl TRun,.int .u64,.int .u64,.int .i64,(.sl (.int .u8)),.int .i64]⟩
def O0_12:Outs:=[(.ret,⟨[(4,.c (.ptr 0 4 0 0 0)),(5,.c (.nil true)),(6,.c (.int .i64))],[],[(0,4,.box 0 [.nil true,.int .i64])],1,[],1,[.int .i64,.int .i64]⟩),(.exit 0,⟨[(1,.c (.int .i64)),(4,.c (.ptr 0 4 0 0 0)),(7,.c (.ptr 0 7 1 0 0)),(10,.c (.sl TRun (.app 2)))],[],[(0,4,.box 0 [.nil true,.int .i64]),(0,7,.box 1 [.sl (.int .u8) .d,.int .i64])],1,[2],3,[.int .i64,.sl TRun,.int .i64,(.sl (.int .u8)),.int .i64]⟩)]
def L0_12 (N:Nat) (k:Nat) (x:Int×Int×List Run×Int×Int×Int×List Int×Int):Option ((Int×Int)⊕(Int×List Run×Int×List Int×Int)):=loopF (loopStep (E0 N) fuelW 0 12 (bodyAt t96 12) T0_12 O0_12) k x
theorem L0_12_succ (N:Nat) (k:Nat) (v3:Int) (v4:Int) (v5:List Run) (v6:Int) (v7:Int) (v8:Int) (v9:List Int) (v10:Int):L0_12 N (k+1) (v3,v4,v5,v6,v7,v8,v9,v10) =
 (bif (decide (v7<v4))
 then ((F65 N (v9,v10)).bind fun y11=>
 (bif (y11.2.2.2 != (0:Int))
 then some (Sum.inl (y11.2.2.2,(0:Int)))
 else ((F65 N (y11.1,y11.2.1)).bind fun y12=>
 (bif (y12.2.2.2 != (0:Int))
 then some (Sum.inl (y12.2.2.2,(0:Int)))
 else (chk (room (v5.length+1) 16)
 (L0_12 N k (v3,v4,(v5++[((wi64 (min (wu64 (v6+(min y11.2.2.1 (1000:Int)))) (1000:Int))),y12.2.2.1)]),(min (wu64 (v6+(min y11.2.2.1 (1000:Int)))) (1000:Int)),(wu64 (v7+(1:Int))),v8,y12.1,y12.2.1)))))))
 else some (Sum.inr (v3,v5,v8,v9,v10))):=by kernel_rfl
def E1 (N:Nat):SEnv:=(E0 N).addLoop N 0 12 T0_12 O0_12
theorem ok1 (N:Nat):EnvOK tab (E1 N):=(ok0 N).addLoop N 0 12 T0_12 O0_12
end f96
def F96 (N:Nat) (x:List Int×Int×Int):Option (List Int×Int×List Run×Int):=fnRun (f96.E1 N) fuelW 96 f96.args f96.ta f96.res f96.tr 0 x
open f96 in
theorem F96_eq (N:Nat) (p0:List Int) (p1:Int) (p2:Int):F96 N (p0,p1,p2) =
 ((F65 N (p0,p1)).bind fun y0=>
 (Option.bind ((bif (y0.2.2.2==(0:Int))
 then some (decide (y0.2.2.1>(wu64 p2)))
 else some false)) fun b1=>
 (Option.bind ((bif b1
 then some (4:Int)
 else some y0.2.2.2)) fun b2=>
 (bif (b2 != (0:Int))
 then some ([],(0:Int),[],b2)
 else ((L0_12 N N (p2,y0.2.2.1,[],(0:Int),(0:Int),(0:Int),y0.1,y0.2.1)).bind fun y13=>
 (match y13 with
 |.inl a14=>some ([],a14.2,[],a14.1)
 |.inr b15=>((F76 N (b15.2.1,b15.1)).bind fun y16=>
 (bif (!y16)
 then some ([],(0:Int),[],(12:Int))
 else some (b15.2.2.2.1,b15.2.2.2.2,b15.2.1,(0:Int)))))))))):=by kernel_rfl
def c96 (N:Nat):Sym.Callee:=⟨f96.args,f96.ta,f96.res,f96.tr,0,F96 N⟩
theorem ok96 (N:Nat):CalOK tab 96 (c96 N):=fn_ok (f96.ok1 N) fuelW 96 f96.args f96.ta f96.res f96.tr 0
namespace f69
def bcut:Nat→Nat→Option (Nat×Ty):=fun c i=>match c,i with
 |0,4=>some (16,.bool)
 |_,_=>none
def args:List PSh:=[.agg [.sl (.int .u8) .d,.int .i64],.c (.int .i64)]
def ta:List Ty:=[(.sl (.int .u8)),.int .i64,.int .i64]
def res:List (Bool×List CSh):=[(true,[.sl (.int .u8) .d,.int .i64]),(false,[.sl TRun .d]),(false,[.int .i64])]
def tr:List Ty:=[(.sl (.int .u8)),.int .i64,.sl TRun,.int .i64]
def E0 (N:Nat):SEnv:=((SEnv.base tab cuts ccut bcut unr ety).addCal 64 (c64 N)).addCal 96 (c96 N)
theorem ok0 (N:Nat):EnvOK tab (E0 N):=((base_ok tab cuts ccut bcut unr ety).addCal (ok64 N)).addCal (ok96 N)
end f69
def F69 (N:Nat) (x:List Int×Int×Int):Option (List Int×Int×List Run×Int):=fnRun (f69.E0 N) fuelW 69 f69.args f69.ta f69.res f69.tr 0 x
open f69 in
theorem F69_eq (N:Nat) (p0:List Int) (p1:Int) (p2:Int):F69 N (p0,p1,p2) =
 ((F64 N (p0,p1)).bind fun y0=>
 (bif (y0 != (0:Int))
 then some ([],(0:Int),[],(8:Int))
 else (Option.bind ((bif (decide (p2<(1:Int)))
 then some true
 else some (decide (p2>(200:Int))))) fun b1=>
 (bif b1
 then some ([],(0:Int),[],(2:Int))
 else ((F96 N (p0,p1,p2)).bind fun y2=>
 some (y2.1,y2.2.1,y2.2.2.1,y2.2.2.2)))))):=by kernel_rfl
def c69 (N:Nat):Sym.Callee:=⟨f69.args,f69.ta,f69.res,f69.tr,0,F69 N⟩
theorem ok69 (N:Nat):CalOK tab 69 (c69 N):=fn_ok (f69.ok0 N) fuelW 69 f69.args f69.ta f69.res f69.tr 0
namespace f36
def args:List PSh:=[.box [.sl (.int .u8) .d,.int .i64,.bool],.c (.int .i64)]
def ta:List Ty:=[(.sl (.int .u8)),.int .i64,.bool,.int .i64]
def res:List (Bool×List CSh):=[(true,[.sl (.int .u8) .d,.int .i64,.bool]),(false,[.sl TRun .d])]
def tr:List Ty:=[(.sl (.int .u8)),.int .i64,.bool,.sl TRun]
def E0 (N:Nat):SEnv:=(SEnv.base tab cuts ccut bcut unr ety).addCal 69 (c69 N)
theorem ok0 (N:Nat):EnvOK tab (E0 N):=(base_ok tab cuts ccut bcut unr ety).addCal (ok69 N)
end f36
def F36 (N:Nat) (x:List Int×Int×Bool×Int):Option (List Int×Int×Bool×List Run):=fnRun (f36.E0 N) fuelW 36 f36.args f36.ta f36.res f36.tr 0 x
open f36 in
theorem F36_eq (N:Nat) (p0:List Int) (p1:Int) (p2:Bool) (p3:Int):F36 N (p0,p1,p2,p3) =
 (bif p2
 then some (p0,p1,p2,[])
 else ((F69 N (p0,p1,p3)).bind fun y0=>
 (bif (y0.2.2.2 != (0:Int))
 then some (p0,p1,true,[])
 else some (y0.1,y0.2.1,p2,y0.2.2.1)))):=by kernel_rfl
def c36 (N:Nat):Sym.Callee:=⟨f36.args,f36.ta,f36.res,f36.tr,0,F36 N⟩
theorem ok36 (N:Nat):CalOK tab 36 (c36 N):=fn_ok (f36.ok0 N) fuelW 36 f36.args f36.ta f36.res f36.tr 0
namespace f15
def bcut:Nat→Nat→Option (Nat×Ty):=fun c i=>match c,i with
 |0,9=>some (32,.bool)
 |_,_=>none
def ety:Nat→Nat→Option Ty:=fun c d=>match c,d with
 |0,56=>some TInstr
 |_,_=>none
def args:List PSh:=[.box [.sl (.int .u8) .d,.int .i64,.bool]]
def ta:List Ty:=[(.sl (.int .u8)),.int .i64,.bool]
def res:List (Bool×List CSh):=[(true,[.sl (.int .u8) .d,.int .i64,.bool]),(true,[.str,.int .i64,.int .i64,.sl TField .d,.sl TInstr .d,.sl TRun .d,.sl TRun .d])]
def tr:List Ty:=[(.sl (.int .u8)),.int .i64,.bool,.str,.int .i64,.int .i64,.sl TField,.sl TInstr,.sl TRun,.sl TRun]
def E0 (N:Nat):SEnv:=((((((SEnv.base tab cuts ccut bcut unr ety).addCal 14 (c14 N)).addCal 12 (c12 N)).addCal 34 (c34 N)).addCal 32 (c32 N)).addCal 35 (c35 N)).addCal 36 (c36 N)
theorem ok0 (N:Nat):EnvOK tab (E0 N):=((((((base_ok tab cuts ccut bcut unr ety).addCal (ok14 N)).addCal (ok12 N)).addCal (ok34 N)).addCal (ok32 N)).addCal (ok35 N)).addCal (ok36 N)
def T0_8:Tmpl:=⟨[(0,.c (.ptr 0 0 0 0 0)),(2,.c (.ptr 1 2 1 0 0)),(3,.c (.ptr 1 3 2 0 0)),(4,.c (.int .i64)),(5,.c (.int .i64))],[[(0,.c (.ptr 0 0 0 0 0))]],[(0,0,.box 0 [.sl (.int .u8) .d,.int .i64,.bool]),(1,2,.box 1 [.str,.int .i64,.int .i64,.nil true,.nil true,.nil true,.nil true]),(1,3,.box 2 [.str,.int .i64,.int .i64,.sl TField .d,.sl TInstr (.app 3),.nil true,.nil true])],2,[3],4,[.int .i64,.int .i64,(.sl (.int .u8)),.int .i64,.bool,.str,.int .i64,.int .i64,.str,.int .i64,.int .i64,.sl TField,.sl TInstr]⟩
def O0_8:Outs:=[(.exit 0,⟨[(0,.c (.ptr 0 0 0 0 0)),(2,.c (.ptr 1 2 1 0 0)),(3,.c (.ptr 1 3 2 0 0))],[[(0,.c (.ptr 0 0 0 0 0))]],[(0,0,.box 0 [.sl (.int .u8) .d,.int .i64,.bool]),(1,2,.box 1 [.str,.int .i64,.int .i64,.nil true,.nil true,.nil true,.nil true]),(1,3,.box 2 [.str,.int .i64,.int .i64,.sl TField .d,.sl TInstr (.app 3),.nil true,.nil true])],2,[3],4,[(.sl (.int .u8)),.int .i64,.bool,.str,.int .i64,.int .i64,.str,.int .i64,.int .i64,.sl TField,.sl TInstr]⟩)]
def L0_8 (N:Nat) (k:Nat) (x:Int×Int×List Int×Int×Bool×List UInt8×Int×Int×List UInt8×Int×Int×List Field×List Instr):Option ((List Int×Int×Bool×List UInt8×Int×Int×List UInt8×Int×Int×List Field×List Instr)):=loopF (loopStep (E0 N) fuelW 0 8 (bodyAt t15 8) T0_8 O0_8) k x
theorem L0_8_succ (N:Nat) (k:Nat) (v5:Int) (v6:Int) (v7:List Int) (v8:Int) (v9:Bool) (v10:List UInt8) (v11:Int) (v12:Int) (v13:List UInt8) (v14:Int) (v15:Int) (v16:List Field) (v17:List Instr):L0_8 N (k+1) (v5,v6,v7,v8,v9,v10,v11,v12,v13,v14,v15,v16,v17) =
 (Option.bind ((bif (decide (v6<v5))
 then some (!v9)
 else some false)) fun b18=>
 (bif b18
 then ((F35 N (v7,v8)).bind fun y19=>
 (bif (y19.2.2.2.2.2.2 != (0:Int))
 then L0_8 N k (v5,(wi64 (v6+(1:Int))),v7,v8,true,v10,v11,v12,v13,v14,v15,v16,v17)
 else (chk (room (v17.length+1) 32)
 (L0_8 N k (v5,(wi64 (v6+(1:Int))),y19.1,y19.2.1,v9,v10,v11,v12,v13,v14,v15,v16,(v17++[(y19.2.2.1,y19.2.2.2.1,y19.2.2.2.2.1,y19.2.2.2.2.2.1)]))))))
 else some (v7,v8,v9,v10,v11,v12,v13,v14,v15,v16,v17))):=by kernel_rfl
def E1 (N:Nat):SEnv:=(E0 N).addLoop N 0 8 T0_8 O0_8
theorem ok1 (N:Nat):EnvOK tab (E1 N):=(ok0 N).addLoop N 0 8 T0_8 O0_8
end f15
def F15 (N:Nat) (x:List Int×Int×Bool):Option (List Int×Int×Bool×List UInt8×Int×Int×List Field×List Instr×List Run×List Run):=fnRun (f15.E1 N) fuelW 15 f15.args f15.ta f15.res f15.tr 0 x
open f15 in
theorem F15_eq (N:Nat) (p0:List Int) (p1:Int) (p2:Bool):F15 N (p0,p1,p2) =
 ((F14 N (p0,p1,p2,(100:Int))).bind fun y0=>
 ((F12 N (y0.1,y0.2.1,y0.2.2.1,(100:Int))).bind fun y1=>
 ((F34 N (y1.1,y1.2.1,y1.2.2.1)).bind fun y2=>
 ((F32 N (y2.1,y2.2.1,y2.2.2.1)).bind fun y3=>
 ((F12 N (y3.1,y3.2.1,y3.2.2.1,(1000:Int))).bind fun y4=>
 ((L0_8 N N (y4.2.2.2,(0:Int),y4.1,y4.2.1,y4.2.2.1,([]:List UInt8),(0:Int),(0:Int),y0.2.2.2,y1.2.2.2,y2.2.2.2,y3.2.2.2,[])).bind fun y20=>
 ((F36 N (y20.1,y20.2.1,y20.2.2.1,(y20.2.2.2.2.2.2.2.2.2.2.length:Int))).bind fun y21=>
 ((F36 N (y21.1,y21.2.1,y21.2.2.1,(y20.2.2.2.2.2.2.2.2.2.2.length:Int))).bind fun y22=>
 some (y22.1,y22.2.1,y22.2.2.1,y20.2.2.2.2.2.2.1,y20.2.2.2.2.2.2.2.1,y20.2.2.2.2.2.2.2.2.1,y20.2.2.2.2.2.2.2.2.2.1,y20.2.2.2.2.2.2.2.2.2.2,y21.2.2.2,y22.2.2.2))))))))):=by kernel_rfl
def c15 (N:Nat):Sym.Callee:=⟨f15.args,f15.ta,f15.res,f15.tr,0,F15 N⟩
theorem ok15 (N:Nat):CalOK tab 15 (c15 N):=fn_ok (f15.ok1 N) fuelW 15 f15.args f15.ta f15.res f15.tr 0
namespace f99
def bcut:Nat→Nat→Option (Nat×Ty):=fun c i=>match c,i with
 |0,1=>some (2,.bool)
 |_,_=>none
def args:List PSh:=[.c (.int .u8)]
def ta:List Ty:=[.int .u8]
def res:List (Bool×List CSh):=[(false,[.bool])]
def tr:List Ty:=[.bool]
def E0 (N:Nat):SEnv:=SEnv.base tab cuts ccut bcut unr ety
theorem ok0 (N:Nat):EnvOK tab (E0 N):=base_ok tab cuts ccut bcut unr ety
end f99
def F99 (N:Nat) (x:Int):Option Bool:=fnRun (f99.E0 N) fuelW 99 f99.args f99.ta f99.res f99.tr 0 x
open f99 in
theorem F99_eq (N:Nat) (p0:Int):F99 N p0 =
 (Option.bind ((bif (decide (p0≥(97:Int)))
 then (bif (decide (p0≤(122:Int)))
 then some true
 else (bif (decide (p0≥(65:Int)))
 then some (decide (p0≤(90:Int)))
 else some false))
 else (bif (decide (p0≥(65:Int)))
 then some (decide (p0≤(90:Int)))
 else some false))) fun b0=>
 some b0):=by kernel_rfl
def c99 (N:Nat):Sym.Callee:=⟨f99.args,f99.ta,f99.res,f99.tr,0,F99 N⟩
theorem ok99 (N:Nat):CalOK tab 99 (c99 N):=fn_ok (f99.ok0 N) fuelW 99 f99.args f99.ta f99.res f99.tr 0
namespace f73
def bcut:Nat→Nat→Option (Nat×Ty):=fun c i=>match c,i with
 |0,1=>some (17,.bool)
 |0,10=>some (40,.bool)
 |_,_=>none
def args:List PSh:=[.c (.str)]
def ta:List Ty:=[.str]
def res:List (Bool×List CSh):=[(false,[.bool])]
def tr:List Ty:=[.bool]
def E0 (N:Nat):SEnv:=(SEnv.base tab cuts ccut bcut unr ety).addCal 99 (c99 N)
theorem ok0 (N:Nat):EnvOK tab (E0 N):=(base_ok tab cuts ccut bcut unr ety).addCal (ok99 N)
def T0_6:Tmpl:=⟨[(0,.c (.str)),(3,.c (.int .i64))],[],[],1,[],0,[.str,.int .i64]⟩
def O0_6:Outs:=[(.ret,⟨[(2,.c (.bool))],[],[],1,[],0,[.bool]⟩),(.exit 0,⟨[],[],[],1,[],0,[]⟩)]
def L0_6 (N:Nat) (k:Nat) (x:List UInt8×Int):Option (Bool⊕Unit):=loopF (loopStep (E0 N) fuelW 0 6 (bodyAt t73 6) T0_6 O0_6) k x
theorem L0_6_succ (N:Nat) (k:Nat) (v3:List UInt8) (v4:Int):L0_6 N (k+1) (v3,v4) =
 (bif (decide (v4<(v3.length:Int)))
 then (Option.bind (((idx v3 v4).bind fun c5=>
 ((F99 N (c5.toNat:Int)).bind fun y6=>
 (bif (!y6)
 then ((idx v3 v4).bind fun c7=>
 (bif (decide ((c7.toNat:Int)<(48:Int)))
 then some true
 else ((idx v3 v4).bind fun c8=>
 some (decide ((c8.toNat:Int)>(57:Int))))))
 else some false)))) fun b9=>
 (bif b9
 then some (Sum.inl false)
 else L0_6 N k (v3,(wi64 (v4+(1:Int))))))
 else some (Sum.inr ())):=by kernel_rfl
def E1 (N:Nat):SEnv:=(E0 N).addLoop N 0 6 T0_6 O0_6
theorem ok1 (N:Nat):EnvOK tab (E1 N):=(ok0 N).addLoop N 0 6 T0_6 O0_6
end f73
def F73 (N:Nat) (x:List UInt8):Option Bool:=fnRun (f73.E1 N) fuelW 73 f73.args f73.ta f73.res f73.tr 0 x
open f73 in
theorem F73_eq (N:Nat) (p0:List UInt8):F73 N p0 =
 (Option.bind ((bif (decide ((p0.length:Int)<(1:Int)))
 then some true
 else (bif (decide ((p0.length:Int)>(16:Int)))
 then some true
 else ((idx p0 (0:Int)).bind fun c0=>
 ((F99 N (c0.toNat:Int)).bind fun y1=>
 some (!y1)))))) fun b2=>
 (bif b2
 then some false
 else ((L0_6 N N (p0,(0:Int))).bind fun y10=>
 (match y10 with
 |.inl a11=>some a11
 |.inr b12=>some true)))):=by kernel_rfl
def c73 (N:Nat):Sym.Callee:=⟨f73.args,f73.ta,f73.res,f73.tr,0,F73 N⟩
theorem ok73 (N:Nat):CalOK tab 73 (c73 N):=fn_ok (f73.ok1 N) fuelW 73 f73.args f73.ta f73.res f73.tr 0
namespace f74
def args:List PSh:=[.c (.sl TField .bor),.c (.int .i64)]
def ta:List Ty:=[.sl TField,.int .i64]
def res:List (Bool×List CSh):=[(false,[.bool])]
def tr:List Ty:=[.bool]
def E0 (N:Nat):SEnv:=(SEnv.base tab cuts ccut bcut unr ety).addCal 73 (c73 N)
theorem ok0 (N:Nat):EnvOK tab (E0 N):=(base_ok tab cuts ccut bcut unr ety).addCal (ok73 N)
def T0_15:Tmpl:=⟨[(0,.c (.sl TField .bor)),(5,.c (.int .i64)),(6,.c (.int .i64))],[],[],1,[],0,[.sl TField,.int .i64,.int .i64]⟩
def O0_15:Outs:=[(.ret,⟨[(4,.c (.bool))],[],[],1,[],0,[.bool]⟩),(.exit 2,⟨[(0,.c (.sl TField .bor)),(5,.c (.int .i64))],[],[],1,[],0,[.sl TField,.int .i64]⟩)]
def L0_15 (N:Nat) (k:Nat) (x:List Field×Int×Int):Option (Bool⊕(List Field×Int)):=loopF (loopStep (E0 N) fuelW 0 15 (bodyAt t74 15) T0_15 O0_15) k x
theorem L0_15_succ (N:Nat) (k:Nat) (v4:List Field) (v5:Int) (v6:Int):L0_15 N (k+1) (v4,v5,v6) =
 (bif (decide (v6<v5))
 then ((idx v4 v6).bind fun x7=>
 ((idx v4 v5).bind fun x8=>
 (bif (x7.1==x8.1)
 then some (Sum.inl false)
 else L0_15 N k (v4,v5,(wi64 (v6+(1:Int)))))))
 else some (Sum.inr (v4,v5))):=by kernel_rfl
def E1 (N:Nat):SEnv:=(E0 N).addLoop N 0 15 T0_15 O0_15
theorem ok1 (N:Nat):EnvOK tab (E1 N):=(ok0 N).addLoop N 0 15 T0_15 O0_15
def T0_6:Tmpl:=⟨[(0,.c (.sl TField .bor)),(5,.c (.int .i64))],[],[],1,[],0,[.sl TField,.int .i64]⟩
def O0_6:Outs:=[(.ret,⟨[(4,.c (.bool))],[],[],1,[],0,[.bool]⟩),(.exit 0,⟨[],[],[],1,[],0,[]⟩)]
def L0_6 (N:Nat) (k:Nat) (x:List Field×Int):Option (Bool⊕Unit):=loopF (loopStep (E1 N) fuelW 0 6 (bodyAt t74 6) T0_6 O0_6) k x
theorem L0_6_succ (N:Nat) (k:Nat) (v0:List Field) (v1:Int):L0_6 N (k+1) (v0,v1) =
 (bif (decide (v1<(v0.length:Int)))
 then ((idx v0 v1).bind fun x2=>
 ((F73 N x2.1).bind fun y3=>
 (bif (!y3)
 then some (Sum.inl false)
 else ((L0_15 N N (v0,v1,(0:Int))).bind fun y9=>
 (match y9 with
 |.inl a10=>some (Sum.inl a10)
 |.inr b11=>L0_6 N k (b11.1,(wi64 (b11.2+(1:Int)))))))))
 else some (Sum.inr ())):=by kernel_rfl
def E2 (N:Nat):SEnv:=(E1 N).addLoop N 0 6 T0_6 O0_6
theorem ok2 (N:Nat):EnvOK tab (E2 N):=(ok1 N).addLoop N 0 6 T0_6 O0_6
end f74
def F74 (N:Nat) (x:List Field×Int):Option Bool:=fnRun (f74.E2 N) fuelW 74 f74.args f74.ta f74.res f74.tr 0 x
open f74 in
theorem F74_eq (N:Nat) (p0:List Field) (p1:Int):F74 N (p0,p1) =
 (bif (decide ((p0.length:Int)>p1))
 then some false
 else ((L0_6 N N (p0,(0:Int))).bind fun y12=>
 (match y12 with
 |.inl a13=>some a13
 |.inr b14=>some true))):=by kernel_rfl
def c74 (N:Nat):Sym.Callee:=⟨f74.args,f74.ta,f74.res,f74.tr,0,F74 N⟩
theorem ok74 (N:Nat):CalOK tab 74 (c74 N):=fn_ok (f74.ok2 N) fuelW 74 f74.args f74.ta f74.res f74.tr 0
namespace f70
def bcut:Nat→Nat→Option (Nat×Ty):=fun c i=>match c,i with
 |0,7=>some (13,.bool)
 |0,5=>some (13,.bool)
 |0,10=>some (4,.bool)
 |0,12=>some (31,.bool)
 |0,15=>some (4,.bool)
 |0,18=>some (4,.bool)
 |0,27=>some (107,.bool)
 |0,31=>some (4,.bool)
 |_,_=>none
def args:List PSh:=[.c (.sl TGType .bor),.c (.int .i64)]
def ta:List Ty:=[.sl TGType,.int .i64]
def res:List (Bool×List CSh):=[(false,[.bool])]
def tr:List Ty:=[.bool]
def E0 (N:Nat):SEnv:=(SEnv.base tab cuts ccut bcut unr ety).addCal 74 (c74 N)
theorem ok0 (N:Nat):EnvOK tab (E0 N):=(base_ok tab cuts ccut bcut unr ety).addCal (ok74 N)
def T0_23:Tmpl:=⟨[(1,.c (.int .i64)),(5,.c (.ptr 0 5 0 0 0)),(6,.c (.int .i64))],[],[(0,5,.box 0 [.int .u8,.int .i64,.int .i64,.sl TField .d])],1,[],1,[.int .i64,.int .i64,.int .u8,.int .i64,.int .i64,.sl TField]⟩
def O0_23:Outs:=[(.ret,⟨[(4,.c (.bool))],[],[],1,[],0,[.bool]⟩),(.exit 1,⟨[(5,.c (.ptr 0 5 0 0 0))],[],[(0,5,.box 0 [.int .u8,.int .i64,.int .i64,.sl TField .d])],1,[],1,[.int .u8,.int .i64,.int .i64,.sl TField]⟩)]
def L0_23 (N:Nat) (k:Nat) (x:Int×Int×Int×Int×Int×List Field):Option (Bool⊕(Int×Int×Int×List Field)):=loopF (loopStep (E0 N) fuelW 0 23 (bodyAt t70 23) T0_23 O0_23) k x
theorem L0_23_succ (N:Nat) (k:Nat) (v7:Int) (v8:Int) (v9:Int) (v10:Int) (v11:Int) (v12:List Field):L0_23 N (k+1) (v7,v8,v9,v10,v11,v12) =
 (bif (decide (v8<(v12.length:Int)))
 then (Option.bind (((idx v12 v8).bind fun x13=>
 (bif (decide (x13.2<(0:Int)))
 then some true
 else ((idx v12 v8).bind fun x14=>
 some (decide (x14.2≥v7)))))) fun b15=>
 (bif b15
 then some (Sum.inl false)
 else L0_23 N k (v7,(wi64 (v8+(1:Int))),v9,v10,v11,v12)))
 else some (Sum.inr (v9,v10,v11,v12))):=by kernel_rfl
def E1 (N:Nat):SEnv:=(E0 N).addLoop N 0 23 T0_23 O0_23
theorem ok1 (N:Nat):EnvOK tab (E1 N):=(ok0 N).addLoop N 0 23 T0_23 O0_23
end f70
def F70 (N:Nat) (x:List GType×Int):Option Bool:=fnRun (f70.E1 N) fuelW 70 f70.args f70.ta f70.res f70.tr 0 x
open f70 in
theorem F70_eq (N:Nat) (p0:List GType) (p1:Int):F70 N (p0,p1) =
 ((idx p0 p1).bind fun x0=>
 (Option.bind ((bif (x0.1==(1:Int))
 then some true
 else (Option.bind ((bif (x0.1==(2:Int))
 then some true
 else some (x0.1==(3:Int)))) fun b1=>
 some b1))) fun b2=>
 (bif b2
 then (Option.bind ((bif (x0.2.1==(0:Int))
 then (bif (x0.2.2.1==(0:Int))
 then some ((x0.2.2.2.length:Int)==(0:Int))
 else some false)
 else some false)) fun b3=>
 some b3)
 else (Option.bind ((bif (x0.1==(4:Int))
 then some true
 else some (x0.1==(7:Int)))) fun b4=>
 (bif b4
 then (Option.bind ((bif (decide (x0.2.1≥(0:Int)))
 then (bif (decide (x0.2.1<(p0.length:Int)))
 then (bif (x0.2.2.1==(0:Int))
 then some ((x0.2.2.2.length:Int)==(0:Int))
 else some false)
 else some false)
 else some false)) fun b5=>
 some b5)
 else (bif (x0.1==(6:Int))
 then (Option.bind ((bif (decide (x0.2.1≥(0:Int)))
 then (bif (decide (x0.2.1<p1))
 then (bif (decide (x0.2.2.1≥(1:Int)))
 then (bif (decide (x0.2.2.1≤(16:Int)))
 then some ((x0.2.2.2.length:Int)==(0:Int))
 else some false)
 else some false)
 else some false)
 else some false)) fun b6=>
 some b6)
 else (bif (x0.1==(5:Int))
 then ((L0_23 N N (p1,(0:Int),x0.1,x0.2.1,x0.2.2.1,x0.2.2.2)).bind fun y16=>
 (match y16 with
 |.inl a17=>some a17
 |.inr b18=>(Option.bind ((bif (b18.2.1==(0:Int))
 then (bif (b18.2.2.1==(0:Int))
 then (bif (decide ((b18.2.2.2.length:Int)>(0:Int)))
 then ((F74 N (b18.2.2.2,(8:Int))).bind fun y19=>
 some y19)
 else some false)
 else some false)
 else some false)) fun b20=>
 some b20)))
 else some false))))))):=by kernel_rfl
def c70 (N:Nat):Sym.Callee:=⟨f70.args,f70.ta,f70.res,f70.tr,0,F70 N⟩
theorem ok70 (N:Nat):CalOK tab 70 (c70 N):=fn_ok (f70.ok1 N) fuelW 70 f70.args f70.ta f70.res f70.tr 0
namespace f97
def ety:Nat→Nat→Option Ty:=fun c d=>match c,d with
 |0,11=>some (.int .i64)
 |0,27=>some (.int .i64)
 |_,_=>none
def args:List PSh:=[.agg [.int .u8,.int .i64,.int .i64,.sl TField .bor]]
def ta:List Ty:=[.int .u8,.int .i64,.int .i64,.sl TField]
def res:List (Bool×List CSh):=[(false,[.sl (.int .i64) .d])]
def tr:List Ty:=[(.sl (.int .i64))]
def E0 (N:Nat):SEnv:=SEnv.base tab cuts ccut bcut unr ety
theorem ok0 (N:Nat):EnvOK tab (E0 N):=base_ok tab cuts ccut bcut unr ety
def T0_7:Tmpl:=⟨[(1,.c (.ptr 0 1 0 0 0)),(3,.c (.sl (.int .i64) (.app 1))),(4,.c (.int .i64))],[],[(0,1,.box 0 [.int .u8,.int .i64,.int .i64,.sl TField .bor])],1,[1],2,[(.sl (.int .i64)),.int .i64,.int .u8,.int .i64,.int .i64,.sl TField]⟩
def O0_7:Outs:=[(.exit 0,⟨[(3,.c (.sl (.int .i64) (.app 0)))],[],[],1,[0],1,[(.sl (.int .i64))]⟩)]
def L0_7 (N:Nat) (k:Nat) (x:List Int×Int×Int×Int×Int×List Field):Option ((List Int)):=loopF (loopStep (E0 N) fuelW 0 7 (bodyAt t97 7) T0_7 O0_7) k x
theorem L0_7_succ (N:Nat) (k:Nat) (v0:List Int) (v1:Int) (v2:Int) (v3:Int) (v4:Int) (v5:List Field):L0_7 N (k+1) (v0,v1,v2,v3,v4,v5) =
 (bif (decide (v1<(v5.length:Int)))
 then ((idx v5 v1).bind fun x6=>
 (chk (room (v0.length+1) 8)
 (L0_7 N k ((v0++[x6.2]),(wi64 (v1+(1:Int))),v2,v3,v4,v5))))
 else some v0):=by kernel_rfl
def E1 (N:Nat):SEnv:=(E0 N).addLoop N 0 7 T0_7 O0_7
theorem ok1 (N:Nat):EnvOK tab (E1 N):=(ok0 N).addLoop N 0 7 T0_7 O0_7
end f97
def F97 (N:Nat) (x:Int×Int×Int×List Field):Option (List Int):=fnRun (f97.E1 N) fuelW 97 f97.args f97.ta f97.res f97.tr 0 x
open f97 in
theorem F97_eq (N:Nat) (p0:Int) (p1:Int) (p2:Int) (p3:List Field):F97 N (p0,p1,p2,p3) =
 (bif (p0==(6:Int))
 then (chk (room 1 8)
 (((L0_7 N N ([p1],(0:Int),p0,p1,p2,p3)).bind fun y7=>
 some y7)))
 else ((L0_7 N N ([],(0:Int),p0,p1,p2,p3)).bind fun y8=>
 some y8)):=by kernel_rfl
def c97 (N:Nat):Sym.Callee:=⟨f97.args,f97.ta,f97.res,f97.tr,0,F97 N⟩
theorem ok97 (N:Nat):CalOK tab 97 (c97 N):=fn_ok (f97.ok1 N) fuelW 97 f97.args f97.ta f97.res f97.tr 0
namespace f71
def bcut:Nat→Nat→Option (Nat×Ty):=fun c i=>match c,i with
 |0,21=>some (11,(.int .i64))
 |0,25=>some (67,.bool)
 |0,26=>some (8,(.int .i64))
 |0,28=>some (88,.bool)
 |0,29=>some (8,(.int .i64))
 |_,_=>none
def ety:Nat→Nat→Option Ty:=fun c d=>match c,d with
 |0,103=>some (.int .i64)
 |_,_=>none
def args:List PSh:=[.c (.sl TGType .bor),.c (.int .i64)]
def ta:List Ty:=[.sl TGType,.int .i64]
def res:List (Bool×List CSh):=[(false,[.sl (.int .i64) .d])]
def tr:List Ty:=[(.sl (.int .i64))]
def E0 (N:Nat) (R:(List GType×Int)→Option (List Int)):SEnv:=((SEnv.base tab cuts ccut bcut unr ety).addCal 97 (c97 N)).addCal 71 ⟨args,ta,res,tr,0,R⟩
theorem ok0 (N:Nat) (R:(List GType×Int)→Option (List Int)) (hR:CalOK tab 71 ⟨args,ta,res,tr,0,R⟩):EnvOK tab (E0 N R):=((base_ok tab cuts ccut bcut unr ety).addCal (ok97 N)).addCal hR
def T0_15:Tmpl:=⟨[(0,.c (.sl TGType .bor)),(1,.c (.int .i64)),(5,.c (.sl (.int .i64) .d)),(6,.c (.sl (.int .i64) (.app 0))),(7,.c (.int .i64)),(8,.c (.int .i64)),(9,.c (.sl (.int .i64) .d)),(10,.c (.int .i64))],[],[],1,[0],1,[.sl TGType,.int .i64,(.sl (.int .i64)),(.sl (.int .i64)),.int .i64,.int .i64,(.sl (.int .i64)),.int .i64]⟩
def O0_15:Outs:=[(.exit 2,⟨[(0,.c (.sl TGType .bor)),(1,.c (.int .i64)),(5,.c (.sl (.int .i64) .d)),(6,.c (.sl (.int .i64) (.app 0))),(7,.c (.int .i64)),(8,.c (.int .i64))],[],[],1,[0],1,[.sl TGType,.int .i64,(.sl (.int .i64)),(.sl (.int .i64)),.int .i64,.int .i64]⟩)]
def L0_15 (N:Nat) (R:(List GType×Int)→Option (List Int)) (k:Nat) (x:List GType×Int×List Int×List Int×Int×Int×List Int×Int):Option ((List GType×Int×List Int×List Int×Int×Int)):=loopF (loopStep (E0 N R) fuelW 0 15 (bodyAt t71 15) T0_15 O0_15) k x
theorem L0_15_succ (N:Nat) (R:(List GType×Int)→Option (List Int)) (k:Nat) (v8:List GType) (v9:Int) (v10:List Int) (v11:List Int) (v12:Int) (v13:Int) (v14:List Int) (v15:Int):L0_15 N R (k+1) (v8,v9,v10,v11,v12,v13,v14,v15) =
 (bif (decide (v15<(v14.length:Int)))
 then ((idx v8 v12).bind fun x16=>
 (Option.bind ((bif (x16.1==(6:Int))
 then ((idx v8 v12).bind fun x17=>
 some x17.2.2.1)
 else some (1:Int))) fun b18=>
 ((idx v14 v15).bind fun x19=>
 ((idx v11 x19).bind fun x20=>
 L0_15 N R k (v8,v9,v10,v11,v12,(min (wi64 (v13+(wi64 (b18*x20)))) (5001:Int)),v14,(wi64 (v15+(1:Int))))))))
 else some (v8,v9,v10,v11,v12,v13)):=by kernel_rfl
def E1 (N:Nat) (R:(List GType×Int)→Option (List Int)):SEnv:=(E0 N R).addLoop N 0 15 T0_15 O0_15
theorem ok1 (N:Nat) (R:(List GType×Int)→Option (List Int)) (hR:CalOK tab 71 ⟨args,ta,res,tr,0,R⟩):EnvOK tab (E1 N R):=(ok0 N R hR).addLoop N 0 15 T0_15 O0_15
def T0_8:Tmpl:=⟨[(0,.c (.sl TGType .bor)),(1,.c (.int .i64)),(5,.c (.sl (.int .i64) .d)),(6,.c (.sl (.int .i64) (.app 0))),(7,.c (.int .i64))],[],[],1,[0],1,[.sl TGType,.int .i64,(.sl (.int .i64)),(.sl (.int .i64)),.int .i64]⟩
def O0_8:Outs:=[(.exit 0,⟨[(6,.c (.sl (.int .i64) (.app 0)))],[],[],1,[0],1,[(.sl (.int .i64))]⟩)]
def L0_8 (N:Nat) (R:(List GType×Int)→Option (List Int)) (k:Nat) (x:List GType×Int×List Int×List Int×Int):Option ((List Int)):=loopF (loopStep (E1 N R) fuelW 0 8 (bodyAt t71 8) T0_8 O0_8) k x
theorem L0_8_succ (N:Nat) (R:(List GType×Int)→Option (List Int)) (k:Nat) (v1:List GType) (v2:Int) (v3:List Int) (v4:List Int) (v5:Int):L0_8 N R (k+1) (v1,v2,v3,v4,v5) =
 (bif (decide (v5<(v1.length:Int)))
 then ((idx v1 v5).bind fun x6=>
 ((F97 N (x6.1,x6.2.1,x6.2.2.1,x6.2.2.2)).bind fun y7=>
 ((L0_15 N R N (v1,v2,v3,v4,v5,(1:Int),y7,(0:Int))).bind fun y21=>
 (Option.bind ((bif (decide (y21.2.1>(0:Int)))
 then ((idx y21.1 y21.2.2.2.2.1).bind fun x22=>
 some (x22.1==(4:Int)))
 else some false)) fun b23=>
 (Option.bind ((bif b23
 then ((idx y21.1 y21.2.2.2.2.1).bind fun x24=>
 ((idx y21.2.2.1 x24.2.1).bind fun x25=>
 some (min (wi64 (y21.2.2.2.2.2+x25)) (5001:Int))))
 else some y21.2.2.2.2.2)) fun b26=>
 (Option.bind ((bif (decide (y21.2.1>(0:Int)))
 then ((idx y21.1 y21.2.2.2.2.1).bind fun x27=>
 some (x27.1==(7:Int)))
 else some false)) fun b28=>
 (Option.bind ((bif b28
 then ((idx y21.1 y21.2.2.2.2.1).bind fun x29=>
 ((idx y21.2.2.1 x29.2.1).bind fun x30=>
 some (min (wi64 (b26+(wi64 ((16:Int)*x30)))) (5001:Int))))
 else some b26)) fun b31=>
 (chk (room (y21.2.2.2.1.length+1) 8)
 (L0_8 N R k (y21.1,y21.2.1,y21.2.2.1,(y21.2.2.2.1++[b31]),(wi64 (y21.2.2.2.2.1+(1:Int)))))))))))))
 else some v4):=by kernel_rfl
def E2 (N:Nat) (R:(List GType×Int)→Option (List Int)):SEnv:=(E1 N R).addLoop N 0 8 T0_8 O0_8
theorem ok2 (N:Nat) (R:(List GType×Int)→Option (List Int)) (hR:CalOK tab 71 ⟨args,ta,res,tr,0,R⟩):EnvOK tab (E2 N R):=(ok1 N R hR).addLoop N 0 8 T0_8 O0_8
end f71
def F71 (N:Nat) (x:List GType×Int):Option (List Int):=fixF (fun N R x=>fnRun (f71.E2 N R) fuelW 71 f71.args f71.ta f71.res f71.tr 0 x) N x
open f71 in
theorem F71_eq (N:Nat) (p0:List GType) (p1:Int):F71 (N+1) (p0,p1) =
 (bif (decide (p1>(0:Int)))
 then ((F71 N (p0,(wi64 (p1-(1:Int))))).bind fun y0=>
 ((L0_8 N (F71 N) N (p0,p1,y0,[],(0:Int))).bind fun y32=>
 some y32))
 else ((L0_8 N (F71 N) N (p0,p1,[],[],(0:Int))).bind fun y33=>
 some y33)):=by kernel_rfl
def c71 (N:Nat):Sym.Callee:=⟨f71.args,f71.ta,f71.res,f71.tr,0,F71 N⟩
theorem ok71:∀ N:Nat,CalOK tab 71 (c71 N)
 |0=>calOK_zero fun _=>rfl
 |N+1=>fn_ok (f71.ok2 N (F71 N) (ok71 N)) fuelW 71 f71.args f71.ta f71.res f71.tr 0
namespace f37
def args:List PSh:=[.c (.sl TGType .bor)]
def ta:List Ty:=[.sl TGType]
def res:List (Bool×List CSh):=[(false,[.int .i64])]
def tr:List Ty:=[.int .i64]
def E0 (N:Nat):SEnv:=((SEnv.base tab cuts ccut bcut unr ety).addCal 70 (c70 N)).addCal 71 (c71 N)
theorem ok0 (N:Nat):EnvOK tab (E0 N):=((base_ok tab cuts ccut bcut unr ety).addCal (ok70 N)).addCal (ok71 N)
def T0_6:Tmpl:=⟨[(0,.c (.sl TGType .bor)),(3,.c (.int .i64))],[],[],1,[],0,[.sl TGType,.int .i64]⟩
def O0_6:Outs:=[(.ret,⟨[(2,.c (.int .i64))],[],[],1,[],0,[.int .i64]⟩),(.exit 0,⟨[(0,.c (.sl TGType .bor))],[],[],1,[],0,[.sl TGType]⟩)]
def L0_6 (N:Nat) (k:Nat) (x:List GType×Int):Option (Int⊕(List GType)):=loopF (loopStep (E0 N) fuelW 0 6 (bodyAt t37 6) T0_6 O0_6) k x
theorem L0_6_succ (N:Nat) (k:Nat) (v0:List GType) (v1:Int):L0_6 N (k+1) (v0,v1) =
 (bif (decide (v1<(v0.length:Int)))
 then ((F70 N (v0,v1)).bind fun y2=>
 (bif (!y2)
 then some (Sum.inl (8:Int))
 else L0_6 N k (v0,(wi64 (v1+(1:Int))))))
 else some (Sum.inr v0)):=by kernel_rfl
def E1 (N:Nat):SEnv:=(E0 N).addLoop N 0 6 T0_6 O0_6
theorem ok1 (N:Nat):EnvOK tab (E1 N):=(ok0 N).addLoop N 0 6 T0_6 O0_6
def T0_17:Tmpl:=⟨[(0,.c (.sl TGType .bor)),(4,.c (.sl (.int .i64) .d)),(5,.c (.int .i64))],[],[],1,[],0,[.sl TGType,(.sl (.int .i64)),.int .i64]⟩
def O0_17:Outs:=[(.ret,⟨[(2,.c (.int .i64))],[],[],1,[],0,[.int .i64]⟩),(.exit 2,⟨[],[],[],1,[],0,[]⟩)]
def L0_17 (N:Nat) (k:Nat) (x:List GType×List Int×Int):Option (Int⊕Unit):=loopF (loopStep (E1 N) fuelW 0 17 (bodyAt t37 17) T0_17 O0_17) k x
theorem L0_17_succ (N:Nat) (k:Nat) (v7:List GType) (v8:List Int) (v9:Int):L0_17 N (k+1) (v7,v8,v9) =
 (bif (decide (v9<(v7.length:Int)))
 then ((idx v8 v9).bind fun x10=>
 (bif (decide (x10>(5000:Int)))
 then some (Sum.inl (8:Int))
 else L0_17 N k (v7,v8,(wi64 (v9+(1:Int))))))
 else some (Sum.inr ())):=by kernel_rfl
def E2 (N:Nat):SEnv:=(E1 N).addLoop N 0 17 T0_17 O0_17
theorem ok2 (N:Nat):EnvOK tab (E2 N):=(ok1 N).addLoop N 0 17 T0_17 O0_17
end f37
def F37 (N:Nat) (x:List GType):Option Int:=fnRun (f37.E2 N) fuelW 37 f37.args f37.ta f37.res f37.tr 0 x
open f37 in
theorem F37_eq (N:Nat) (p0:List GType):F37 N p0 =
 (bif (decide ((p0.length:Int)>(32:Int)))
 then some (8:Int)
 else ((L0_6 N N (p0,(0:Int))).bind fun y3=>
 (match y3 with
 |.inl a4=>some a4
 |.inr b5=>((F71 N (b5,(3:Int))).bind fun y6=>
 ((L0_17 N N (b5,y6,(0:Int))).bind fun y11=>
 (match y11 with
 |.inl a12=>some a12
 |.inr b13=>some (0:Int))))))):=by kernel_rfl
def c37 (N:Nat):Sym.Callee:=⟨f37.args,f37.ta,f37.res,f37.tr,0,F37 N⟩
theorem ok37 (N:Nat):CalOK tab 37 (c37 N):=fn_ok (f37.ok2 N) fuelW 37 f37.args f37.ta f37.res f37.tr 0
namespace f98
def args:List PSh:=[.c (.int .i64),.c (.int .i64)]
def ta:List Ty:=[.int .i64,.int .i64]
def res:List (Bool×List CSh):=[(false,[.int .i64])]
def tr:List Ty:=[.int .i64]
def E0 (N:Nat):SEnv:=SEnv.base tab cuts ccut bcut unr ety
theorem ok0 (N:Nat):EnvOK tab (E0 N):=base_ok tab cuts ccut bcut unr ety
end f98
def F98 (N:Nat) (x:Int×Int):Option Int:=fnRun (f98.E0 N) fuelW 98 f98.args f98.ta f98.res f98.tr 0 x
open f98 in
theorem F98_eq (N:Nat) (p0:Int) (p1:Int):F98 N (p0,p1) =
 (chk (!decide (p1=0))
 (some (wi64 ((wi64 (Int.tdiv (wi64 ((wi64 (p0+p1))-(1:Int))) p1))*p1)))):=by kernel_rfl
def c98 (N:Nat):Sym.Callee:=⟨f98.args,f98.ta,f98.res,f98.tr,0,F98 N⟩
theorem ok98 (N:Nat):CalOK tab 98 (c98 N):=fn_ok (f98.ok0 N) fuelW 98 f98.args f98.ta f98.res f98.tr 0
namespace f72
def ety:Nat→Nat→Option Ty:=fun c d=>match c,d with
 |0,34=>some (.int .i64)
 |_,_=>none
def args:List PSh:=[.c (.sl (.int .i64) .bor),.c (.sl (.int .i64) .bor),.c (.sl TField .bor)]
def ta:List Ty:=[(.sl (.int .i64)),(.sl (.int .i64)),.sl TField]
def res:List (Bool×List CSh):=[(false,[.sl (.int .i64) .d]),(false,[.int .i64]),(false,[.int .i64])]
def tr:List Ty:=[(.sl (.int .i64)),.int .i64,.int .i64]
def E0 (N:Nat):SEnv:=(SEnv.base tab cuts ccut bcut unr ety).addCal 98 (c98 N)
theorem ok0 (N:Nat):EnvOK tab (E0 N):=(base_ok tab cuts ccut bcut unr ety).addCal (ok98 N)
def T0_5:Tmpl:=⟨[(0,.c (.sl (.int .i64) .bor)),(1,.c (.sl (.int .i64) .bor)),(2,.c (.sl TField .bor)),(9,.c (.sl (.int .i64) (.app 0))),(10,.c (.int .i64)),(11,.c (.int .i64)),(12,.c (.int .i64))],[],[],1,[0],1,[(.sl (.int .i64)),(.sl (.int .i64)),.sl TField,(.sl (.int .i64)),.int .i64,.int .i64,.int .i64]⟩
def O0_5:Outs:=[(.exit 0,⟨[(9,.c (.sl (.int .i64) (.app 0))),(10,.c (.int .i64)),(11,.c (.int .i64))],[],[],1,[0],1,[(.sl (.int .i64)),.int .i64,.int .i64]⟩)]
def L0_5 (N:Nat) (k:Nat) (x:List Int×List Int×List Field×List Int×Int×Int×Int):Option ((List Int×Int×Int)):=loopF (loopStep (E0 N) fuelW 0 5 (bodyAt t72 5) T0_5 O0_5) k x
theorem L0_5_succ (N:Nat) (k:Nat) (v0:List Int) (v1:List Int) (v2:List Field) (v3:List Int) (v4:Int) (v5:Int) (v6:Int):L0_5 N (k+1) (v0,v1,v2,v3,v4,v5,v6) =
 (bif (decide (v6<(v2.length:Int)))
 then ((idx v2 v6).bind fun x7=>
 ((idx v1 x7.2).bind fun x8=>
 ((F98 N (v4,x8)).bind fun y9=>
 (chk (room (v3.length+1) 8)
 (((idx v0 x7.2).bind fun x10=>
 ((idx v1 x7.2).bind fun x11=>
 L0_5 N k (v0,v1,v2,(v3++[y9]),(min (1000000:Int) (wi64 (y9+x10))),(max v5 x11),(wi64 (v6+(1:Int)))))))))))
 else some (v3,v4,v5)):=by kernel_rfl
def E1 (N:Nat):SEnv:=(E0 N).addLoop N 0 5 T0_5 O0_5
theorem ok1 (N:Nat):EnvOK tab (E1 N):=(ok0 N).addLoop N 0 5 T0_5 O0_5
end f72
def F72 (N:Nat) (x:List Int×List Int×List Field):Option (List Int×Int×Int):=fnRun (f72.E1 N) fuelW 72 f72.args f72.ta f72.res f72.tr 0 x
open f72 in
theorem F72_eq (N:Nat) (p0:List Int) (p1:List Int) (p2:List Field):F72 N (p0,p1,p2) =
 ((L0_5 N N (p0,p1,p2,[],(0:Int),(1:Int),(0:Int))).bind fun y12=>
 ((F98 N (y12.2.1,y12.2.2)).bind fun y13=>
 some (y12.1,(min (1000000:Int) y13),y12.2.2))):=by kernel_rfl
def c72 (N:Nat):Sym.Callee:=⟨f72.args,f72.ta,f72.res,f72.tr,0,F72 N⟩
theorem ok72 (N:Nat):CalOK tab 72 (c72 N):=fn_ok (f72.ok1 N) fuelW 72 f72.args f72.ta f72.res f72.tr 0
namespace f38
def ety:Nat→Nat→Option Ty:=fun c d=>match c,d with
 |0,67=>some (.int .i64)
 |0,71=>some (.int .i64)
 |_,_=>none
def args:List PSh:=[.c (.sl TGType .bor)]
def ta:List Ty:=[.sl TGType]
def res:List (Bool×List CSh):=[(false,[.sl (.int .i64) .d]),(false,[.sl (.int .i64) .d])]
def tr:List Ty:=[(.sl (.int .i64)),(.sl (.int .i64))]
def E0 (N:Nat):SEnv:=(SEnv.base tab cuts ccut bcut unr ety).addCal 72 (c72 N)
theorem ok0 (N:Nat):EnvOK tab (E0 N):=(base_ok tab cuts ccut bcut unr ety).addCal (ok72 N)
def T0_4:Tmpl:=⟨[(0,.c (.sl TGType .bor)),(4,.c (.sl (.int .i64) (.app 0))),(5,.c (.sl (.int .i64) (.app 1))),(6,.c (.int .i64))],[],[],1,[0,1],2,[.sl TGType,(.sl (.int .i64)),(.sl (.int .i64)),.int .i64]⟩
def O0_4:Outs:=[(.exit 0,⟨[(4,.c (.sl (.int .i64) (.app 0))),(5,.c (.sl (.int .i64) (.app 1)))],[],[],1,[0,1],2,[(.sl (.int .i64)),(.sl (.int .i64))]⟩)]
def L0_4 (N:Nat) (k:Nat) (x:List GType×List Int×List Int×Int):Option ((List Int×List Int)):=loopF (loopStep (E0 N) fuelW 0 4 (bodyAt t38 4) T0_4 O0_4) k x
theorem L0_4_succ (N:Nat) (k:Nat) (v0:List GType) (v1:List Int) (v2:List Int) (v3:Int):L0_4 N (k+1) (v0,v1,v2,v3) =
 (bif (decide (v3<(v0.length:Int)))
 then ((idx v0 v3).bind fun x4=>
 (bif (x4.1==(1:Int))
 then (chk (room (v1.length+1) 8)
 ((chk (room (v2.length+1) 8)
 (L0_4 N k (v0,(v1++[(1:Int)]),(v2++[(1:Int)]),(wi64 (v3+(1:Int))))))))
 else (bif (x4.1==(3:Int))
 then (chk (room (v1.length+1) 8)
 ((chk (room (v2.length+1) 8)
 (L0_4 N k (v0,(v1++[(16:Int)]),(v2++[(8:Int)]),(wi64 (v3+(1:Int))))))))
 else (bif (x4.1==(7:Int))
 then (chk (room (v1.length+1) 8)
 ((chk (room (v2.length+1) 8)
 (L0_4 N k (v0,(v1++[(24:Int)]),(v2++[(8:Int)]),(wi64 (v3+(1:Int))))))))
 else (bif (x4.1==(6:Int))
 then ((idx v0 v3).bind fun x5=>
 ((idx v0 v3).bind fun x6=>
 ((idx v1 x6.2.1).bind fun x7=>
 ((idx v0 v3).bind fun x8=>
 ((idx v2 x8.2.1).bind fun x9=>
 (chk (room (v1.length+1) 8)
 ((chk (room (v2.length+1) 8)
 (L0_4 N k (v0,(v1++[(min (1000000:Int) (wi64 (x5.2.2.1*x7)))]),(v2++[x9]),(wi64 (v3+(1:Int)))))))))))))
 else (bif (x4.1==(5:Int))
 then ((idx v0 v3).bind fun x10=>
 ((F72 N (v1,v2,x10.2.2.2)).bind fun y11=>
 (chk (room (v1.length+1) 8)
 ((chk (room (v2.length+1) 8)
 (L0_4 N k (v0,(v1++[y11.2.1]),(v2++[y11.2.2]),(wi64 (v3+(1:Int))))))))))
 else (chk (room (v1.length+1) 8)
 ((chk (room (v2.length+1) 8)
 (L0_4 N k (v0,(v1++[(8:Int)]),(v2++[(8:Int)]),(wi64 (v3+(1:Int))))))))))))))
 else some (v1,v2)):=by kernel_rfl
def E1 (N:Nat):SEnv:=(E0 N).addLoop N 0 4 T0_4 O0_4
theorem ok1 (N:Nat):EnvOK tab (E1 N):=(ok0 N).addLoop N 0 4 T0_4 O0_4
end f38
def F38 (N:Nat) (x:List GType):Option (List Int×List Int):=fnRun (f38.E1 N) fuelW 38 f38.args f38.ta f38.res f38.tr 0 x
open f38 in
theorem F38_eq (N:Nat) (p0:List GType):F38 N p0 =
 ((L0_4 N N (p0,[],[],(0:Int))).bind fun y12=>
 some (y12.1,y12.2)):=by kernel_rfl
def c38 (N:Nat):Sym.Callee:=⟨f38.args,f38.ta,f38.res,f38.tr,0,F38 N⟩
theorem ok38 (N:Nat):CalOK tab 38 (c38 N):=fn_ok (f38.ok1 N) fuelW 38 f38.args f38.ta f38.res f38.tr 0
namespace f78
def args:List PSh:=[.agg [.int .u8,.int .i64,.int .i64,.int .i64]]
def ta:List Ty:=[.int .u8,.int .i64,.int .i64,.int .i64]
def res:List (Bool×List CSh):=[(true,[.int .i64,.int .i64,.int .i64])]
def tr:List Ty:=[.int .i64,.int .i64,.int .i64]
def E0 (N:Nat):SEnv:=SEnv.base tab cuts ccut bcut unr ety
theorem ok0 (N:Nat):EnvOK tab (E0 N):=base_ok tab cuts ccut bcut unr ety
end f78
def F78 (N:Nat) (x:Int×Int×Int×Int):Option (Int×Int×Int):=fnRun (f78.E0 N) fuelW 78 f78.args f78.ta f78.res f78.tr 0 x
open f78 in
theorem F78_eq (N:Nat) (p0:Int) (p1:Int) (p2:Int) (p3:Int):F78 N (p0,p1,p2,p3) =
 some (p1,p2,p3):=by kernel_rfl
def c78 (N:Nat):Sym.Callee:=⟨f78.args,f78.ta,f78.res,f78.tr,0,F78 N⟩
theorem ok78 (N:Nat):CalOK tab 78 (c78 N):=fn_ok (f78.ok0 N) fuelW 78 f78.args f78.ta f78.res f78.tr 0
namespace f75
def bcut:Nat→Nat→Option (Nat×Ty):=fun c i=>match c,i with
 |0,11=>some (25,.bool)
 |0,100011=>some (25,.bool)
 |_,_=>none
def unr:Nat→Nat→Bool:=fun c i=>match c,i with
 |0,7=>true
 |0,100007=>true
 |_,_=>false
def args:List PSh:=[.agg [.int .u8,.int .i64,.int .i64,.int .i64]]
def ta:List Ty:=[.int .u8,.int .i64,.int .i64,.int .i64]
def res:List (Bool×List CSh):=[(false,[.int .i64])]
def tr:List Ty:=[.int .i64]
def E0 (N:Nat):SEnv:=(((SEnv.base tab cuts ccut bcut unr ety).addCal 77 (c77 N)).addCal 78 (c78 N)).addCal 95 (c95 N)
theorem ok0 (N:Nat):EnvOK tab (E0 N):=(((base_ok tab cuts ccut bcut unr ety).addCal (ok77 N)).addCal (ok78 N)).addCal (ok95 N)
end f75
def F75 (N:Nat) (x:Int×Int×Int×Int):Option Int:=fnRun (f75.E0 N) fuelW 75 f75.args f75.ta f75.res f75.tr 0 x
open f75 in
theorem F75_eq (N:Nat) (p0:Int) (p1:Int) (p2:Int) (p3:Int):F75 N (p0,p1,p2,p3) =
 ((F77 N p0).bind fun y0=>
 ((F78 N (p0,p1,p2,p3)).bind fun y1=>
 (bif ((y0.length:Int) != (3:Int))
 then some (8:Int)
 else (Option.bind (((idx y0 (0:Int)).bind fun c2=>
 ((F95 N ((c2.toNat:Int),y1.1)).bind fun y3=>
 some (!y3)))) fun b4=>
 (bif b4
 then some (8:Int)
 else (Option.bind (((idx y0 (1:Int)).bind fun c5=>
 ((F95 N ((c5.toNat:Int),y1.2.1)).bind fun y6=>
 some (!y6)))) fun b7=>
 (bif b7
 then some (8:Int)
 else (Option.bind (((idx y0 (2:Int)).bind fun c8=>
 ((F95 N ((c8.toNat:Int),y1.2.2)).bind fun y9=>
 some (!y9)))) fun b10=>
 (bif b10
 then some (8:Int)
 else some (0:Int)))))))))):=by kernel_rfl
def c75 (N:Nat):Sym.Callee:=⟨f75.args,f75.ta,f75.res,f75.tr,0,F75 N⟩
theorem ok75 (N:Nat):CalOK tab 75 (c75 N):=fn_ok (f75.ok0 N) fuelW 75 f75.args f75.ta f75.res f75.tr 0
namespace f39
def bcut:Nat→Nat→Option (Nat×Ty):=fun c i=>match c,i with
 |0,1=>some (53,.bool)
 |0,10=>some (78,.bool)
 |0,24=>some (4,.bool)
 |_,_=>none
def args:List PSh:=[.c (.sl TGType .bor),.agg [.str,.int .i64,.int .i64,.sl TField .bor,.sl TInstr .bor,.sl TRun .bor,.sl TRun .bor]]
def ta:List Ty:=[.sl TGType,.str,.int .i64,.int .i64,.sl TField,.sl TInstr,.sl TRun,.sl TRun]
def res:List (Bool×List CSh):=[(false,[.bool])]
def tr:List Ty:=[.bool]
def E0 (N:Nat):SEnv:=((((SEnv.base tab cuts ccut bcut unr ety).addCal 73 (c73 N)).addCal 74 (c74 N)).addCal 75 (c75 N)).addCal 76 (c76 N)
theorem ok0 (N:Nat):EnvOK tab (E0 N):=((((base_ok tab cuts ccut bcut unr ety).addCal (ok73 N)).addCal (ok74 N)).addCal (ok75 N)).addCal (ok76 N)
def T0_6:Tmpl:=⟨[(0,.c (.sl TGType .bor)),(3,.c (.ptr 0 3 0 0 0)),(5,.c (.int .i64))],[],[(0,3,.box 0 [.str,.int .i64,.int .i64,.sl TField .bor,.sl TInstr .bor,.sl TRun .bor,.sl TRun .bor])],1,[],1,[.sl TGType,.int .i64,.str,.int .i64,.int .i64,.sl TField,.sl TInstr,.sl TRun,.sl TRun]⟩
def O0_6:Outs:=[(.ret,⟨[(4,.c (.bool))],[],[],1,[],0,[.bool]⟩),(.exit 0,⟨[(3,.c (.ptr 0 3 0 0 0))],[],[(0,3,.box 0 [.str,.int .i64,.int .i64,.sl TField .bor,.sl TInstr .bor,.sl TRun .bor,.sl TRun .bor])],1,[],1,[.str,.int .i64,.int .i64,.sl TField,.sl TInstr,.sl TRun,.sl TRun]⟩)]
def L0_6 (N:Nat) (k:Nat) (x:List GType×Int×List UInt8×Int×Int×List Field×List Instr×List Run×List Run):Option (Bool⊕(List UInt8×Int×Int×List Field×List Instr×List Run×List Run)):=loopF (loopStep (E0 N) fuelW 0 6 (bodyAt t39 6) T0_6 O0_6) k x
theorem L0_6_succ (N:Nat) (k:Nat) (v3:List GType) (v4:Int) (v5:List UInt8) (v6:Int) (v7:Int) (v8:List Field) (v9:List Instr) (v10:List Run) (v11:List Run):L0_6 N (k+1) (v3,v4,v5,v6,v7,v8,v9,v10,v11) =
 (bif (decide (v4<(v8.length:Int)))
 then (Option.bind (((idx v8 v4).bind fun x12=>
 (bif (decide (x12.2<(0:Int)))
 then some true
 else ((idx v8 v4).bind fun x13=>
 some (decide (x13.2≥(v3.length:Int))))))) fun b14=>
 (bif b14
 then some (Sum.inl false)
 else L0_6 N k (v3,(wi64 (v4+(1:Int))),v5,v6,v7,v8,v9,v10,v11)))
 else some (Sum.inr (v5,v6,v7,v8,v9,v10,v11))):=by kernel_rfl
def E1 (N:Nat):SEnv:=(E0 N).addLoop N 0 6 T0_6 O0_6
theorem ok1 (N:Nat):EnvOK tab (E1 N):=(ok0 N).addLoop N 0 6 T0_6 O0_6
def T0_16:Tmpl:=⟨[(3,.c (.ptr 0 3 0 0 0)),(6,.c (.int .i64))],[],[(0,3,.box 0 [.str,.int .i64,.int .i64,.sl TField .bor,.sl TInstr .bor,.sl TRun .bor,.sl TRun .bor])],1,[],1,[.int .i64,.str,.int .i64,.int .i64,.sl TField,.sl TInstr,.sl TRun,.sl TRun]⟩
def O0_16:Outs:=[(.ret,⟨[(4,.c (.bool))],[],[],1,[],0,[.bool]⟩),(.exit 2,⟨[(3,.c (.ptr 0 3 0 0 0))],[],[(0,3,.box 0 [.str,.int .i64,.int .i64,.sl TField .bor,.sl TInstr .bor,.sl TRun .bor,.sl TRun .bor])],1,[],1,[.str,.int .i64,.int .i64,.sl TField,.sl TInstr,.sl TRun,.sl TRun]⟩)]
def L0_16 (N:Nat) (k:Nat) (x:Int×List UInt8×Int×Int×List Field×List Instr×List Run×List Run):Option (Bool⊕(List UInt8×Int×Int×List Field×List Instr×List Run×List Run)):=loopF (loopStep (E1 N) fuelW 0 16 (bodyAt t39 16) T0_16 O0_16) k x
theorem L0_16_succ (N:Nat) (k:Nat) (v18:Int) (v19:List UInt8) (v20:Int) (v21:Int) (v22:List Field) (v23:List Instr) (v24:List Run) (v25:List Run):L0_16 N (k+1) (v18,v19,v20,v21,v22,v23,v24,v25) =
 (bif (decide (v18<(v23.length:Int)))
 then ((idx v23 v18).bind fun x26=>
 ((F75 N (x26.1,x26.2.1,x26.2.2.1,x26.2.2.2)).bind fun y27=>
 (bif (y27 != (0:Int))
 then some (Sum.inl false)
 else L0_16 N k ((wi64 (v18+(1:Int))),v19,v20,v21,v22,v23,v24,v25))))
 else some (Sum.inr (v19,v20,v21,v22,v23,v24,v25))):=by kernel_rfl
def E2 (N:Nat):SEnv:=(E1 N).addLoop N 0 16 T0_16 O0_16
theorem ok2 (N:Nat):EnvOK tab (E2 N):=(ok1 N).addLoop N 0 16 T0_16 O0_16
end f39
def F39 (N:Nat) (x:List GType×List UInt8×Int×Int×List Field×List Instr×List Run×List Run):Option Bool:=fnRun (f39.E2 N) fuelW 39 f39.args f39.ta f39.res f39.tr 0 x
open f39 in
theorem F39_eq (N:Nat) (p0:List GType) (p1:List UInt8) (p2:Int) (p3:Int) (p4:List Field) (p5:List Instr) (p6:List Run) (p7:List Run):F39 N (p0,p1,p2,p3,p4,p5,p6,p7) =
 (Option.bind (((F73 N p1).bind fun y0=>
 (bif (!y0)
 then some true
 else ((F74 N (p4,(16:Int))).bind fun y1=>
 (bif (!y1)
 then some true
 else (bif (decide (p2<(0:Int)))
 then some true
 else (bif (decide (p2>(p4.length:Int)))
 then some true
 else (bif (decide (p3<(-1:Int)))
 then some true
 else (bif (decide (p3≥(p0.length:Int)))
 then some true
 else (bif (decide ((p5.length:Int)<(1:Int)))
 then some true
 else some (decide ((p5.length:Int)>(200:Int))))))))))))) fun b2=>
 (bif b2
 then some false
 else ((L0_6 N N (p0,(0:Int),p1,p2,p3,p4,p5,p6,p7)).bind fun y15=>
 (match y15 with
 |.inl a16=>some a16
 |.inr b17=>((L0_16 N N ((0:Int),b17.1,b17.2.1,b17.2.2.1,b17.2.2.2.1,b17.2.2.2.2.1,b17.2.2.2.2.2.1,b17.2.2.2.2.2.2)).bind fun y28=>
 (match y28 with
 |.inl a29=>some a29
 |.inr b30=>(Option.bind (((F76 N (b30.2.2.2.2.2.1,(b30.2.2.2.2.1.length:Int))).bind fun y31=>
 (bif y31
 then ((F76 N (b30.2.2.2.2.2.2,(b30.2.2.2.2.1.length:Int))).bind fun y32=>
 some y32)
 else some false))) fun b33=>
 some b33))))))):=by kernel_rfl
def c39 (N:Nat):Sym.Callee:=⟨f39.args,f39.ta,f39.res,f39.tr,0,F39 N⟩
theorem ok39 (N:Nat):CalOK tab 39 (c39 N):=fn_ok (f39.ok2 N) fuelW 39 f39.args f39.ta f39.res f39.tr 0
namespace f16
def bcut:Nat→Nat→Option (Nat×Ty):=fun c i=>match c,i with
 |0,1=>some (30,.bool)
 |_,_=>none
def args:List PSh:=[.agg [.sl TGType .bor,.sl .str .bor,.sl TFunc .bor]]
def ta:List Ty:=[.sl TGType,.sl .str,.sl TFunc]
def res:List (Bool×List CSh):=[(false,[.bool])]
def tr:List Ty:=[.bool]
def E0 (N:Nat):SEnv:=(((SEnv.base tab cuts ccut bcut unr ety).addCal 37 (c37 N)).addCal 38 (c38 N)).addCal 39 (c39 N)
theorem ok0 (N:Nat):EnvOK tab (E0 N):=(((base_ok tab cuts ccut bcut unr ety).addCal (ok37 N)).addCal (ok38 N)).addCal (ok39 N)
def T0_7:Tmpl:=⟨[(1,.c (.ptr 0 1 0 0 0)),(3,.c (.sl (.int .i64) .d)),(5,.c (.int .i64))],[],[(0,1,.box 0 [.sl TGType .bor,.sl .str .bor,.sl TFunc .bor])],1,[],1,[(.sl (.int .i64)),.int .i64,.sl TGType,.sl .str,.sl TFunc]⟩
def O0_7:Outs:=[(.ret,⟨[(2,.c (.bool))],[],[],1,[],0,[.bool]⟩),(.exit 0,⟨[(1,.c (.ptr 0 1 0 0 0))],[],[(0,1,.box 0 [.sl TGType .bor,.sl .str .bor,.sl TFunc .bor])],1,[],1,[.sl TGType,.sl .str,.sl TFunc]⟩)]
def L0_7 (N:Nat) (k:Nat) (x:List Int×Int×List GType×(List (List UInt8))×List Func):Option (Bool⊕(List GType×(List (List UInt8))×List Func)):=loopF (loopStep (E0 N) fuelW 0 7 (bodyAt t16 7) T0_7 O0_7) k x
theorem L0_7_succ (N:Nat) (k:Nat) (v3:List Int) (v4:Int) (v5:List GType) (v6:List (List UInt8)) (v7:List Func):L0_7 N (k+1) (v3,v4,v5,v6,v7) =
 (bif (decide (v4<(v3.length:Int)))
 then ((idx v3 v4).bind fun x8=>
 (bif (decide (x8>(256:Int)))
 then some (Sum.inl false)
 else L0_7 N k (v3,(wi64 (v4+(1:Int))),v5,v6,v7)))
 else some (Sum.inr (v5,v6,v7))):=by kernel_rfl
def E1 (N:Nat):SEnv:=(E0 N).addLoop N 0 7 T0_7 O0_7
theorem ok1 (N:Nat):EnvOK tab (E1 N):=(ok0 N).addLoop N 0 7 T0_7 O0_7
def T0_17:Tmpl:=⟨[(1,.c (.ptr 0 1 0 0 0)),(6,.c (.int .i64))],[],[(0,1,.box 0 [.sl TGType .bor,.sl .str .bor,.sl TFunc .bor])],1,[],1,[.int .i64,.sl TGType,.sl .str,.sl TFunc]⟩
def O0_17:Outs:=[(.ret,⟨[(2,.c (.bool))],[],[],1,[],0,[.bool]⟩),(.exit 2,⟨[(1,.c (.ptr 0 1 0 0 0))],[],[(0,1,.box 0 [.sl TGType .bor,.sl .str .bor,.sl TFunc .bor])],1,[],1,[.sl TGType,.sl .str,.sl TFunc]⟩)]
def L0_17 (N:Nat) (k:Nat) (x:Int×List GType×(List (List UInt8))×List Func):Option (Bool⊕(List GType×(List (List UInt8))×List Func)):=loopF (loopStep (E1 N) fuelW 0 17 (bodyAt t16 17) T0_17 O0_17) k x
theorem L0_17_succ (N:Nat) (k:Nat) (v12:Int) (v13:List GType) (v14:List (List UInt8)) (v15:List Func):L0_17 N (k+1) (v12,v13,v14,v15) =
 (bif (decide (v12<(v14.length:Int)))
 then ((idx v14 v12).bind fun x16=>
 (bif (decide ((x16.length:Int)>(64:Int)))
 then some (Sum.inl false)
 else L0_17 N k ((wi64 (v12+(1:Int))),v13,v14,v15)))
 else some (Sum.inr (v13,v14,v15))):=by kernel_rfl
def E2 (N:Nat):SEnv:=(E1 N).addLoop N 0 17 T0_17 O0_17
theorem ok2 (N:Nat):EnvOK tab (E2 N):=(ok1 N).addLoop N 0 17 T0_17 O0_17
def T0_36:Tmpl:=⟨[(1,.c (.ptr 0 1 0 0 0)),(7,.c (.int .i64)),(8,.c (.int .i64))],[],[(0,1,.box 0 [.sl TGType .bor,.sl .str .bor,.sl TFunc .bor])],1,[],1,[.int .i64,.int .i64,.sl TGType,.sl .str,.sl TFunc]⟩
def O0_36:Outs:=[(.ret,⟨[(2,.c (.bool))],[],[],1,[],0,[.bool]⟩),(.exit 6,⟨[(1,.c (.ptr 0 1 0 0 0)),(7,.c (.int .i64))],[],[(0,1,.box 0 [.sl TGType .bor,.sl .str .bor,.sl TFunc .bor])],1,[],1,[.int .i64,.sl TGType,.sl .str,.sl TFunc]⟩)]
def L0_36 (N:Nat) (k:Nat) (x:Int×Int×List GType×(List (List UInt8))×List Func):Option (Bool⊕(Int×List GType×(List (List UInt8))×List Func)):=loopF (loopStep (E2 N) fuelW 0 36 (bodyAt t16 36) T0_36 O0_36) k x
theorem L0_36_succ (N:Nat) (k:Nat) (v26:Int) (v27:Int) (v28:List GType) (v29:List (List UInt8)) (v30:List Func):L0_36 N (k+1) (v26,v27,v28,v29,v30) =
 (bif (decide (v27<v26))
 then ((idx v30 v27).bind fun x31=>
 ((idx v30 v26).bind fun x32=>
 (bif (x31.1==x32.1)
 then some (Sum.inl false)
 else L0_36 N k (v26,(wi64 (v27+(1:Int))),v28,v29,v30))))
 else some (Sum.inr (v26,v28,v29,v30))):=by kernel_rfl
def E3 (N:Nat):SEnv:=(E2 N).addLoop N 0 36 T0_36 O0_36
theorem ok3 (N:Nat):EnvOK tab (E3 N):=(ok2 N).addLoop N 0 36 T0_36 O0_36
def T0_27:Tmpl:=⟨[(1,.c (.ptr 0 1 0 0 0)),(7,.c (.int .i64))],[],[(0,1,.box 0 [.sl TGType .bor,.sl .str .bor,.sl TFunc .bor])],1,[],1,[.int .i64,.sl TGType,.sl .str,.sl TFunc]⟩
def O0_27:Outs:=[(.ret,⟨[(2,.c (.bool))],[],[],1,[],0,[.bool]⟩),(.exit 4,⟨[],[],[],1,[],0,[]⟩)]
def L0_27 (N:Nat) (k:Nat) (x:Int×List GType×(List (List UInt8))×List Func):Option (Bool⊕Unit):=loopF (loopStep (E3 N) fuelW 0 27 (bodyAt t16 27) T0_27 O0_27) k x
theorem L0_27_succ (N:Nat) (k:Nat) (v20:Int) (v21:List GType) (v22:List (List UInt8)) (v23:List Func):L0_27 N (k+1) (v20,v21,v22,v23) =
 (bif (decide (v20<(v23.length:Int)))
 then ((idx v23 v20).bind fun x24=>
 ((F39 N (v21,x24.1,x24.2.1,x24.2.2.1,x24.2.2.2.1,x24.2.2.2.2.1,x24.2.2.2.2.2.1,x24.2.2.2.2.2.2)).bind fun y25=>
 (bif (!y25)
 then some (Sum.inl false)
 else ((L0_36 N N (v20,(0:Int),v21,v22,v23)).bind fun y33=>
 (match y33 with
 |.inl a34=>some (Sum.inl a34)
 |.inr b35=>L0_27 N k ((wi64 (b35.1+(1:Int))),b35.2.1,b35.2.2.1,b35.2.2.2))))))
 else some (Sum.inr ())):=by kernel_rfl
def E4 (N:Nat):SEnv:=(E3 N).addLoop N 0 27 T0_27 O0_27
theorem ok4 (N:Nat):EnvOK tab (E4 N):=(ok3 N).addLoop N 0 27 T0_27 O0_27
end f16
def F16 (N:Nat) (x:List GType×(List (List UInt8))×List Func):Option Bool:=fnRun (f16.E4 N) fuelW 16 f16.args f16.ta f16.res f16.tr 0 x
open f16 in
theorem F16_eq (N:Nat) (p0:List GType) (p1:List (List UInt8)) (p2:List Func):F16 N (p0,p1,p2) =
 (Option.bind (((F37 N p0).bind fun y0=>
 (bif (y0 != (0:Int))
 then some true
 else (bif (decide ((p1.length:Int)>(32:Int)))
 then some true
 else (bif (decide ((p2.length:Int)<(1:Int)))
 then some true
 else some (decide ((p2.length:Int)>(32:Int)))))))) fun b1=>
 (bif b1
 then some false
 else ((F38 N p0).bind fun y2=>
 ((L0_7 N N (y2.1,(0:Int),p0,p1,p2)).bind fun y9=>
 (match y9 with
 |.inl a10=>some a10
 |.inr b11=>((L0_17 N N ((0:Int),b11.1,b11.2.1,b11.2.2)).bind fun y17=>
 (match y17 with
 |.inl a18=>some a18
 |.inr b19=>((L0_27 N N ((0:Int),b19.1,b19.2.1,b19.2.2)).bind fun y36=>
 (match y36 with
 |.inl a37=>some a37
 |.inr b38=>some true))))))))):=by kernel_rfl
def c16 (N:Nat):Sym.Callee:=⟨f16.args,f16.ta,f16.res,f16.tr,0,F16 N⟩
theorem ok16 (N:Nat):CalOK tab 16 (c16 N):=fn_ok (f16.ok4 N) fuelW 16 f16.args f16.ta f16.res f16.tr 0
namespace f43
def ety:Nat→Nat→Option Ty:=fun c d=>match c,d with
 |0,2=>some (.int .u8)
 |0,3=>some (.int .u8)
 |0,11=>some (.int .u8)
 |0,18=>some (.int .u8)
 |_,_=>none
def args:List PSh:=[.c (.int .u64)]
def ta:List Ty:=[.int .u64]
def res:List (Bool×List CSh):=[(false,[.sl (.int .u8) .d])]
def tr:List Ty:=[(.sl (.int .u8))]
def E0 (N:Nat):SEnv:=SEnv.base tab cuts ccut bcut unr ety
theorem ok0 (N:Nat):EnvOK tab (E0 N):=base_ok tab cuts ccut bcut unr ety
def T0_3:Tmpl:=⟨[(0,.c (.int .u64)),(3,.c (.ref 0 3 0 (.int .u8)))],[],[(0,3,.row 0 (.int .u8))],1,[],1,[.int .u64,(.sl (.int .u8))]⟩
def O0_3:Outs:=[(.exit 0,⟨[(0,.c (.int .u64)),(3,.c (.ref 0 3 0 (.int .u8)))],[],[(0,3,.row 0 (.int .u8))],1,[],1,[.int .u64,(.sl (.int .u8))]⟩)]
def L0_3 (N:Nat) (k:Nat) (x:Int×List Int):Option ((Int×List Int)):=loopF (loopStep (E0 N) fuelW 0 3 (bodyAt t43 3) T0_3 O0_3) k x
theorem L0_3_succ (N:Nat) (k:Nat) (v0:Int) (v1:List Int):L0_3 N (k+1) (v0,v1) =
 (bif (decide (v0≥(128:Int)))
 then (chk (room (v1.length+1) 1)
 (L0_3 N k ((wu64 (Int.tdiv v0 (128:Int))),(v1++[(wu8 ((wu8 (Int.tmod v0 (128:Int)))+(128:Int)))]))))
 else some (v0,v1)):=by kernel_rfl
def E1 (N:Nat):SEnv:=(E0 N).addLoop N 0 3 T0_3 O0_3
theorem ok1 (N:Nat):EnvOK tab (E1 N):=(ok0 N).addLoop N 0 3 T0_3 O0_3
end f43
def F43 (N:Nat) (x:Int):Option (List Int):=fnRun (f43.E1 N) fuelW 43 f43.args f43.ta f43.res f43.tr 1 x
open f43 in
theorem F43_eq (N:Nat) (p0:Int):F43 N p0 =
 ((L0_3 N N (p0,([]:List Int))).bind fun y2=>
 (chk (room (y2.2.length+1) 1)
 (some (y2.2++[(wu8 y2.1)])))):=by kernel_rfl
def c43 (N:Nat):Sym.Callee:=⟨f43.args,f43.ta,f43.res,f43.tr,1,F43 N⟩
theorem ok43 (N:Nat):CalOK tab 43 (c43 N):=fn_ok (f43.ok1 N) fuelW 43 f43.args f43.ta f43.res f43.tr 1
namespace f40
def ety:Nat→Nat→Option Ty:=fun c d=>match c,d with
 |0,2=>some (.int .u8)
 |_,_=>none
def args:List PSh:=[.c (.int .i64)]
def ta:List Ty:=[.int .i64]
def res:List (Bool×List CSh):=[(false,[.sl (.int .u8) .d])]
def tr:List Ty:=[(.sl (.int .u8))]
def E0 (N:Nat):SEnv:=(SEnv.base tab cuts ccut bcut unr ety).addCal 43 (c43 N)
theorem ok0 (N:Nat):EnvOK tab (E0 N):=(base_ok tab cuts ccut bcut unr ety).addCal (ok43 N)
end f40
def F40 (N:Nat) (x:Int):Option (List Int):=fnRun (f40.E0 N) fuelW 40 f40.args f40.ta f40.res f40.tr 1 x
open f40 in
theorem F40_eq (N:Nat) (p0:Int):F40 N p0 =
 ((F43 N (wu64 p0)).bind fun y0=>
 some y0):=by kernel_rfl
def c40 (N:Nat):Sym.Callee:=⟨f40.args,f40.ta,f40.res,f40.tr,1,F40 N⟩
theorem ok40 (N:Nat):CalOK tab 40 (c40 N):=fn_ok (f40.ok0 N) fuelW 40 f40.args f40.ta f40.res f40.tr 1
namespace f42
def args:List PSh:=[.c (.str)]
def ta:List Ty:=[.str]
def res:List (Bool×List CSh):=[(false,[.sl (.int .u8) .d])]
def tr:List Ty:=[(.sl (.int .u8))]
def E0 (N:Nat):SEnv:=(SEnv.base tab cuts ccut bcut unr ety).addCal 43 (c43 N)
theorem ok0 (N:Nat):EnvOK tab (E0 N):=(base_ok tab cuts ccut bcut unr ety).addCal (ok43 N)
end f42
def F42 (N:Nat) (x:List UInt8):Option (List Int):=fnRun (f42.E0 N) fuelW 42 f42.args f42.ta f42.res f42.tr 0 x
open f42 in
theorem F42_eq (N:Nat) (p0:List UInt8):F42 N p0 =
 ((F43 N (wu64 (p0.length:Int))).bind fun y0=>
 (chk (room (y0.length+(bytesL p0).length) 1)
 (some (y0++(bytesL p0))))):=by kernel_rfl
def c42 (N:Nat):Sym.Callee:=⟨f42.args,f42.ta,f42.res,f42.tr,0,F42 N⟩
theorem ok42 (N:Nat):CalOK tab 42 (c42 N):=fn_ok (f42.ok0 N) fuelW 42 f42.args f42.ta f42.res f42.tr 0
namespace f41
def args:List PSh:=[.c (.sl TField .bor)]
def ta:List Ty:=[.sl TField]
def res:List (Bool×List CSh):=[(false,[.sl (.int .u8) .d])]
def tr:List Ty:=[(.sl (.int .u8))]
def E0 (N:Nat):SEnv:=((SEnv.base tab cuts ccut bcut unr ety).addCal 40 (c40 N)).addCal 42 (c42 N)
theorem ok0 (N:Nat):EnvOK tab (E0 N):=((base_ok tab cuts ccut bcut unr ety).addCal (ok40 N)).addCal (ok42 N)
def T0_4:Tmpl:=⟨[(0,.c (.sl TField .bor)),(3,.c (.ref 0 7 0 (.int .u8))),(4,.c (.int .i64))],[],[(0,7,.row 0 (.int .u8))],1,[],1,[.sl TField,.int .i64,(.sl (.int .u8))]⟩
def O0_4:Outs:=[(.exit 0,⟨[(3,.c (.ref 0 7 0 (.int .u8)))],[],[(0,7,.row 0 (.int .u8))],1,[],1,[(.sl (.int .u8))]⟩)]
def L0_4 (N:Nat) (k:Nat) (x:List Field×Int×List Int):Option ((List Int)):=loopF (loopStep (E0 N) fuelW 0 4 (bodyAt t41 4) T0_4 O0_4) k x
theorem L0_4_succ (N:Nat) (k:Nat) (v1:List Field) (v2:Int) (v3:List Int):L0_4 N (k+1) (v1,v2,v3) =
 (bif (decide (v2<(v1.length:Int)))
 then ((idx v1 v2).bind fun x4=>
 ((F42 N x4.1).bind fun y5=>
 (chk (room (v3.length+y5.length) 1)
 (((idx v1 v2).bind fun x6=>
 ((F40 N x6.2).bind fun y7=>
 (chk (room ((v3++y5).length+y7.length) 1)
 (L0_4 N k (v1,(wi64 (v2+(1:Int))),((v3++y5)++y7))))))))))
 else some v3):=by kernel_rfl
def E1 (N:Nat):SEnv:=(E0 N).addLoop N 0 4 T0_4 O0_4
theorem ok1 (N:Nat):EnvOK tab (E1 N):=(ok0 N).addLoop N 0 4 T0_4 O0_4
end f41
def F41 (N:Nat) (x:List Field):Option (List Int):=fnRun (f41.E1 N) fuelW 41 f41.args f41.ta f41.res f41.tr 0 x
open f41 in
theorem F41_eq (N:Nat) (p0:List Field):F41 N p0 =
 ((F40 N (p0.length:Int)).bind fun y0=>
 ((L0_4 N N (p0,(0:Int),y0)).bind fun y8=>
 some y8)):=by kernel_rfl
def c41 (N:Nat):Sym.Callee:=⟨f41.args,f41.ta,f41.res,f41.tr,0,F41 N⟩
theorem ok41 (N:Nat):CalOK tab 41 (c41 N):=fn_ok (f41.ok1 N) fuelW 41 f41.args f41.ta f41.res f41.tr 0
namespace f44
def args:List PSh:=[.c (.int .i64)]
def ta:List Ty:=[.int .i64]
def res:List (Bool×List CSh):=[(false,[.int .u64])]
def tr:List Ty:=[.int .u64]
def E0 (N:Nat):SEnv:=SEnv.base tab cuts ccut bcut unr ety
theorem ok0 (N:Nat):EnvOK tab (E0 N):=base_ok tab cuts ccut bcut unr ety
end f44
def F44 (N:Nat) (x:Int):Option Int:=fnRun (f44.E0 N) fuelW 44 f44.args f44.ta f44.res f44.tr 0 x
open f44 in
theorem F44_eq (N:Nat) (p0:Int):F44 N p0 =
 (bif (decide (p0≥(0:Int)))
 then some (wu64 ((wu64 p0)*(2:Int)))
 else some (wu64 ((wu64 ((wu64 (wi64 (0-(wi64 (p0+(1:Int))))))*(2:Int)))+(1:Int)))):=by kernel_rfl
def c44 (N:Nat):Sym.Callee:=⟨f44.args,f44.ta,f44.res,f44.tr,0,F44 N⟩
theorem ok44 (N:Nat):CalOK tab 44 (c44 N):=fn_ok (f44.ok0 N) fuelW 44 f44.args f44.ta f44.res f44.tr 0
namespace f45
def unr:Nat→Nat→Bool:=fun c i=>match c,i with
 |0,5=>true
 |0,100005=>true
 |_,_=>false
def ety:Nat→Nat→Option Ty:=fun c d=>match c,d with
 |0,9=>some (.int .u8)
 |_,_=>none
def args:List PSh:=[.agg [.int .u8,.int .i64,.int .i64,.int .i64]]
def ta:List Ty:=[.int .u8,.int .i64,.int .i64,.int .i64]
def res:List (Bool×List CSh):=[(false,[.sl (.int .u8) .d])]
def tr:List Ty:=[(.sl (.int .u8))]
def E0 (N:Nat):SEnv:=(((((SEnv.base tab cuts ccut bcut unr ety).addCal 77 (c77 N)).addCal 78 (c78 N)).addCal 79 (c79 N)).addCal 44 (c44 N)).addCal 43 (c43 N)
theorem ok0 (N:Nat):EnvOK tab (E0 N):=(((((base_ok tab cuts ccut bcut unr ety).addCal (ok77 N)).addCal (ok78 N)).addCal (ok79 N)).addCal (ok44 N)).addCal (ok43 N)
end f45
def F45 (N:Nat) (x:Int×Int×Int×Int):Option (List Int):=fnRun (f45.E0 N) fuelW 45 f45.args f45.ta f45.res f45.tr 0 x
open f45 in
theorem F45_eq (N:Nat) (p0:Int) (p1:Int) (p2:Int) (p3:Int):F45 N (p0,p1,p2,p3) =
 ((F77 N p0).bind fun y0=>
 ((F78 N (p0,p1,p2,p3)).bind fun y1=>
 ((idx y0 (0:Int)).bind fun c2=>
 (bif ((c2.toNat:Int)==(45:Int))
 then ((idx y0 (1:Int)).bind fun c3=>
 (bif ((c3.toNat:Int)==(45:Int))
 then ((idx y0 (2:Int)).bind fun c4=>
 (bif ((c4.toNat:Int)==(45:Int))
 then some [p0]
 else ((idx y0 (2:Int)).bind fun c5=>
 ((F79 N (c5.toNat:Int)).bind fun y6=>
 (bif y6
 then ((F44 N y1.2.2).bind fun y7=>
 ((F43 N y7).bind fun y8=>
 (chk (room (1+y8.length) 1)
 (some ([p0]++y8)))))
 else ((F43 N (wu64 y1.2.2)).bind fun y9=>
 (chk (room (1+y9.length) 1)
 (some ([p0]++y9)))))))))
 else ((idx y0 (1:Int)).bind fun c10=>
 ((F79 N (c10.toNat:Int)).bind fun y11=>
 (bif y11
 then ((F44 N y1.2.1).bind fun y12=>
 ((F43 N y12).bind fun y13=>
 (chk (room (1+y13.length) 1)
 (((idx y0 (2:Int)).bind fun c14=>
 (bif ((c14.toNat:Int)==(45:Int))
 then some ([p0]++y13)
 else ((idx y0 (2:Int)).bind fun c15=>
 ((F79 N (c15.toNat:Int)).bind fun y16=>
 (bif y16
 then ((F44 N y1.2.2).bind fun y17=>
 ((F43 N y17).bind fun y18=>
 (chk (room (([p0]++y13).length+y18.length) 1)
 (some (([p0]++y13)++y18)))))
 else ((F43 N (wu64 y1.2.2)).bind fun y19=>
 (chk (room (([p0]++y13).length+y19.length) 1)
 (some (([p0]++y13)++y19)))))))))))))
 else ((F43 N (wu64 y1.2.1)).bind fun y20=>
 (chk (room (1+y20.length) 1)
 (((idx y0 (2:Int)).bind fun c21=>
 (bif ((c21.toNat:Int)==(45:Int))
 then some ([p0]++y20)
 else ((idx y0 (2:Int)).bind fun c22=>
 ((F79 N (c22.toNat:Int)).bind fun y23=>
 (bif y23
 then ((F44 N y1.2.2).bind fun y24=>
 ((F43 N y24).bind fun y25=>
 (chk (room (([p0]++y20).length+y25.length) 1)
 (some (([p0]++y20)++y25)))))
 else ((F43 N (wu64 y1.2.2)).bind fun y26=>
 (chk (room (([p0]++y20).length+y26.length) 1)
 (some (([p0]++y20)++y26)))))))))))))))))
 else ((idx y0 (0:Int)).bind fun c27=>
 ((F79 N (c27.toNat:Int)).bind fun y28=>
 (bif y28
 then ((F44 N y1.1).bind fun y29=>
 ((F43 N y29).bind fun y30=>
 (chk (room (1+y30.length) 1)
 (((idx y0 (1:Int)).bind fun c31=>
 (bif ((c31.toNat:Int)==(45:Int))
 then ((idx y0 (2:Int)).bind fun c32=>
 (bif ((c32.toNat:Int)==(45:Int))
 then some ([p0]++y30)
 else ((idx y0 (2:Int)).bind fun c33=>
 ((F79 N (c33.toNat:Int)).bind fun y34=>
 (bif y34
 then ((F44 N y1.2.2).bind fun y35=>
 ((F43 N y35).bind fun y36=>
 (chk (room (([p0]++y30).length+y36.length) 1)
 (some (([p0]++y30)++y36)))))
 else ((F43 N (wu64 y1.2.2)).bind fun y37=>
 (chk (room (([p0]++y30).length+y37.length) 1)
 (some (([p0]++y30)++y37)))))))))
 else ((idx y0 (1:Int)).bind fun c38=>
 ((F79 N (c38.toNat:Int)).bind fun y39=>
 (bif y39
 then ((F44 N y1.2.1).bind fun y40=>
 ((F43 N y40).bind fun y41=>
 (chk (room (([p0]++y30).length+y41.length) 1)
 (((idx y0 (2:Int)).bind fun c42=>
 (bif ((c42.toNat:Int)==(45:Int))
 then some (([p0]++y30)++y41)
 else ((idx y0 (2:Int)).bind fun c43=>
 ((F79 N (c43.toNat:Int)).bind fun y44=>
 (bif y44
 then ((F44 N y1.2.2).bind fun y45=>
 ((F43 N y45).bind fun y46=>
 (chk (room ((([p0]++y30)++y41).length+y46.length) 1)
 (some ((([p0]++y30)++y41)++y46)))))
 else ((F43 N (wu64 y1.2.2)).bind fun y47=>
 (chk (room ((([p0]++y30)++y41).length+y47.length) 1)
 (some ((([p0]++y30)++y41)++y47)))))))))))))
 else ((F43 N (wu64 y1.2.1)).bind fun y48=>
 (chk (room (([p0]++y30).length+y48.length) 1)
 (((idx y0 (2:Int)).bind fun c49=>
 (bif ((c49.toNat:Int)==(45:Int))
 then some (([p0]++y30)++y48)
 else ((idx y0 (2:Int)).bind fun c50=>
 ((F79 N (c50.toNat:Int)).bind fun y51=>
 (bif y51
 then ((F44 N y1.2.2).bind fun y52=>
 ((F43 N y52).bind fun y53=>
 (chk (room ((([p0]++y30)++y48).length+y53.length) 1)
 (some ((([p0]++y30)++y48)++y53)))))
 else ((F43 N (wu64 y1.2.2)).bind fun y54=>
 (chk (room ((([p0]++y30)++y48).length+y54.length) 1)
 (some ((([p0]++y30)++y48)++y54)))))))))))))))))))))
 else ((F43 N (wu64 y1.1)).bind fun y55=>
 (chk (room (1+y55.length) 1)
 (((idx y0 (1:Int)).bind fun c56=>
 (bif ((c56.toNat:Int)==(45:Int))
 then ((idx y0 (2:Int)).bind fun c57=>
 (bif ((c57.toNat:Int)==(45:Int))
 then some ([p0]++y55)
 else ((idx y0 (2:Int)).bind fun c58=>
 ((F79 N (c58.toNat:Int)).bind fun y59=>
 (bif y59
 then ((F44 N y1.2.2).bind fun y60=>
 ((F43 N y60).bind fun y61=>
 (chk (room (([p0]++y55).length+y61.length) 1)
 (some (([p0]++y55)++y61)))))
 else ((F43 N (wu64 y1.2.2)).bind fun y62=>
 (chk (room (([p0]++y55).length+y62.length) 1)
 (some (([p0]++y55)++y62)))))))))
 else ((idx y0 (1:Int)).bind fun c63=>
 ((F79 N (c63.toNat:Int)).bind fun y64=>
 (bif y64
 then ((F44 N y1.2.1).bind fun y65=>
 ((F43 N y65).bind fun y66=>
 (chk (room (([p0]++y55).length+y66.length) 1)
 (((idx y0 (2:Int)).bind fun c67=>
 (bif ((c67.toNat:Int)==(45:Int))
 then some (([p0]++y55)++y66)
 else ((idx y0 (2:Int)).bind fun c68=>
 ((F79 N (c68.toNat:Int)).bind fun y69=>
 (bif y69
 then ((F44 N y1.2.2).bind fun y70=>
 ((F43 N y70).bind fun y71=>
 (chk (room ((([p0]++y55)++y66).length+y71.length) 1)
 (some ((([p0]++y55)++y66)++y71)))))
 else ((F43 N (wu64 y1.2.2)).bind fun y72=>
 (chk (room ((([p0]++y55)++y66).length+y72.length) 1)
 (some ((([p0]++y55)++y66)++y72)))))))))))))
 else ((F43 N (wu64 y1.2.1)).bind fun y73=>
 (chk (room (([p0]++y55).length+y73.length) 1)
 (((idx y0 (2:Int)).bind fun c74=>
 (bif ((c74.toNat:Int)==(45:Int))
 then some (([p0]++y55)++y73)
 else ((idx y0 (2:Int)).bind fun c75=>
 ((F79 N (c75.toNat:Int)).bind fun y76=>
 (bif y76
 then ((F44 N y1.2.2).bind fun y77=>
 ((F43 N y77).bind fun y78=>
 (chk (room ((([p0]++y55)++y73).length+y78.length) 1)
 (some ((([p0]++y55)++y73)++y78)))))
 else ((F43 N (wu64 y1.2.2)).bind fun y79=>
 (chk (room ((([p0]++y55)++y73).length+y79.length) 1)
 (some ((([p0]++y55)++y73)++y79))))))))))))))))))))))))))):=by kernel_rfl
def c45 (N:Nat):Sym.Callee:=⟨f45.args,f45.ta,f45.res,f45.tr,0,F45 N⟩
theorem ok45 (N:Nat):CalOK tab 45 (c45 N):=fn_ok (f45.ok0 N) fuelW 45 f45.args f45.ta f45.res f45.tr 0
namespace f46
def args:List PSh:=[.c (.sl TRun .bor)]
def ta:List Ty:=[.sl TRun]
def res:List (Bool×List CSh):=[(false,[.sl (.int .u8) .d])]
def tr:List Ty:=[(.sl (.int .u8))]
def E0 (N:Nat):SEnv:=(SEnv.base tab cuts ccut bcut unr ety).addCal 43 (c43 N)
theorem ok0 (N:Nat):EnvOK tab (E0 N):=(base_ok tab cuts ccut bcut unr ety).addCal (ok43 N)
def T0_5:Tmpl:=⟨[(0,.c (.sl TRun .bor)),(3,.c (.ref 0 9 0 (.int .u8))),(4,.c (.int .i64)),(5,.c (.int .i64))],[],[(0,9,.row 0 (.int .u8))],1,[],1,[.sl TRun,.int .i64,.int .i64,(.sl (.int .u8))]⟩
def O0_5:Outs:=[(.exit 0,⟨[(3,.c (.ref 0 9 0 (.int .u8)))],[],[(0,9,.row 0 (.int .u8))],1,[],1,[(.sl (.int .u8))]⟩)]
def L0_5 (N:Nat) (k:Nat) (x:List Run×Int×Int×List Int):Option ((List Int)):=loopF (loopStep (E0 N) fuelW 0 5 (bodyAt t46 5) T0_5 O0_5) k x
theorem L0_5_succ (N:Nat) (k:Nat) (v1:List Run) (v2:Int) (v3:Int) (v4:List Int):L0_5 N (k+1) (v1,v2,v3,v4) =
 (bif (decide (v3<(v1.length:Int)))
 then ((idx v1 v3).bind fun x5=>
 ((F43 N (wu64 (wi64 (x5.1-v2)))).bind fun y6=>
 (chk (room (v4.length+y6.length) 1)
 (((idx v1 v3).bind fun x7=>
 ((F43 N x7.2).bind fun y8=>
 (chk (room ((v4++y6).length+y8.length) 1)
 (((idx v1 v3).bind fun x9=>
 L0_5 N k (v1,x9.1,(wi64 (v3+(1:Int))),((v4++y6)++y8)))))))))))
 else some v4):=by kernel_rfl
def E1 (N:Nat):SEnv:=(E0 N).addLoop N 0 5 T0_5 O0_5
theorem ok1 (N:Nat):EnvOK tab (E1 N):=(ok0 N).addLoop N 0 5 T0_5 O0_5
end f46
def F46 (N:Nat) (x:List Run):Option (List Int):=fnRun (f46.E1 N) fuelW 46 f46.args f46.ta f46.res f46.tr 0 x
open f46 in
theorem F46_eq (N:Nat) (p0:List Run):F46 N p0 =
 ((F43 N (wu64 (p0.length:Int))).bind fun y0=>
 ((L0_5 N N (p0,(0:Int),(0:Int),y0)).bind fun y10=>
 some y10)):=by kernel_rfl
def c46 (N:Nat):Sym.Callee:=⟨f46.args,f46.ta,f46.res,f46.tr,0,F46 N⟩
theorem ok46 (N:Nat):CalOK tab 46 (c46 N):=fn_ok (f46.ok1 N) fuelW 46 f46.args f46.ta f46.res f46.tr 0
namespace f17
def bcut:Nat→Nat→Option (Nat×Ty):=fun c i=>match c,i with
 |0,13=>some (33,.bool)
 |_,_=>none
def ety:Nat→Nat→Option Ty:=fun c d=>match c,d with
 |0,29=>some (.int .u8)
 |_,_=>none
def args:List PSh:=[.agg [.sl TGType .bor,.sl .str .bor,.sl TFunc .bor]]
def ta:List Ty:=[.sl TGType,.sl .str,.sl TFunc]
def res:List (Bool×List CSh):=[(false,[.sl (.int .u8) .d])]
def tr:List Ty:=[(.sl (.int .u8))]
def E0 (N:Nat):SEnv:=(((((((SEnv.base tab cuts ccut bcut unr ety).addCal 40 (c40 N)).addCal 41 (c41 N)).addCal 42 (c42 N)).addCal 44 (c44 N)).addCal 43 (c43 N)).addCal 45 (c45 N)).addCal 46 (c46 N)
theorem ok0 (N:Nat):EnvOK tab (E0 N):=(((((((base_ok tab cuts ccut bcut unr ety).addCal (ok40 N)).addCal (ok41 N)).addCal (ok42 N)).addCal (ok44 N)).addCal (ok43 N)).addCal (ok45 N)).addCal (ok46 N)
def T0_4:Tmpl:=⟨[(1,.c (.ptr 0 1 0 0 0)),(3,.c (.ref 0 13 1 (.int .u8))),(4,.c (.int .i64))],[],[(0,1,.box 0 [.sl TGType .bor,.sl .str .bor,.sl TFunc .bor]),(0,13,.row 1 (.int .u8))],1,[],2,[.int .i64,.sl TGType,.sl .str,.sl TFunc,(.sl (.int .u8))]⟩
def O0_4:Outs:=[(.exit 0,⟨[(1,.c (.ptr 0 1 0 0 0)),(3,.c (.ref 0 13 1 (.int .u8)))],[],[(0,1,.box 0 [.sl TGType .bor,.sl .str .bor,.sl TFunc .bor]),(0,13,.row 1 (.int .u8))],1,[],2,[.sl TGType,.sl .str,.sl TFunc,(.sl (.int .u8))]⟩)]
def L0_4 (N:Nat) (k:Nat) (x:Int×List GType×(List (List UInt8))×List Func×List Int):Option ((List GType×(List (List UInt8))×List Func×List Int)):=loopF (loopStep (E0 N) fuelW 0 4 (bodyAt t17 4) T0_4 O0_4) k x
theorem L0_4_succ (N:Nat) (k:Nat) (v1:Int) (v2:List GType) (v3:List (List UInt8)) (v4:List Func) (v5:List Int):L0_4 N (k+1) (v1,v2,v3,v4,v5) =
 (bif (decide (v1<(v2.length:Int)))
 then ((idx v2 v1).bind fun x6=>
 (chk (room (v5.length+1) 1)
 ((Option.bind ((bif (x6.1==(4:Int))
 then some true
 else some (x6.1==(7:Int)))) fun b7=>
 (bif b7
 then ((F40 N x6.2.1).bind fun y8=>
 (chk (room ((v5++[x6.1]).length+y8.length) 1)
 (L0_4 N k ((wi64 (v1+(1:Int))),v2,v3,v4,((v5++[x6.1])++y8)))))
 else (bif (x6.1==(6:Int))
 then ((F40 N x6.2.1).bind fun y9=>
 (chk (room ((v5++[x6.1]).length+y9.length) 1)
 (((F40 N x6.2.2.1).bind fun y10=>
 (chk (room (((v5++[x6.1])++y9).length+y10.length) 1)
 (L0_4 N k ((wi64 (v1+(1:Int))),v2,v3,v4,(((v5++[x6.1])++y9)++y10))))))))
 else (bif (x6.1==(5:Int))
 then ((F41 N x6.2.2.2).bind fun y11=>
 (chk (room ((v5++[x6.1]).length+y11.length) 1)
 (L0_4 N k ((wi64 (v1+(1:Int))),v2,v3,v4,((v5++[x6.1])++y11)))))
 else L0_4 N k ((wi64 (v1+(1:Int))),v2,v3,v4,(v5++[x6.1])))))))))
 else some (v2,v3,v4,v5)):=by kernel_rfl
def E1 (N:Nat):SEnv:=(E0 N).addLoop N 0 4 T0_4 O0_4
theorem ok1 (N:Nat):EnvOK tab (E1 N):=(ok0 N).addLoop N 0 4 T0_4 O0_4
def T0_27:Tmpl:=⟨[(1,.c (.ptr 0 1 0 0 0)),(3,.c (.ref 0 13 1 (.int .u8))),(6,.c (.int .i64))],[],[(0,1,.box 0 [.sl TGType .bor,.sl .str .bor,.sl TFunc .bor]),(0,13,.row 1 (.int .u8))],1,[],2,[.int .i64,.sl TGType,.sl .str,.sl TFunc,(.sl (.int .u8))]⟩
def O0_27:Outs:=[(.exit 3,⟨[(1,.c (.ptr 0 1 0 0 0)),(3,.c (.ref 0 13 1 (.int .u8)))],[],[(0,1,.box 0 [.sl TGType .bor,.sl .str .bor,.sl TFunc .bor]),(0,13,.row 1 (.int .u8))],1,[],2,[.sl TGType,.sl .str,.sl TFunc,(.sl (.int .u8))]⟩)]
def L0_27 (N:Nat) (k:Nat) (x:Int×List GType×(List (List UInt8))×List Func×List Int):Option ((List GType×(List (List UInt8))×List Func×List Int)):=loopF (loopStep (E1 N) fuelW 0 27 (bodyAt t17 27) T0_27 O0_27) k x
theorem L0_27_succ (N:Nat) (k:Nat) (v14:Int) (v15:List GType) (v16:List (List UInt8)) (v17:List Func) (v18:List Int):L0_27 N (k+1) (v14,v15,v16,v17,v18) =
 (bif (decide (v14<(v16.length:Int)))
 then ((idx v16 v14).bind fun x19=>
 ((F42 N x19).bind fun y20=>
 (chk (room (v18.length+y20.length) 1)
 (L0_27 N k ((wi64 (v14+(1:Int))),v15,v16,v17,(v18++y20))))))
 else some (v15,v16,v17,v18)):=by kernel_rfl
def E2 (N:Nat):SEnv:=(E1 N).addLoop N 0 27 T0_27 O0_27
theorem ok2 (N:Nat):EnvOK tab (E2 N):=(ok1 N).addLoop N 0 27 T0_27 O0_27
def T0_46:Tmpl:=⟨[(1,.c (.ptr 0 1 0 0 0)),(3,.c (.ref 0 13 1 (.int .u8))),(7,.c (.int .i64)),(8,.c (.ptr 0 8 2 0 0)),(9,.c (.int .i64))],[],[(0,1,.box 0 [.sl TGType .bor,.sl .str .bor,.sl TFunc .bor]),(0,13,.row 1 (.int .u8)),(0,8,.box 2 [.str,.int .i64,.int .i64,.sl TField .d,.sl TInstr .d,.sl TRun .d,.sl TRun .d])],1,[],3,[.int .i64,.int .i64,.sl TGType,.sl .str,.sl TFunc,(.sl (.int .u8)),.str,.int .i64,.int .i64,.sl TField,.sl TInstr,.sl TRun,.sl TRun]⟩
def O0_46:Outs:=[(.exit 7,⟨[(1,.c (.ptr 0 1 0 0 0)),(3,.c (.ref 0 13 1 (.int .u8))),(7,.c (.int .i64)),(8,.c (.ptr 0 8 2 0 0))],[],[(0,1,.box 0 [.sl TGType .bor,.sl .str .bor,.sl TFunc .bor]),(0,13,.row 1 (.int .u8)),(0,8,.box 2 [.str,.int .i64,.int .i64,.sl TField .d,.sl TInstr .d,.sl TRun .d,.sl TRun .d])],1,[],3,[.int .i64,.sl TGType,.sl .str,.sl TFunc,(.sl (.int .u8)),.str,.int .i64,.int .i64,.sl TField,.sl TInstr,.sl TRun,.sl TRun]⟩)]
def L0_46 (N:Nat) (k:Nat) (x:Int×Int×List GType×(List (List UInt8))×List Func×List Int×List UInt8×Int×Int×List Field×List Instr×List Run×List Run):Option ((Int×List GType×(List (List UInt8))×List Func×List Int×List UInt8×Int×Int×List Field×List Instr×List Run×List Run)):=loopF (loopStep (E2 N) fuelW 0 46 (bodyAt t17 46) T0_46 O0_46) k x
theorem L0_46_succ (N:Nat) (k:Nat) (v35:Int) (v36:Int) (v37:List GType) (v38:List (List UInt8)) (v39:List Func) (v40:List Int) (v41:List UInt8) (v42:Int) (v43:Int) (v44:List Field) (v45:List Instr) (v46:List Run) (v47:List Run):L0_46 N (k+1) (v35,v36,v37,v38,v39,v40,v41,v42,v43,v44,v45,v46,v47) =
 (bif (decide (v36<(v45.length:Int)))
 then ((idx v45 v36).bind fun x48=>
 ((F45 N (x48.1,x48.2.1,x48.2.2.1,x48.2.2.2)).bind fun y49=>
 (chk (room (v40.length+y49.length) 1)
 (L0_46 N k (v35,(wi64 (v36+(1:Int))),v37,v38,v39,(v40++y49),v41,v42,v43,v44,v45,v46,v47)))))
 else some (v35,v37,v38,v39,v40,v41,v42,v43,v44,v45,v46,v47)):=by kernel_rfl
def E3 (N:Nat):SEnv:=(E2 N).addLoop N 0 46 T0_46 O0_46
theorem ok3 (N:Nat):EnvOK tab (E3 N):=(ok2 N).addLoop N 0 46 T0_46 O0_46
def T0_36:Tmpl:=⟨[(1,.c (.ptr 0 1 0 0 0)),(3,.c (.ref 0 13 1 (.int .u8))),(7,.c (.int .i64))],[],[(0,1,.box 0 [.sl TGType .bor,.sl .str .bor,.sl TFunc .bor]),(0,13,.row 1 (.int .u8))],1,[],2,[.int .i64,.sl TGType,.sl .str,.sl TFunc,(.sl (.int .u8))]⟩
def O0_36:Outs:=[(.exit 5,⟨[(3,.c (.ref 0 13 0 (.int .u8)))],[],[(0,13,.row 0 (.int .u8))],1,[],1,[(.sl (.int .u8))]⟩)]
def L0_36 (N:Nat) (k:Nat) (x:Int×List GType×(List (List UInt8))×List Func×List Int):Option ((List Int)):=loopF (loopStep (E3 N) fuelW 0 36 (bodyAt t17 36) T0_36 O0_36) k x
theorem L0_36_succ (N:Nat) (k:Nat) (v23:Int) (v24:List GType) (v25:List (List UInt8)) (v26:List Func) (v27:List Int):L0_36 N (k+1) (v23,v24,v25,v26,v27) =
 (bif (decide (v23<(v26.length:Int)))
 then ((idx v26 v23).bind fun x28=>
 ((F42 N x28.1).bind fun y29=>
 (chk (room (v27.length+y29.length) 1)
 (((F40 N x28.2.1).bind fun y30=>
 (chk (room ((v27++y29).length+y30.length) 1)
 (((F44 N x28.2.2.1).bind fun y31=>
 ((F43 N y31).bind fun y32=>
 (chk (room (((v27++y29)++y30).length+y32.length) 1)
 (((F41 N x28.2.2.2.1).bind fun y33=>
 (chk (room ((((v27++y29)++y30)++y32).length+y33.length) 1)
 (((F40 N (x28.2.2.2.2.1.length:Int)).bind fun y34=>
 (chk (room (((((v27++y29)++y30)++y32)++y33).length+y34.length) 1)
 (((L0_46 N N (v23,(0:Int),v24,v25,v26,(((((v27++y29)++y30)++y32)++y33)++y34),x28.1,x28.2.1,x28.2.2.1,x28.2.2.2.1,x28.2.2.2.2.1,x28.2.2.2.2.2.1,x28.2.2.2.2.2.2)).bind fun y50=>
 ((F46 N y50.2.2.2.2.2.2.2.2.2.2.1).bind fun y51=>
 (chk (room (y50.2.2.2.2.1.length+y51.length) 1)
 (((F46 N y50.2.2.2.2.2.2.2.2.2.2.2).bind fun y52=>
 (chk (room ((y50.2.2.2.2.1++y51).length+y52.length) 1)
 (L0_36 N k ((wi64 (y50.1+(1:Int))),y50.2.1,y50.2.2.1,y50.2.2.2.1,((y50.2.2.2.2.1++y51)++y52))))))))))))))))))))))))))
 else some v27):=by kernel_rfl
def E4 (N:Nat):SEnv:=(E3 N).addLoop N 0 36 T0_36 O0_36
theorem ok4 (N:Nat):EnvOK tab (E4 N):=(ok3 N).addLoop N 0 36 T0_36 O0_36
end f17
def F17 (N:Nat) (x:List GType×(List (List UInt8))×List Func):Option (List Int):=fnRun (f17.E4 N) fuelW 17 f17.args f17.ta f17.res f17.tr 0 x
open f17 in
theorem F17_eq (N:Nat) (p0:List GType) (p1:List (List UInt8)) (p2:List Func):F17 N (p0,p1,p2) =
 ((F40 N (p0.length:Int)).bind fun y0=>
 ((L0_4 N N ((0:Int),p0,p1,p2,y0)).bind fun y12=>
 ((F40 N (y12.2.1.length:Int)).bind fun y13=>
 (chk (room (y12.2.2.2.length+y13.length) 1)
 (((L0_27 N N ((0:Int),y12.1,y12.2.1,y12.2.2.1,(y12.2.2.2++y13))).bind fun y21=>
 ((F40 N (y21.2.2.1.length:Int)).bind fun y22=>
 (chk (room (y21.2.2.2.length+y22.length) 1)
 (((L0_36 N N ((0:Int),y21.1,y21.2.1,y21.2.2.1,(y21.2.2.2++y22))).bind fun y53=>
 some y53)))))))))):=by kernel_rfl
def c17 (N:Nat):Sym.Callee:=⟨f17.args,f17.ta,f17.res,f17.tr,0,F17 N⟩
theorem ok17 (N:Nat):CalOK tab 17 (c17 N):=fn_ok (f17.ok4 N) fuelW 17 f17.args f17.ta f17.res f17.tr 0
namespace f5
def bcut:Nat→Nat→Option (Nat×Ty):=fun c i=>match c,i with
 |0,10=>some (25,.bool)
 |0,19=>some (42,.bool)
 |0,28=>some (59,.bool)
 |_,_=>none
def ety:Nat→Nat→Option Ty:=fun c d=>match c,d with
 |0,31=>some TGType
 |0,48=>some .str
 |0,65=>some TFunc
 |_,_=>none
def args:List PSh:=[.c (.sl (.int .u8) .d)]
def ta:List Ty:=[(.sl (.int .u8))]
def res:List (Bool×List CSh):=[(true,[.sl TGType .d,.sl .str .d,.sl TFunc .d]),(false,[.int .i64])]
def tr:List Ty:=[.sl TGType,.sl .str,.sl TFunc,.int .i64]
def E0 (N:Nat):SEnv:=((((((SEnv.base tab cuts ccut bcut unr ety).addCal 12 (c12 N)).addCal 13 (c13 N)).addCal 14 (c14 N)).addCal 15 (c15 N)).addCal 16 (c16 N)).addCal 17 (c17 N)
theorem ok0 (N:Nat):EnvOK tab (E0 N):=((((((base_ok tab cuts ccut bcut unr ety).addCal (ok12 N)).addCal (ok13 N)).addCal (ok14 N)).addCal (ok15 N)).addCal (ok16 N)).addCal (ok17 N)
def T0_9:Tmpl:=⟨[(0,.c (.sl (.int .u8) .d)),(2,.c (.ptr 0 2 0 0 0)),(4,.c (.ptr 0 4 1 0 0)),(5,.c (.ptr 0 5 2 0 0)),(6,.c (.int .i64)),(7,.c (.int .i64))],[],[(0,2,.box 0 [.nil true,.nil true,.nil true]),(0,4,.box 1 [.sl (.int .u8) .d,.int .i64,.bool]),(0,5,.box 2 [.sl TGType (.app 3),.nil true,.nil true])],1,[3],4,[(.sl (.int .u8)),.int .i64,.int .i64,(.sl (.int .u8)),.int .i64,.bool,.sl TGType]⟩
def O0_9:Outs:=[(.exit 0,⟨[(0,.c (.sl (.int .u8) .d)),(2,.c (.ptr 0 2 0 0 0)),(4,.c (.ptr 0 4 1 0 0)),(5,.c (.ptr 0 5 2 0 0))],[],[(0,2,.box 0 [.nil true,.nil true,.nil true]),(0,4,.box 1 [.sl (.int .u8) .d,.int .i64,.bool]),(0,5,.box 2 [.sl TGType (.app 3),.nil true,.nil true])],1,[3],4,[(.sl (.int .u8)),(.sl (.int .u8)),.int .i64,.bool,.sl TGType]⟩)]
def L0_9 (N:Nat) (k:Nat) (x:List Int×Int×Int×List Int×Int×Bool×List GType):Option ((List Int×List Int×Int×Bool×List GType)):=loopF (loopStep (E0 N) fuelW 0 9 (bodyAt t5 9) T0_9 O0_9) k x
theorem L0_9_succ (N:Nat) (k:Nat) (v1:List Int) (v2:Int) (v3:Int) (v4:List Int) (v5:Int) (v6:Bool) (v7:List GType):L0_9 N (k+1) (v1,v2,v3,v4,v5,v6,v7) =
 (Option.bind ((bif (decide (v3<v2))
 then some (!v6)
 else some false)) fun b8=>
 (bif b8
 then ((F13 N (v4,v5,v6)).bind fun y9=>
 (chk (room (v7.length+1) 48)
 (L0_9 N k (v1,v2,(wi64 (v3+(1:Int))),y9.1,y9.2.1,y9.2.2.1,(v7++[y9.2.2.2])))))
 else some (v1,v4,v5,v6,v7))):=by kernel_rfl
def E1 (N:Nat):SEnv:=(E0 N).addLoop N 0 9 T0_9 O0_9
theorem ok1 (N:Nat):EnvOK tab (E1 N):=(ok0 N).addLoop N 0 9 T0_9 O0_9
def T0_18:Tmpl:=⟨[(0,.c (.sl (.int .u8) .d)),(2,.c (.ptr 0 2 0 0 0)),(4,.c (.ptr 0 4 1 0 0)),(5,.c (.ptr 0 5 2 0 0)),(6,.c (.int .i64)),(8,.c (.int .i64))],[],[(0,2,.box 0 [.nil true,.nil true,.nil true]),(0,4,.box 1 [.sl (.int .u8) .d,.int .i64,.bool]),(0,5,.box 2 [.sl TGType (.app 4),.sl .str (.app 3),.nil true])],1,[4,3],5,[(.sl (.int .u8)),.int .i64,.int .i64,(.sl (.int .u8)),.int .i64,.bool,.sl TGType,.sl .str]⟩
def O0_18:Outs:=[(.exit 2,⟨[(0,.c (.sl (.int .u8) .d)),(2,.c (.ptr 0 2 0 0 0)),(4,.c (.ptr 0 4 1 0 0)),(5,.c (.ptr 0 5 2 0 0))],[],[(0,2,.box 0 [.nil true,.nil true,.nil true]),(0,4,.box 1 [.sl (.int .u8) .d,.int .i64,.bool]),(0,5,.box 2 [.sl TGType (.app 3),.sl .str (.app 4),.nil true])],1,[3,4],5,[(.sl (.int .u8)),(.sl (.int .u8)),.int .i64,.bool,.sl TGType,.sl .str]⟩)]
def L0_18 (N:Nat) (k:Nat) (x:List Int×Int×Int×List Int×Int×Bool×List GType×List (List UInt8)):Option ((List Int×List Int×Int×Bool×List GType×List (List UInt8))):=loopF (loopStep (E1 N) fuelW 0 18 (bodyAt t5 18) T0_18 O0_18) k x
theorem L0_18_succ (N:Nat) (k:Nat) (v12:List Int) (v13:Int) (v14:Int) (v15:List Int) (v16:Int) (v17:Bool) (v18:List GType) (v19:List (List UInt8)):L0_18 N (k+1) (v12,v13,v14,v15,v16,v17,v18,v19) =
 (Option.bind ((bif (decide (v14<v13))
 then some (!v17)
 else some false)) fun b20=>
 (bif b20
 then ((F14 N (v15,v16,v17,(1000:Int))).bind fun y21=>
 (chk (room (v19.length+1) 16)
 (L0_18 N k (v12,v13,(wi64 (v14+(1:Int))),y21.1,y21.2.1,y21.2.2.1,v18,(v19++[y21.2.2.2])))))
 else some (v12,v15,v16,v17,v18,v19))):=by kernel_rfl
def E2 (N:Nat):SEnv:=(E1 N).addLoop N 0 18 T0_18 O0_18
theorem ok2 (N:Nat):EnvOK tab (E2 N):=(ok1 N).addLoop N 0 18 T0_18 O0_18
def T0_27:Tmpl:=⟨[(0,.c (.sl (.int .u8) .d)),(2,.c (.ptr 0 2 0 0 0)),(4,.c (.ptr 0 4 1 0 0)),(5,.c (.ptr 0 5 2 0 0)),(6,.c (.int .i64)),(9,.c (.int .i64))],[],[(0,2,.box 0 [.nil true,.nil true,.nil true]),(0,4,.box 1 [.sl (.int .u8) .d,.int .i64,.bool]),(0,5,.box 2 [.sl TGType (.app 4),.sl .str (.app 5),.sl TFunc (.app 3)])],1,[4,5,3],6,[(.sl (.int .u8)),.int .i64,.int .i64,(.sl (.int .u8)),.int .i64,.bool,.sl TGType,.sl .str,.sl TFunc]⟩
def O0_27:Outs:=[(.exit 4,⟨[(0,.c (.sl (.int .u8) .d)),(2,.c (.ptr 0 2 0 0 0)),(4,.c (.ptr 0 4 1 0 0)),(5,.c (.ptr 0 5 2 0 0))],[],[(0,2,.box 0 [.nil true,.nil true,.nil true]),(0,4,.box 1 [.sl (.int .u8) .d,.int .i64,.bool]),(0,5,.box 2 [.sl TGType (.app 3),.sl .str (.app 4),.sl TFunc (.app 5)])],1,[3,4,5],6,[(.sl (.int .u8)),(.sl (.int .u8)),.int .i64,.bool,.sl TGType,.sl .str,.sl TFunc]⟩)]
def L0_27 (N:Nat) (k:Nat) (x:List Int×Int×Int×List Int×Int×Bool×List GType×(List (List UInt8))×List Func):Option ((List Int×List Int×Int×Bool×List GType×(List (List UInt8))×List Func)):=loopF (loopStep (E2 N) fuelW 0 27 (bodyAt t5 27) T0_27 O0_27) k x
theorem L0_27_succ (N:Nat) (k:Nat) (v24:List Int) (v25:Int) (v26:Int) (v27:List Int) (v28:Int) (v29:Bool) (v30:List GType) (v31:List (List UInt8)) (v32:List Func):L0_27 N (k+1) (v24,v25,v26,v27,v28,v29,v30,v31,v32) =
 (Option.bind ((bif (decide (v26<v25))
 then some (!v29)
 else some false)) fun b33=>
 (bif b33
 then ((F15 N (v27,v28,v29)).bind fun y34=>
 (chk (room (v32.length+1) 128)
 (L0_27 N k (v24,v25,(wi64 (v26+(1:Int))),y34.1,y34.2.1,y34.2.2.1,v30,v31,(v32++[y34.2.2.2])))))
 else some (v24,v27,v28,v29,v30,v31,v32))):=by kernel_rfl
def E3 (N:Nat):SEnv:=(E2 N).addLoop N 0 27 T0_27 O0_27
theorem ok3 (N:Nat):EnvOK tab (E3 N):=(ok2 N).addLoop N 0 27 T0_27 O0_27
end f5
def F5 (N:Nat) (x:List Int):Option (List GType×(List (List UInt8))×List Func×Int):=fnRun (f5.E3 N) fuelW 5 f5.args f5.ta f5.res f5.tr 0 x
open f5 in
theorem F5_eq (N:Nat) (p0:List Int):F5 N p0 =
 (bif (decide ((p0.length:Int)>(20000:Int)))
 then some ([],[],[],(4:Int))
 else ((F12 N (p0,(0:Int),false,(1000:Int))).bind fun y0=>
 ((L0_9 N N (p0,y0.2.2.2,(0:Int),y0.1,y0.2.1,y0.2.2.1,[])).bind fun y10=>
 ((F12 N (y10.2.1,y10.2.2.1,y10.2.2.2.1,(1000:Int))).bind fun y11=>
 ((L0_18 N N (y10.1,y11.2.2.2,(0:Int),y11.1,y11.2.1,y11.2.2.1,y10.2.2.2.2,[])).bind fun y22=>
 ((F12 N (y22.2.1,y22.2.2.1,y22.2.2.2.1,(1000:Int))).bind fun y23=>
 ((L0_27 N N (y22.1,y23.2.2.2,(0:Int),y23.1,y23.2.1,y23.2.2.1,y22.2.2.2.2.1,y22.2.2.2.2.2,[])).bind fun y35=>
 (bif y35.2.2.2.1
 then some ([],[],[],(12:Int))
 else (bif (y35.2.2.1 != (y35.1.length:Int))
 then some ([],[],[],(12:Int))
 else ((F16 N (y35.2.2.2.2.1,y35.2.2.2.2.2.1,y35.2.2.2.2.2.2)).bind fun y36=>
 (bif (!y36)
 then some ([],[],[],(12:Int))
 else ((F17 N (y35.2.2.2.2.1,y35.2.2.2.2.2.1,y35.2.2.2.2.2.2)).bind fun y37=>
 (bif (!((y37.map fun (n:Int)=>UInt8.ofNat n.toNat)==(y35.1.map fun (n:Int)=>UInt8.ofNat n.toNat)))
 then some ([],[],[],(12:Int))
 else some (y35.2.2.2.2.1,y35.2.2.2.2.2.1,y35.2.2.2.2.2.2,(0:Int))))))))))))))):=by kernel_rfl
def c5 (N:Nat):Sym.Callee:=⟨f5.args,f5.ta,f5.res,f5.tr,0,F5 N⟩
theorem ok5 (N:Nat):CalOK tab 5 (c5 N):=fn_ok (f5.ok3 N) fuelW 5 f5.args f5.ta f5.res f5.tr 0
namespace f47
def args:List PSh:=[.c (.sl TField .bor),.c (.sl TField .bor)]
def ta:List Ty:=[.sl TField,.sl TField]
def res:List (Bool×List CSh):=[(false,[.bool])]
def tr:List Ty:=[.bool]
def E0 (N:Nat):SEnv:=SEnv.base tab cuts ccut bcut unr ety
theorem ok0 (N:Nat):EnvOK tab (E0 N):=base_ok tab cuts ccut bcut unr ety
def T0_6:Tmpl:=⟨[(0,.c (.sl TField .bor)),(1,.c (.sl TField .bor)),(5,.c (.int .i64))],[],[],1,[],0,[.sl TField,.sl TField,.int .i64]⟩
def O0_6:Outs:=[(.ret,⟨[(4,.c (.bool))],[],[],1,[],0,[.bool]⟩),(.exit 0,⟨[],[],[],1,[],0,[]⟩)]
def L0_6 (N:Nat) (k:Nat) (x:List Field×List Field×Int):Option (Bool⊕Unit):=loopF (loopStep (E0 N) fuelW 0 6 (bodyAt t47 6) T0_6 O0_6) k x
theorem L0_6_succ (N:Nat) (k:Nat) (v0:List Field) (v1:List Field) (v2:Int):L0_6 N (k+1) (v0,v1,v2) =
 (bif (decide (v2<(v0.length:Int)))
 then ((idx v0 v2).bind fun x3=>
 ((idx v1 v2).bind fun x4=>
 (bif (!(x3.1==x4.1&&(x3.2==x4.2&&true)))
 then some (Sum.inl false)
 else L0_6 N k (v0,v1,(wi64 (v2+(1:Int)))))))
 else some (Sum.inr ())):=by kernel_rfl
def E1 (N:Nat):SEnv:=(E0 N).addLoop N 0 6 T0_6 O0_6
theorem ok1 (N:Nat):EnvOK tab (E1 N):=(ok0 N).addLoop N 0 6 T0_6 O0_6
end f47
def F47 (N:Nat) (x:List Field×List Field):Option Bool:=fnRun (f47.E1 N) fuelW 47 f47.args f47.ta f47.res f47.tr 0 x
open f47 in
theorem F47_eq (N:Nat) (p0:List Field) (p1:List Field):F47 N (p0,p1) =
 (bif ((p0.length:Int) != (p1.length:Int))
 then some false
 else ((L0_6 N N (p0,p1,(0:Int))).bind fun y5=>
 (match y5 with
 |.inl a6=>some a6
 |.inr b7=>some true))):=by kernel_rfl
def c47 (N:Nat):Sym.Callee:=⟨f47.args,f47.ta,f47.res,f47.tr,0,F47 N⟩
theorem ok47 (N:Nat):CalOK tab 47 (c47 N):=fn_ok (f47.ok1 N) fuelW 47 f47.args f47.ta f47.res f47.tr 0
namespace f18
def bcut:Nat→Nat→Option (Nat×Ty):=fun c i=>match c,i with
 |0,10=>some (67,.bool)
 |_,_=>none
def args:List PSh:=[.c (.sl TGType .bor),.c (.sl TGType .bor)]
def ta:List Ty:=[.sl TGType,.sl TGType]
def res:List (Bool×List CSh):=[(false,[.bool])]
def tr:List Ty:=[.bool]
def E0 (N:Nat):SEnv:=(SEnv.base tab cuts ccut bcut unr ety).addCal 47 (c47 N)
theorem ok0 (N:Nat):EnvOK tab (E0 N):=(base_ok tab cuts ccut bcut unr ety).addCal (ok47 N)
def T0_6:Tmpl:=⟨[(0,.c (.sl TGType .bor)),(1,.c (.sl TGType .bor)),(5,.c (.int .i64))],[],[],1,[],0,[.sl TGType,.sl TGType,.int .i64]⟩
def O0_6:Outs:=[(.ret,⟨[(4,.c (.bool))],[],[],1,[],0,[.bool]⟩),(.exit 0,⟨[],[],[],1,[],0,[]⟩)]
def L0_6 (N:Nat) (k:Nat) (x:List GType×List GType×Int):Option (Bool⊕Unit):=loopF (loopStep (E0 N) fuelW 0 6 (bodyAt t18 6) T0_6 O0_6) k x
theorem L0_6_succ (N:Nat) (k:Nat) (v0:List GType) (v1:List GType) (v2:Int):L0_6 N (k+1) (v0,v1,v2) =
 (bif (decide (v2<(v0.length:Int)))
 then (Option.bind (((idx v0 v2).bind fun x3=>
 ((idx v1 v2).bind fun x4=>
 (bif (x3.1 != x4.1)
 then some true
 else ((idx v0 v2).bind fun x5=>
 ((idx v1 v2).bind fun x6=>
 (bif (x5.2.1 != x6.2.1)
 then some true
 else ((idx v0 v2).bind fun x7=>
 ((idx v1 v2).bind fun x8=>
 (bif (x7.2.2.1 != x8.2.2.1)
 then some true
 else ((idx v0 v2).bind fun x9=>
 ((idx v1 v2).bind fun x10=>
 ((F47 N (x9.2.2.2,x10.2.2.2)).bind fun y11=>
 some (!y11)))))))))))))) fun b12=>
 (bif b12
 then some (Sum.inl false)
 else L0_6 N k (v0,v1,(wi64 (v2+(1:Int))))))
 else some (Sum.inr ())):=by kernel_rfl
def E1 (N:Nat):SEnv:=(E0 N).addLoop N 0 6 T0_6 O0_6
theorem ok1 (N:Nat):EnvOK tab (E1 N):=(ok0 N).addLoop N 0 6 T0_6 O0_6
end f18
def F18 (N:Nat) (x:List GType×List GType):Option Bool:=fnRun (f18.E1 N) fuelW 18 f18.args f18.ta f18.res f18.tr 0 x
open f18 in
theorem F18_eq (N:Nat) (p0:List GType) (p1:List GType):F18 N (p0,p1) =
 (bif ((p0.length:Int) != (p1.length:Int))
 then some false
 else ((L0_6 N N (p0,p1,(0:Int))).bind fun y13=>
 (match y13 with
 |.inl a14=>some a14
 |.inr b15=>some true))):=by kernel_rfl
def c18 (N:Nat):Sym.Callee:=⟨f18.args,f18.ta,f18.res,f18.tr,0,F18 N⟩
theorem ok18 (N:Nat):CalOK tab 18 (c18 N):=fn_ok (f18.ok1 N) fuelW 18 f18.args f18.ta f18.res f18.tr 0
namespace f48
def args:List PSh:=[.c (.sl TInstr .bor),.c (.sl TInstr .bor)]
def ta:List Ty:=[.sl TInstr,.sl TInstr]
def res:List (Bool×List CSh):=[(false,[.bool])]
def tr:List Ty:=[.bool]
def E0 (N:Nat):SEnv:=SEnv.base tab cuts ccut bcut unr ety
theorem ok0 (N:Nat):EnvOK tab (E0 N):=base_ok tab cuts ccut bcut unr ety
def T0_6:Tmpl:=⟨[(0,.c (.sl TInstr .bor)),(1,.c (.sl TInstr .bor)),(5,.c (.int .i64))],[],[],1,[],0,[.sl TInstr,.sl TInstr,.int .i64]⟩
def O0_6:Outs:=[(.ret,⟨[(4,.c (.bool))],[],[],1,[],0,[.bool]⟩),(.exit 0,⟨[],[],[],1,[],0,[]⟩)]
def L0_6 (N:Nat) (k:Nat) (x:List Instr×List Instr×Int):Option (Bool⊕Unit):=loopF (loopStep (E0 N) fuelW 0 6 (bodyAt t48 6) T0_6 O0_6) k x
theorem L0_6_succ (N:Nat) (k:Nat) (v0:List Instr) (v1:List Instr) (v2:Int):L0_6 N (k+1) (v0,v1,v2) =
 (bif (decide (v2<(v0.length:Int)))
 then ((idx v0 v2).bind fun x3=>
 ((idx v1 v2).bind fun x4=>
 (bif (!(x3.1==x4.1&&(x3.2.1==x4.2.1&&(x3.2.2.1==x4.2.2.1&&(x3.2.2.2==x4.2.2.2&&true)))))
 then some (Sum.inl false)
 else L0_6 N k (v0,v1,(wi64 (v2+(1:Int)))))))
 else some (Sum.inr ())):=by kernel_rfl
def E1 (N:Nat):SEnv:=(E0 N).addLoop N 0 6 T0_6 O0_6
theorem ok1 (N:Nat):EnvOK tab (E1 N):=(ok0 N).addLoop N 0 6 T0_6 O0_6
end f48
def F48 (N:Nat) (x:List Instr×List Instr):Option Bool:=fnRun (f48.E1 N) fuelW 48 f48.args f48.ta f48.res f48.tr 0 x
open f48 in
theorem F48_eq (N:Nat) (p0:List Instr) (p1:List Instr):F48 N (p0,p1) =
 (bif ((p0.length:Int) != (p1.length:Int))
 then some false
 else ((L0_6 N N (p0,p1,(0:Int))).bind fun y5=>
 (match y5 with
 |.inl a6=>some a6
 |.inr b7=>some true))):=by kernel_rfl
def c48 (N:Nat):Sym.Callee:=⟨f48.args,f48.ta,f48.res,f48.tr,0,F48 N⟩
theorem ok48 (N:Nat):CalOK tab 48 (c48 N):=fn_ok (f48.ok1 N) fuelW 48 f48.args f48.ta f48.res f48.tr 0
namespace f49
def args:List PSh:=[.c (.sl TRun .bor),.c (.sl TRun .bor)]
def ta:List Ty:=[.sl TRun,.sl TRun]
def res:List (Bool×List CSh):=[(false,[.bool])]
def tr:List Ty:=[.bool]
def E0 (N:Nat):SEnv:=SEnv.base tab cuts ccut bcut unr ety
theorem ok0 (N:Nat):EnvOK tab (E0 N):=base_ok tab cuts ccut bcut unr ety
def T0_6:Tmpl:=⟨[(0,.c (.sl TRun .bor)),(1,.c (.sl TRun .bor)),(5,.c (.int .i64))],[],[],1,[],0,[.sl TRun,.sl TRun,.int .i64]⟩
def O0_6:Outs:=[(.ret,⟨[(4,.c (.bool))],[],[],1,[],0,[.bool]⟩),(.exit 0,⟨[],[],[],1,[],0,[]⟩)]
def L0_6 (N:Nat) (k:Nat) (x:List Run×List Run×Int):Option (Bool⊕Unit):=loopF (loopStep (E0 N) fuelW 0 6 (bodyAt t49 6) T0_6 O0_6) k x
theorem L0_6_succ (N:Nat) (k:Nat) (v0:List Run) (v1:List Run) (v2:Int):L0_6 N (k+1) (v0,v1,v2) =
 (bif (decide (v2<(v0.length:Int)))
 then ((idx v0 v2).bind fun x3=>
 ((idx v1 v2).bind fun x4=>
 (bif (!(x3.1==x4.1&&(x3.2==x4.2&&true)))
 then some (Sum.inl false)
 else L0_6 N k (v0,v1,(wi64 (v2+(1:Int)))))))
 else some (Sum.inr ())):=by kernel_rfl
def E1 (N:Nat):SEnv:=(E0 N).addLoop N 0 6 T0_6 O0_6
theorem ok1 (N:Nat):EnvOK tab (E1 N):=(ok0 N).addLoop N 0 6 T0_6 O0_6
end f49
def F49 (N:Nat) (x:List Run×List Run):Option Bool:=fnRun (f49.E1 N) fuelW 49 f49.args f49.ta f49.res f49.tr 0 x
open f49 in
theorem F49_eq (N:Nat) (p0:List Run) (p1:List Run):F49 N (p0,p1) =
 (bif ((p0.length:Int) != (p1.length:Int))
 then some false
 else ((L0_6 N N (p0,p1,(0:Int))).bind fun y5=>
 (match y5 with
 |.inl a6=>some a6
 |.inr b7=>some true))):=by kernel_rfl
def c49 (N:Nat):Sym.Callee:=⟨f49.args,f49.ta,f49.res,f49.tr,0,F49 N⟩
theorem ok49 (N:Nat):CalOK tab 49 (c49 N):=fn_ok (f49.ok1 N) fuelW 49 f49.args f49.ta f49.res f49.tr 0
namespace f19
def bcut:Nat→Nat→Option (Nat×Ty):=fun c i=>match c,i with
 |0,1=>some (4,.bool)
 |_,_=>none
def args:List PSh:=[.agg [.str,.int .i64,.int .i64,.sl TField .bor,.sl TInstr .bor,.sl TRun .bor,.sl TRun .bor],.agg [.str,.int .i64,.int .i64,.sl TField .bor,.sl TInstr .bor,.sl TRun .bor,.sl TRun .bor]]
def ta:List Ty:=[.str,.int .i64,.int .i64,.sl TField,.sl TInstr,.sl TRun,.sl TRun,.str,.int .i64,.int .i64,.sl TField,.sl TInstr,.sl TRun,.sl TRun]
def res:List (Bool×List CSh):=[(false,[.bool])]
def tr:List Ty:=[.bool]
def E0 (N:Nat):SEnv:=(((SEnv.base tab cuts ccut bcut unr ety).addCal 47 (c47 N)).addCal 48 (c48 N)).addCal 49 (c49 N)
theorem ok0 (N:Nat):EnvOK tab (E0 N):=(((base_ok tab cuts ccut bcut unr ety).addCal (ok47 N)).addCal (ok48 N)).addCal (ok49 N)
end f19
def F19 (N:Nat) (x:List UInt8×Int×Int×List Field×List Instr×List Run×List Run×List UInt8×Int×Int×List Field×List Instr×List Run×List Run):Option Bool:=fnRun (f19.E0 N) fuelW 19 f19.args f19.ta f19.res f19.tr 0 x
open f19 in
theorem F19_eq (N:Nat) (p0:List UInt8) (p1:Int) (p2:Int) (p3:List Field) (p4:List Instr) (p5:List Run) (p6:List Run) (p7:List UInt8) (p8:Int) (p9:Int) (p10:List Field) (p11:List Instr) (p12:List Run) (p13:List Run):F19 N (p0,p1,p2,p3,p4,p5,p6,p7,p8,p9,p10,p11,p12,p13) =
 (Option.bind ((bif (p0==p7)
 then (bif (p1==p8)
 then (bif (p2==p9)
 then ((F47 N (p3,p10)).bind fun y0=>
 (bif y0
 then ((F48 N (p4,p11)).bind fun y1=>
 (bif y1
 then ((F49 N (p5,p12)).bind fun y2=>
 (bif y2
 then ((F49 N (p6,p13)).bind fun y3=>
 some y3)
 else some false))
 else some false))
 else some false))
 else some false)
 else some false)
 else some false)) fun b4=>
 some b4):=by kernel_rfl
def c19 (N:Nat):Sym.Callee:=⟨f19.args,f19.ta,f19.res,f19.tr,0,F19 N⟩
theorem ok19 (N:Nat):CalOK tab 19 (c19 N):=fn_ok (f19.ok0 N) fuelW 19 f19.args f19.ta f19.res f19.tr 0
namespace f6
def bcut:Nat→Nat→Option (Nat×Ty):=fun c i=>match c,i with
 |0,1=>some (30,.bool)
 |_,_=>none
def args:List PSh:=[.agg [.sl TGType .bor,.sl .str .bor,.sl TFunc .bor],.agg [.sl TGType .bor,.sl .str .bor,.sl TFunc .bor]]
def ta:List Ty:=[.sl TGType,.sl .str,.sl TFunc,.sl TGType,.sl .str,.sl TFunc]
def res:List (Bool×List CSh):=[(false,[.bool])]
def tr:List Ty:=[.bool]
def E0 (N:Nat):SEnv:=((SEnv.base tab cuts ccut bcut unr ety).addCal 18 (c18 N)).addCal 19 (c19 N)
theorem ok0 (N:Nat):EnvOK tab (E0 N):=((base_ok tab cuts ccut bcut unr ety).addCal (ok18 N)).addCal (ok19 N)
def T0_6:Tmpl:=⟨[(2,.c (.ptr 0 2 0 0 0)),(3,.c (.ptr 0 3 1 0 0)),(5,.c (.int .i64))],[],[(0,2,.box 0 [.sl TGType .bor,.sl .str .bor,.sl TFunc .bor]),(0,3,.box 1 [.sl TGType .bor,.sl .str .bor,.sl TFunc .bor])],1,[],2,[.int .i64,.sl TGType,.sl .str,.sl TFunc,.sl TGType,.sl .str,.sl TFunc]⟩
def O0_6:Outs:=[(.ret,⟨[(4,.c (.bool))],[],[],1,[],0,[.bool]⟩),(.exit 0,⟨[(2,.c (.ptr 0 2 0 0 0)),(3,.c (.ptr 0 3 1 0 0))],[],[(0,2,.box 0 [.sl TGType .bor,.sl .str .bor,.sl TFunc .bor]),(0,3,.box 1 [.sl TGType .bor,.sl .str .bor,.sl TFunc .bor])],1,[],2,[.sl TGType,.sl .str,.sl TFunc,.sl TGType,.sl .str,.sl TFunc]⟩)]
def L0_6 (N:Nat) (k:Nat) (x:Int×List GType×(List (List UInt8))×List Func×List GType×(List (List UInt8))×List Func):Option (Bool⊕(List GType×(List (List UInt8))×List Func×List GType×(List (List UInt8))×List Func)):=loopF (loopStep (E0 N) fuelW 0 6 (bodyAt t6 6) T0_6 O0_6) k x
theorem L0_6_succ (N:Nat) (k:Nat) (v2:Int) (v3:List GType) (v4:List (List UInt8)) (v5:List Func) (v6:List GType) (v7:List (List UInt8)) (v8:List Func):L0_6 N (k+1) (v2,v3,v4,v5,v6,v7,v8) =
 (bif (decide (v2<(v4.length:Int)))
 then ((idx v4 v2).bind fun x9=>
 ((idx v7 v2).bind fun x10=>
 (bif (!(x9==x10))
 then some (Sum.inl false)
 else L0_6 N k ((wi64 (v2+(1:Int))),v3,v4,v5,v6,v7,v8))))
 else some (Sum.inr (v3,v4,v5,v6,v7,v8))):=by kernel_rfl
def E1 (N:Nat):SEnv:=(E0 N).addLoop N 0 6 T0_6 O0_6
theorem ok1 (N:Nat):EnvOK tab (E1 N):=(ok0 N).addLoop N 0 6 T0_6 O0_6
def T0_16:Tmpl:=⟨[(2,.c (.ptr 0 2 0 0 0)),(3,.c (.ptr 0 3 1 0 0)),(6,.c (.int .i64))],[],[(0,2,.box 0 [.sl TGType .bor,.sl .str .bor,.sl TFunc .bor]),(0,3,.box 1 [.sl TGType .bor,.sl .str .bor,.sl TFunc .bor])],1,[],2,[.int .i64,.sl TGType,.sl .str,.sl TFunc,.sl TGType,.sl .str,.sl TFunc]⟩
def O0_16:Outs:=[(.ret,⟨[(4,.c (.bool))],[],[],1,[],0,[.bool]⟩),(.exit 2,⟨[],[],[],1,[],0,[]⟩)]
def L0_16 (N:Nat) (k:Nat) (x:Int×List GType×(List (List UInt8))×List Func×List GType×(List (List UInt8))×List Func):Option (Bool⊕Unit):=loopF (loopStep (E1 N) fuelW 0 16 (bodyAt t6 16) T0_16 O0_16) k x
theorem L0_16_succ (N:Nat) (k:Nat) (v14:Int) (v15:List GType) (v16:List (List UInt8)) (v17:List Func) (v18:List GType) (v19:List (List UInt8)) (v20:List Func):L0_16 N (k+1) (v14,v15,v16,v17,v18,v19,v20) =
 (bif (decide (v14<(v17.length:Int)))
 then ((idx v17 v14).bind fun x21=>
 ((idx v20 v14).bind fun x22=>
 ((F19 N (x21.1,x21.2.1,x21.2.2.1,x21.2.2.2.1,x21.2.2.2.2.1,x21.2.2.2.2.2.1,x21.2.2.2.2.2.2,x22.1,x22.2.1,x22.2.2.1,x22.2.2.2.1,x22.2.2.2.2.1,x22.2.2.2.2.2.1,x22.2.2.2.2.2.2)).bind fun y23=>
 (bif (!y23)
 then some (Sum.inl false)
 else L0_16 N k ((wi64 (v14+(1:Int))),v15,v16,v17,v18,v19,v20)))))
 else some (Sum.inr ())):=by kernel_rfl
def E2 (N:Nat):SEnv:=(E1 N).addLoop N 0 16 T0_16 O0_16
theorem ok2 (N:Nat):EnvOK tab (E2 N):=(ok1 N).addLoop N 0 16 T0_16 O0_16
end f6
def F6 (N:Nat) (x:List GType×(List (List UInt8))×List Func×List GType×(List (List UInt8))×List Func):Option Bool:=fnRun (f6.E2 N) fuelW 6 f6.args f6.ta f6.res f6.tr 0 x
open f6 in
theorem F6_eq (N:Nat) (p0:List GType) (p1:List (List UInt8)) (p2:List Func) (p3:List GType) (p4:List (List UInt8)) (p5:List Func):F6 N (p0,p1,p2,p3,p4,p5) =
 (Option.bind (((F18 N (p0,p3)).bind fun y0=>
 (bif (!y0)
 then some true
 else (bif ((p1.length:Int) != (p4.length:Int))
 then some true
 else some ((p2.length:Int) != (p5.length:Int)))))) fun b1=>
 (bif b1
 then some false
 else ((L0_6 N N ((0:Int),p0,p1,p2,p3,p4,p5)).bind fun y11=>
 (match y11 with
 |.inl a12=>some a12
 |.inr b13=>((L0_16 N N ((0:Int),b13.1,b13.2.1,b13.2.2.1,b13.2.2.2.1,b13.2.2.2.2.1,b13.2.2.2.2.2)).bind fun y24=>
 (match y24 with
 |.inl a25=>some a25
 |.inr b26=>some true)))))):=by kernel_rfl
def c6 (N:Nat):Sym.Callee:=⟨f6.args,f6.ta,f6.res,f6.tr,0,F6 N⟩
theorem ok6 (N:Nat):CalOK tab 6 (c6 N):=fn_ok (f6.ok2 N) fuelW 6 f6.args f6.ta f6.res f6.tr 0
namespace f3
def bcut:Nat→Nat→Option (Nat×Ty):=fun c i=>match c,i with
 |0,1=>some (20,.bool)
 |_,_=>none
def args:List PSh:=[.c (.sl (.int .u8) .d)]
def ta:List Ty:=[(.sl (.int .u8))]
def res:List (Bool×List CSh):=[(false,[.bool])]
def tr:List Ty:=[.bool]
def E0 (N:Nat):SEnv:=(((SEnv.base tab cuts ccut bcut unr ety).addCal 4 (c4 N)).addCal 5 (c5 N)).addCal 6 (c6 N)
theorem ok0 (N:Nat):EnvOK tab (E0 N):=(((base_ok tab cuts ccut bcut unr ety).addCal (ok4 N)).addCal (ok5 N)).addCal (ok6 N)
end f3
def F3 (N:Nat) (x:List Int):Option Bool:=fnRun (f3.E0 N) fuelW 3 f3.args f3.ta f3.res f3.tr 0 x
open f3 in
theorem F3_eq (N:Nat) (p0:List Int):F3 N p0 =
 (Option.bind ((bif (decide ((p0.length:Int)>(2000:Int)))
 then (bif (decide ((p0.length:Int)≤(20000:Int)))
 then some true
 else some (decide ((p0.length:Int)>(20100:Int))))
 else some (decide ((p0.length:Int)>(20100:Int))))) fun b0=>
 (bif b0
 then some true
 else ((F4 N p0).bind fun y1=>
 ((F5 N p0).bind fun y2=>
 ((F6 N (y1.1,y1.2.1,y1.2.2.1,y2.1,y2.2.1,y2.2.2.1)).bind fun y3=>
 (bif y3
 then (bif (y1.2.2.2==y2.2.2.2)
 then some ((p0.map fun (n:Int)=>UInt8.ofNat n.toNat)==(p0.map fun (n:Int)=>UInt8.ofNat n.toNat))
 else some false)
 else some false)))))):=by kernel_rfl
def c3 (N:Nat):Sym.Callee:=⟨f3.args,f3.ta,f3.res,f3.tr,0,F3 N⟩
theorem ok3 (N:Nat):CalOK tab 3 (c3 N):=fn_ok (f3.ok0 N) fuelW 3 f3.args f3.ta f3.res f3.tr 0
end
end Go.Proofs.YtlfhlggkbcncoaaGreat
