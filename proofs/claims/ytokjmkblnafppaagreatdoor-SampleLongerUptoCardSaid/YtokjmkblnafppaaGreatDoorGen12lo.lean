/- What the functions compute. -/
import Derived.Test.YtokjmkblnafppaaGreatDoorTab12lo
set_option linter.unusedSimpArgs false
namespace Go.Proofs.YtokjmkblnafppaaGreatDoor
set_option linter.unusedVariables false
open Go Go.bI Go.Sym
noncomputable section
@[reducible] def Sm:Ty:=(.prod (.int .u8) (.int .u8))
abbrev Up:Type:=(Int)×(Int)
@[reducible] def av:Ty:=(.prod .str (.int .i64))
abbrev Field:Type:=(List UInt8)×(Int)
@[reducible] def kY:Ty:=(.prod (.int .i64) (.int .i64))
abbrev span:Type:=(Int)×(Int)
@[reducible] def HA:Ty:=(.prod .str (.int .u64))
abbrev errorAddressString:Type:=(List UInt8)×(Int)
@[reducible] def aD:Ty:=(.prod (.int .i64) (.int .u64))
abbrev bD:Type:=(Int)×(Int)
@[reducible] def OJ:Ty:=(.prod (.int .u16) (.prod (.int .u16) (.int .u16)))
abbrev Sn:Type:=(Int)×((Int)×(Int))
@[reducible] def OK:Ty:=(.prod (.int .u32) (.prod (.int .u32) (.int .u32)))
abbrev Sp:Type:=(Int)×((Int)×(Int))
@[reducible] def Sq:Ty:=(.prod (.int .i64) (.prod (.int .i64) (.prod .bool (.int .u8))))
abbrev boundsError:Type:=(Int)×((Int)×((Bool)×(Int)))
@[reducible] def sZ:Ty:=(.prod (.int .i64) (.prod (.int .i64) (.prod .bool .bool)))
abbrev use:Type:=(Int)×((Int)×((Bool)×(Bool)))
@[reducible] def ah:Ty:=(.prod (.int .u8) (.prod (.int .i64) kY))
abbrev Instr:Type:=(Int)×((Int)×(span))
@[reducible] def ai:Ty:=(.prod (.int .u8) (.prod (.int .i64) (.prod (.int .i64) (.sl av))))
abbrev aq:Type:=(Int)×((Int)×((Int)×(List (Field))))
@[reducible] def adp:Ty:=(.prod (.sl aD) (.prod (.sl aD) kY))
abbrev result:Type:=(List (bD))×((List (bD))×(span))
@[reducible] def Uq:Ty:=(.prod (.sl OJ) (.prod (.sl OK) (.int .i64)))
abbrev Wu:Type:=(List (Sn))×((List (Sp))×(Int))
@[reducible] def aG:Ty:=(.prod .str (.prod (.int .i64) (.prod (.int .i64) (.prod (.sl av) (.prod (.sl ah) (.prod (.sl aD) (.sl aD)))))))
abbrev Func:Type:=(List UInt8)×((Int)×((Int)×((List (Field))×((List (Instr))×((List (bD))×(List (bD)))))))
@[reducible] def Wv:Ty:=(.prod (.sl ai) (.prod (.sl .str) (.sl aG)))
abbrev abf:Type:=(List (aq))×((List (List UInt8))×(List (Func)))
@[reducible] def Y1:Ty:=(.prod Wv aG)
abbrev function:Type:=(abf)×(Func)
namespace f19
end f19
def F19 (N:Nat) (x:(List UInt8)×List UInt8):Option (List (List UInt8)):=qB.F x
def c19 (N:Nat):Sym.Callee:=qB
theorem aeN (N:Nat):bt aP 19 (c19 N):=Gy rfl aag
namespace f20
end f20
def F20 (N:Nat) (x:List UInt8):Option (List (List UInt8)):=nW.F x
def c20 (N:Nat):Sym.Callee:=nW
theorem abg (N:Nat):bt aP 20 (c20 N):=Ea rfl aah
def aX:Nat→Nat→Option ck:=fun _ _=>none
def aY:Nat→Nat→Option ck:=fun _ _=>none
def aO:Nat→Nat→Option (Nat×Ty):=fun _ _=>none
def cq:Nat→Nat→Bool:=fun _ _=>false
def bT:Nat→Nat→Option Ty:=fun _ _=>none
namespace f30
def args:List dJ:=[]
def ta:List Ty:=[]
def res:List (Bool×List cG):=[(true,[.str,.str,.str,.str,.str,.str,.str,.str,.str,.str,.str,.str,.str,.str,.str,.str,.str,.str,.str,.str,.str,.str,.str,.str,.str,.str,.str,.str,.str,.str,.str,.str,.str,.str,.str])]
def tr:List Ty:=[.str,.str,.str,.str,.str,.str,.str,.str,.str,.str,.str,.str,.str,.str,.str,.str,.str,.str,.str,.str,.str,.str,.str,.str,.str,.str,.str,.str,.str,.str,.str,.str,.str,.str,.str]
def E0 (N:Nat):aA:=aA.base aP aX aY aO cq bT
theorem cC (N:Nat):aC aP (E0 N):=aQ aP aX aY aO cq bT
end f30
open f30 in
def F30 (N:Nat):Unit→Option ((List UInt8)×(List UInt8)×(List UInt8)×(List UInt8)×(List UInt8)×(List UInt8)×(List UInt8)×(List UInt8)×(List UInt8)×(List UInt8)×(List UInt8)×(List UInt8)×(List UInt8)×(List UInt8)×(List UInt8)×(List UInt8)×(List UInt8)×(List UInt8)×(List UInt8)×(List UInt8)×(List UInt8)×(List UInt8)×(List UInt8)×(List UInt8)×(List UInt8)×(List UInt8)×(List UInt8)×(List UInt8)×(List UInt8)×(List UInt8)×(List UInt8)×(List UInt8)×(List UInt8)×(List UInt8)×List UInt8)
 |()=>some (([]:List UInt8),[105,110,116],[116,101,120,116],[98,111,111,108],[122,101,114,111],[99,111,112,121],[97,100,100],[115,117,98],[109,117,108],[100,105,118],[108,101,115,115],[115,97,109,101],[110,111,116],[102,105,101,108,100],[112,117,116],[110,101,119],[108,111,97,100],[115,116,111,114,101],[109,97,107,101],[97,116],[115,101,116],[108,101,110],[106,117,109,112],[98,114,97,110,99,104],[97,114,103],[99,97,108,108],[100,101,102,101,114],[103,111],[112,97,110,105,99],[114,101,99,111,118,101,114],[101,120,105,116],[121,105,101,108,100],[98,108,111,99,107],[119,97,107,101],[114,101,116,117,114,110])
theorem Ww (N:Nat):F30 N=bC (f30.E0 N) ak 30 f30.args f30.ta f30.res f30.tr 0:=funext fun ()=>by rw[F30];kernel_rfl
def c30 (N:Nat):Sym.Callee:=⟨f30.args,f30.ta,f30.res,f30.tr,0,F30 N⟩
theorem aeO (N:Nat):bt aP 30 (c30 N):=(bF (f30.cC N) ak 30 f30.args f30.ta f30.res f30.tr 0).plain (Ww N)
namespace f31
def args:List dJ:=[.c (.sl .str .aJ),.c (.str)]
def ta:List Ty:=[(.sl .str),.str]
def res:List (Bool×List cG):=[(false,[.int .i64])]
def tr:List Ty:=[(.int .i64)]
def E0 (N:Nat):aA:=aA.base aP aX aY aO cq bT
theorem cC (N:Nat):aC aP (E0 N):=aQ aP aX aY aO cq bT
def AE:cw:=⟨[(0,.c (.sl .str .aJ)),(1,.c (.str)),(7,.c (.int .i64)),(8,.c (.int .i64))],[],[],1,[],0,[(.sl .str),.str,(.int .i64),(.int .i64)]⟩
def AF:ck:=[(.ret,⟨[(4,.c (.int .i64))],[],[],1,[],0,[(.int .i64)]⟩),(.exit 0,⟨[],[],[],1,[],0,[]⟩)]
def OL (N:Nat) (k:Nat) (x:(List (List UInt8))×(List UInt8)×(Int)×Int):Option ((Int)⊕(Unit)):=bJ (aL (E0 N) ak 0 3 (bz t31 3) AE AF) k x
def pM (N:Nat):Nat→(List (List UInt8))×(List UInt8)×(Int)×Int→Option ((Int)⊕(Unit))
 |0,_=>none
 |k+1,(v0,v1,v2,v3)=>(bif (decide (v3<v2))
 then (Option.bind (idx v0 v3) fun x4=>
 (bif (v1==x4)
 then some (Sum.inl v3)
 else pM N k (v0,v1,v2,(aH (v3+(1:Int))))))
 else some (Sum.inr ()))
theorem mV (N:Nat):∀ k,pM N k=OL N k
 |0=>rfl
 |k+1=>funext fun⟨v0,v1,v2,v3⟩=>by rw[pM,mV N k];kernel_rfl
def E1 (N:Nat):aA:=(E0 N).aj N 0 3 AE AF
theorem gI (N:Nat):aC aP (E1 N):=(cC N).aj N 0 3 AE AF
end f31
open f31 in
def F31 (N:Nat):(List (List UInt8))×List UInt8→Option (Int)
 |(p0,p1)=>(Option.bind (pM N N (p0,p1,(p0.length:Int),(0:Int))) fun y5=>
 (match y5 with
 |.inl a6=>some a6
 |.inr b7=>some (-1:Int)))
theorem Wx (N:Nat):F31 N=bC (f31.E1 N) ak 31 f31.args f31.ta f31.res f31.tr 0:=funext fun⟨p0,p1⟩=>by rw[F31,f31.mV N N];kernel_rfl
def c31 (N:Nat):Sym.Callee:=⟨f31.args,f31.ta,f31.res,f31.tr,0,F31 N⟩
theorem aeP (N:Nat):bt aP 31 (c31 N):=(bF (f31.gI N) ak 31 f31.args f31.ta f31.res f31.tr 0).plain (Wx N)
namespace f21
def args:List dJ:=[.c (.str)]
def ta:List Ty:=[.str]
def res:List (Bool×List cG):=[(false,[.int .u8]),(false,[.int .i64])]
def tr:List Ty:=[(.int .u8),(.int .i64)]
def E0 (N:Nat):aA:=((aA.base aP aX aY aO cq bT).aa 30 (c30 N)).aa 31 (c31 N)
theorem cC (N:Nat):aC aP (E0 N):=((aQ aP aX aY aO cq bT).aa (aeO N)).aa (aeP N)
end f21
open f21 in
def F21 (N:Nat):List UInt8→Option ((Int)×Int)
 |p0=>(Option.bind (F30 N ()) fun y0=>
 (Option.bind (F31 N ([y0.2.1,y0.2.2.1,y0.2.2.2.1,y0.2.2.2.2.1,y0.2.2.2.2.2.1,y0.2.2.2.2.2.2.1,y0.2.2.2.2.2.2.2.1,y0.2.2.2.2.2.2.2.2.1,y0.2.2.2.2.2.2.2.2.2.1,y0.2.2.2.2.2.2.2.2.2.2.1,y0.2.2.2.2.2.2.2.2.2.2.2.1,y0.2.2.2.2.2.2.2.2.2.2.2.2.1,y0.2.2.2.2.2.2.2.2.2.2.2.2.2.1,y0.2.2.2.2.2.2.2.2.2.2.2.2.2.2.1,y0.2.2.2.2.2.2.2.2.2.2.2.2.2.2.2.1,y0.2.2.2.2.2.2.2.2.2.2.2.2.2.2.2.2.1,y0.2.2.2.2.2.2.2.2.2.2.2.2.2.2.2.2.2.1,y0.2.2.2.2.2.2.2.2.2.2.2.2.2.2.2.2.2.2.1,y0.2.2.2.2.2.2.2.2.2.2.2.2.2.2.2.2.2.2.2.1,y0.2.2.2.2.2.2.2.2.2.2.2.2.2.2.2.2.2.2.2.2.1,y0.2.2.2.2.2.2.2.2.2.2.2.2.2.2.2.2.2.2.2.2.2.1,y0.2.2.2.2.2.2.2.2.2.2.2.2.2.2.2.2.2.2.2.2.2.2.1,y0.2.2.2.2.2.2.2.2.2.2.2.2.2.2.2.2.2.2.2.2.2.2.2.1,y0.2.2.2.2.2.2.2.2.2.2.2.2.2.2.2.2.2.2.2.2.2.2.2.2.1,y0.2.2.2.2.2.2.2.2.2.2.2.2.2.2.2.2.2.2.2.2.2.2.2.2.2.1,y0.2.2.2.2.2.2.2.2.2.2.2.2.2.2.2.2.2.2.2.2.2.2.2.2.2.2.1,y0.2.2.2.2.2.2.2.2.2.2.2.2.2.2.2.2.2.2.2.2.2.2.2.2.2.2.2.1,y0.2.2.2.2.2.2.2.2.2.2.2.2.2.2.2.2.2.2.2.2.2.2.2.2.2.2.2.2.1,y0.2.2.2.2.2.2.2.2.2.2.2.2.2.2.2.2.2.2.2.2.2.2.2.2.2.2.2.2.2.1,y0.2.2.2.2.2.2.2.2.2.2.2.2.2.2.2.2.2.2.2.2.2.2.2.2.2.2.2.2.2.2.1,y0.2.2.2.2.2.2.2.2.2.2.2.2.2.2.2.2.2.2.2.2.2.2.2.2.2.2.2.2.2.2.2.1,y0.2.2.2.2.2.2.2.2.2.2.2.2.2.2.2.2.2.2.2.2.2.2.2.2.2.2.2.2.2.2.2.2.1,y0.2.2.2.2.2.2.2.2.2.2.2.2.2.2.2.2.2.2.2.2.2.2.2.2.2.2.2.2.2.2.2.2.2.1,y0.2.2.2.2.2.2.2.2.2.2.2.2.2.2.2.2.2.2.2.2.2.2.2.2.2.2.2.2.2.2.2.2.2.2],p0)) fun y1=>
 (bif (decide (y1<(0:Int)))
 then some ((0:Int),(6:Int))
 else some ((YZ (aH (y1+(1:Int)))),(0:Int)))))
theorem Wy (N:Nat):F21 N=bC (f21.E0 N) ak 21 f21.args f21.ta f21.res f21.tr 0:=funext fun p0=>by rw[F21];kernel_rfl
def c21 (N:Nat):Sym.Callee:=⟨f21.args,f21.ta,f21.res,f21.tr,0,F21 N⟩
theorem aeQ (N:Nat):bt aP 21 (c21 N):=(bF (f21.cC N) ak 21 f21.args f21.ta f21.res f21.tr 0).plain (Wy N)
namespace f22
end f22
def F22 (N:Nat) (x:List UInt8):Option ((Int)×Bool):=oP.F x
def c22 (N:Nat):Sym.Callee:=oP
theorem abi (N:Nat):bt aP 22 (c22 N):=IT rfl aai
namespace f12
def aO:Nat→Nat→Option (Nat×Ty):=fun c i=>match c,i with
 |0,100029=>some (14,(.int .i64))
 |_,_=>none
def cq:Nat→Nat→Bool:=fun c i=>match c,i with
 |0,16=>true
 |0,100016=>true
 |0,3=>true
 |0,100003=>true
 |_,_=>false
def bT:Nat→Nat→Option Ty:=fun c d=>match c,d with
 |0,4=>some ah
 |0,5=>some ah
 |0,67=>some ah
 |_,_=>none
def args:List dJ:=[.c (.str),.c (.int .i64)]
def ta:List Ty:=[.str,(.int .i64)]
def res:List (Bool×List cG):=[(false,[.sl ah .d])]
def tr:List Ty:=[(.sl ah)]
def E0 (N:Nat):aA:=((((aA.base aP aX aY aO cq bT).aa 19 (c19 N)).aa 20 (c20 N)).aa 21 (c21 N)).aa 22 (c22 N)
theorem cC (N:Nat):aC aP (E0 N):=((((aQ aP aX aY aO cq bT).aa (aeN N)).aa (abg N)).aa (aeQ N)).aa (abi N)
def mw:cw:=⟨[(1,.c (.int .i64)),(5,.c (.ref 0 5 0 ah)),(17,.c (.sl .str .d)),(18,.c (.int .i64)),(19,.c (.int .i64))],[],[(0,5,.row 0 ah)],1,[],1,[(.int .i64),(.sl .str),(.int .i64),(.int .i64),(.sl ah)]⟩
def mz:ck:=[(.exit 0,⟨[(5,.c (.ref 0 5 0 ah))],[],[(0,5,.row 0 ah)],1,[],1,[(.sl ah)]⟩)]
def AG (N:Nat) (k:Nat) (x:(Int)×(List (List UInt8))×(Int)×(Int)×List (Instr)):Option ((List (Instr))):=bJ (aL (E0 N) ak 0 7 (bz t12 7) mw mz) k x
def fA (N:Nat):Nat→(Int)×(List (List UInt8))×(Int)×(Int)×List (Instr)→Option ((List (Instr)))
 |0,_=>none
 |k+1,(v1,v2,v3,v4,v5)=>(bif (decide (v4<v3))
 then (Option.bind (idx v2 v4) fun x6=>
 (Option.bind (F20 N x6) fun y7=>
 (bif (decide ((0:Int)<(y7.length:Int)))
 then (Option.bind (idx y7 (0:Int)) fun x8=>
 (Option.bind (F21 N x8) fun y9=>
 (bif (y9.2 != (0:Int))
 then fA N k (v1,v2,v3,(aH (v4+(1:Int))),v5)
 else (bif (decide ((1:Int)<(y7.length:Int)))
 then (Option.bind (idx y7 (1:Int)) fun pH=>
 (Option.bind (F22 N pH) fun yE=>
 (Option.bind ((bif yE.2
 then some (aH ((aH (v1+(v5.length:Int)))+(2:Int)))
 else some yE.1)) fun QI=>
 (bif (decide ((2:Int)<(y7.length:Int)))
 then (Option.bind (idx y7 (2:Int)) fun Ur=>
 (Option.bind (F22 N Ur) fun tA=>
 (Option.bind ((bif tA.2
 then some (aH ((aH (v1+(v5.length:Int)))+(2:Int)))
 else some tA.1)) fun Sr=>
 (bif (decide ((3:Int)<(y7.length:Int)))
 then (Option.bind (idx y7 (3:Int)) fun Us=>
 (Option.bind (F22 N Us) fun yF=>
 (Option.bind ((bif yF.2
 then some (aH ((aH (v1+(v5.length:Int)))+(2:Int)))
 else some yF.1)) fun CQ=>
 (bif (decide ((4:Int)<(y7.length:Int)))
 then (Option.bind (idx y7 (4:Int)) fun EB=>
 (Option.bind (F22 N EB) fun MU=>
 (Option.bind ((bif MU.2
 then some (aH ((aH (v1+(v5.length:Int)))+(2:Int)))
 else some MU.1)) fun b21=>
 none)))
 else (aZ (room (v5.length+1) 32)
 (fA N k (v1,v2,v3,(aH (v4+(1:Int))),(v5++[(y9.1,QI,Sr,CQ)]))))))))
 else (aZ (room (v5.length+1) 32)
 (fA N k (v1,v2,v3,(aH (v4+(1:Int))),(v5++[(y9.1,QI,Sr,(0:Int))]))))))))
 else (aZ (room (v5.length+1) 32)
 (fA N k (v1,v2,v3,(aH (v4+(1:Int))),(v5++[(y9.1,QI,(0:Int),(0:Int))]))))))))
 else (aZ (room (v5.length+1) 32)
 (fA N k (v1,v2,v3,(aH (v4+(1:Int))),(v5++[(y9.1,(0:Int),(0:Int),(0:Int))]))))))))
 else (aZ (room (v5.length+1) 32)
 (fA N k (v1,v2,v3,(aH (v4+(1:Int))),(v5++[((0:Int),(0:Int),(0:Int),(0:Int))])))))))
 else some v5)
theorem fB (N:Nat):∀ k,fA N k=AG N k
 |0=>rfl
 |k+1=>funext fun⟨v1,v2,v3,v4,v5⟩=>by rw[fA,fB N k];kernel_rfl
def E1 (N:Nat):aA:=(E0 N).aj N 0 7 mw mz
theorem gI (N:Nat):aC aP (E1 N):=(cC N).aj N 0 7 mw mz
end f12
open f12 in
def BJ (N:Nat):(List UInt8)×Int→Option (List (Instr))
 |(p0,p1)=>(Option.bind (F19 N (p0,[59,32])) fun y0=>
 (Option.bind (fA N N (p1,y0,(y0.length:Int),(0:Int),([]:List ((Int)×((Int)×((Int)×(Int))))))) fun MV=>
 some MV))
theorem Wz (N:Nat):BJ N=bC (f12.E1 N) ak 12 f12.args f12.ta f12.res f12.tr 1:=funext fun⟨p0,p1⟩=>by rw[BJ,f12.fB N N];kernel_rfl
def c12 (N:Nat):Sym.Callee:=⟨f12.args,f12.ta,f12.res,f12.tr,1,BJ N⟩
theorem abk (N:Nat):bt aP 12 (c12 N):=(bF (f12.gI N) ak 12 f12.args f12.ta f12.res f12.tr 1).plain (Wz N)
namespace f18
end f18
def Y2 (N:Nat) (x:Int):Option (List UInt8):=oQ.F x
def c18 (N:Nat):Sym.Callee:=oQ
theorem abl (N:Nat):bt aP 18 (c18 N):=IU rfl aaj
namespace f13
def bT:Nat→Nat→Option Ty:=fun c d=>match c,d with
 |0,21=>some .str
 |0,27=>some .str
 |0,33=>some .str
 |_,_=>none
def args:List dJ:=[.c (.int .i64)]
def ta:List Ty:=[(.int .i64)]
def res:List (Bool×List cG):=[(false,[.str])]
def tr:List Ty:=[.str]
def E0 (N:Nat):aA:=(aA.base aP aX aY aO cq bT).aa 18 (c18 N)
theorem cC (N:Nat):aC aP (E0 N):=(aQ aP aX aY aO cq bT).aa (abl N)
end f13
open f13 in
def xE (N:Nat):Int→Option (List UInt8)
 |p0=>(bif ((Int.tmod (max p0 (0:Int)) (32:Int))==(0:Int))
 then (Option.bind (Y2 N (Int.tmod (aH (Int.tdiv (max p0 (0:Int)) (32:Int))) (32:Int))) fun y0=>
 (aZ (!decide ((([105,110,116,32,48,32].length+y0.length:Nat):Int)>IntKind.i64.max))
 (some ([105,110,116,32,48,32]++y0))))
 else (bif ((Int.tmod (max p0 (0:Int)) (32:Int))==(25:Int))
 then (Option.bind (idx [[50],[52],[55]] (Int.tmod (Int.tmod (aH (Int.tdiv (max p0 (0:Int)) (32:Int))) (32:Int)) (3:Int))) fun x1=>
 (aZ (!decide ((([97,114,103,32,48,59,32,100,101,102,101,114,32].length+x1.length:Nat):Int)>IntKind.i64.max))
 (some ([97,114,103,32,48,59,32,100,101,102,101,114,32]++x1))))
 else (bif ((Int.tmod (max p0 (0:Int)) (32:Int))==(26:Int))
 then (Option.bind (idx [[53],[54]] (Int.tmod (Int.tmod (aH (Int.tdiv (max p0 (0:Int)) (32:Int))) (32:Int)) (2:Int))) fun x2=>
 (aZ (!decide ((([100,101,102,101,114,32].length+x2.length:Nat):Int)>IntKind.i64.max))
 (some ([100,101,102,101,114,32]++x2))))
 else (bif ((Int.tmod (max p0 (0:Int)) (32:Int))==(28:Int))
 then (Option.bind (idx [[119,97,107,101,32,49,32,55],[99,111,112,121,32,55,32,48],[116,101,120,116,32,50,32,49],[114,101,99,111,118,101,114,32,49,32,48]] (Int.tmod (Int.tmod (aH (Int.tdiv (max p0 (0:Int)) (32:Int))) (32:Int)) (4:Int))) fun x3=>
 some x3)
 else (aZ (decide (0≤(Int.tmod (max p0 (0:Int)) (32:Int))))
 ((bif (Nat.beq (Int.toNat (Int.tmod (max p0 (0:Int)) (32:Int))) 31)
 then some [98,114,97,110,99,104,32,49,32,64,59,32,98,108,111,99,107,32,55]
 else (bif (Nat.beq (Int.toNat (Int.tmod (max p0 (0:Int)) (32:Int))) 30)
 then some [98,114,97,110,99,104,32,49,32,64,59,32,101,120,105,116]
 else (bif (Nat.beq (Int.toNat (Int.tmod (max p0 (0:Int)) (32:Int))) 29)
 then some [98,114,97,110,99,104,32,49,32,64,59,32,112,97,110,105,99,32,48]
 else (bif (Nat.beq (Int.toNat (Int.tmod (max p0 (0:Int)) (32:Int))) 28)
 then some ([]:List UInt8)
 else (bif (Nat.beq (Int.toNat (Int.tmod (max p0 (0:Int)) (32:Int))) 27)
 then some [97,114,103,32,55,59,32,103,111,32,51]
 else (bif (Nat.beq (Int.toNat (Int.tmod (max p0 (0:Int)) (32:Int))) 26)
 then some ([]:List UInt8)
 else (bif (Nat.beq (Int.toNat (Int.tmod (max p0 (0:Int)) (32:Int))) 25)
 then some ([]:List UInt8)
 else (bif (Nat.beq (Int.toNat (Int.tmod (max p0 (0:Int)) (32:Int))) 24)
 then some [97,114,103,32,48,59,32,99,97,108,108,32,48,32,49]
 else (bif (Nat.beq (Int.toNat (Int.tmod (max p0 (0:Int)) (32:Int))) 23)
 then some [108,101,110,32,55,32,54]
 else (bif (Nat.beq (Int.toNat (Int.tmod (max p0 (0:Int)) (32:Int))) 22)
 then some [97,116,32,48,32,53,32,55]
 else (bif (Nat.beq (Int.toNat (Int.tmod (max p0 (0:Int)) (32:Int))) 21)
 then some [115,101,116,32,53,32,55,32,48]
 else (bif (Nat.beq (Int.toNat (Int.tmod (max p0 (0:Int)) (32:Int))) 20)
 then some [97,116,32,48,32,54,32,55]
 else (bif (Nat.beq (Int.toNat (Int.tmod (max p0 (0:Int)) (32:Int))) 19)
 then some [115,101,116,32,54,32,55,32,48]
 else (bif (Nat.beq (Int.toNat (Int.tmod (max p0 (0:Int)) (32:Int))) 18)
 then some [109,97,107,101,32,54,32,55]
 else (bif (Nat.beq (Int.toNat (Int.tmod (max p0 (0:Int)) (32:Int))) 17)
 then some [108,111,97,100,32,52,32,56]
 else (bif (Nat.beq (Int.toNat (Int.tmod (max p0 (0:Int)) (32:Int))) 16)
 then some [115,116,111,114,101,32,56,32,52]
 else (bif (Nat.beq (Int.toNat (Int.tmod (max p0 (0:Int)) (32:Int))) 15)
 then some [110,101,119,32,56]
 else (bif (Nat.beq (Int.toNat (Int.tmod (max p0 (0:Int)) (32:Int))) 14)
 then some [112,117,116,32,52,32,50,32,51]
 else (bif (Nat.beq (Int.toNat (Int.tmod (max p0 (0:Int)) (32:Int))) 13)
 then some [102,105,101,108,100,32,55,32,52,32,48]
 else (bif (Nat.beq (Int.toNat (Int.tmod (max p0 (0:Int)) (32:Int))) 12)
 then some [112,117,116,32,52,32,48,32,48]
 else (bif (Nat.beq (Int.toNat (Int.tmod (max p0 (0:Int)) (32:Int))) 11)
 then some [122,101,114,111,32,51]
 else (bif (Nat.beq (Int.toNat (Int.tmod (max p0 (0:Int)) (32:Int))) 10)
 then some [110,101,119,32,51]
 else (bif (Nat.beq (Int.toNat (Int.tmod (max p0 (0:Int)) (32:Int))) 9)
 then some [108,111,97,100,32,48,32,51]
 else (bif (Nat.beq (Int.toNat (Int.tmod (max p0 (0:Int)) (32:Int))) 8)
 then some [115,116,111,114,101,32,51,32,48]
 else (bif (Nat.beq (Int.toNat (Int.tmod (max p0 (0:Int)) (32:Int))) 7)
 then some [115,97,109,101,32,49,32,48,32,55]
 else (bif (Nat.beq (Int.toNat (Int.tmod (max p0 (0:Int)) (32:Int))) 6)
 then some [110,111,116,32,49,32,49]
 else (bif (Nat.beq (Int.toNat (Int.tmod (max p0 (0:Int)) (32:Int))) 5)
 then some [108,101,115,115,32,49,32,48,32,55]
 else (bif (Nat.beq (Int.toNat (Int.tmod (max p0 (0:Int)) (32:Int))) 4)
 then some [100,105,118,32,48,32,48,32,55]
 else (bif (Nat.beq (Int.toNat (Int.tmod (max p0 (0:Int)) (32:Int))) 3)
 then some [109,117,108,32,48,32,48,32,55]
 else (bif (Nat.beq (Int.toNat (Int.tmod (max p0 (0:Int)) (32:Int))) 2)
 then some [115,117,98,32,55,32,55,32,48]
 else (bif (Nat.beq (Int.toNat (Int.tmod (max p0 (0:Int)) (32:Int))) 1)
 then some [97,100,100,32,48,32,48,32,55]
 else (bif (Nat.beq (Int.toNat (Int.tmod (max p0 (0:Int)) (32:Int))) 0)
 then some ([]:List UInt8)
 else none))))))))))))))))))))))))))))))))))))))
theorem WA (N:Nat):xE N=bC (f13.E0 N) ak 13 f13.args f13.ta f13.res f13.tr 0:=funext fun p0=>by rw[xE];kernel_rfl
def c13 (N:Nat):Sym.Callee:=⟨f13.args,f13.ta,f13.res,f13.tr,0,xE N⟩
theorem aeT (N:Nat):bt aP 13 (c13 N):=(bF (f13.cC N) ak 13 f13.args f13.ta f13.res f13.tr 0).plain (WA N)
namespace f15
def bT:Nat→Nat→Option Ty:=fun c d=>match c,d with
 |0,21=>some aD
 |0,23=>some aD
 |0,51=>some av
 |_,_=>none
def args:List dJ:=[.c (.str),.c (.str),.c (.int .i64),.c (.int .i64),.c (.sl ah .d)]
def ta:List Ty:=[.str,.str,(.int .i64),(.int .i64),(.sl ah)]
def res:List (Bool×List cG):=[(true,[.str,.int .i64,.int .i64,.sl av .d,.sl ah .d,.sl aD .d,.sl aD .d])]
def tr:List Ty:=[.str,(.int .i64),(.int .i64),(.sl av),(.sl ah),(.sl aD),(.sl aD)]
def E0 (N:Nat):aA:=((aA.base aP aX aY aO cq bT).aa 20 (c20 N)).aa 22 (c22 N)
theorem cC (N:Nat):aC aP (E0 N):=((aQ aP aX aY aO cq bT).aa (abg N)).aa (abi N)
def WB:cw:=⟨[(10,.c (.ptr 0 10 0 0 0)),(11,.c (.ptr 0 11 1 0 0)),(12,.c (.sl .str .d)),(13,.c (.int .i64))],[],[(0,10,.box 0 [.str,.int .i64,.int .i64,.nil true,.nil true,.nil true,.nil true]),(0,11,.box 1 [.str,.int .i64,.int .i64,.sl av (.app 2),.sl ah .d,.sl aD .full,.sl aD .full])],1,[2],3,[(.sl .str),(.int .i64),.str,(.int .i64),(.int .i64),.str,(.int .i64),(.int .i64),(.sl av),(.sl ah),(.sl aD),(.sl aD)]⟩
def WC:ck:=[(.exit 0,⟨[(10,.c (.ptr 0 10 0 0 0)),(11,.c (.ptr 0 11 1 0 0))],[],[(0,10,.box 0 [.str,.int .i64,.int .i64,.nil true,.nil true,.nil true,.nil true]),(0,11,.box 1 [.str,.int .i64,.int .i64,.sl av (.app 2),.sl ah .d,.sl aD .full,.sl aD .full])],1,[2],3,[.str,(.int .i64),(.int .i64),.str,(.int .i64),(.int .i64),(.sl av),(.sl ah),(.sl aD),(.sl aD)]⟩)]
def aeU (N:Nat) (k:Nat) (x:(List (List UInt8))×(Int)×(List UInt8)×(Int)×(Int)×(List UInt8)×(Int)×(Int)×(List (Field))×(List (Instr))×(List (bD))×List (bD)):Option (((List UInt8)×(Int)×(Int)×(List UInt8)×(Int)×(Int)×(List (Field))×(List (Instr))×(List (bD))×List (bD))):=bJ (aL (E0 N) ak 0 5 (bz t15 5) WB WC) k x
def Ss (N:Nat):Nat→(List (List UInt8))×(Int)×(List UInt8)×(Int)×(Int)×(List UInt8)×(Int)×(Int)×(List (Field))×(List (Instr))×(List (bD))×List (bD)→Option (((List UInt8)×(Int)×(Int)×(List UInt8)×(Int)×(Int)×(List (Field))×(List (Instr))×(List (bD))×List (bD)))
 |0,_=>none
 |k+1,(v1,v2,v3,v4,v5,v6,v7,v8,v9,v10,v11,v12)=>(bif (decide ((aH (v2+(1:Int)))<(v1.length:Int)))
 then (Option.bind (idx v1 (aH (v2+(1:Int)))) fun Ur=>
 (Option.bind (F22 N Ur) fun tA=>
 (Option.bind (idx v1 v2) fun Kv=>
 (aZ (room (v9.length+1) 24)
 (Ss N k (v1,(aH (v2+(2:Int))),v3,v4,v5,v6,v7,v8,(v9++[(Kv,tA.1)]),v10,v11,v12))))))
 else some (v3,v4,v5,v6,v7,v8,v9,v10,v11,v12))
theorem Kw (N:Nat):∀ k,Ss N k=aeU N k
 |0=>rfl
 |k+1=>funext fun⟨v1,v2,v3,v4,v5,v6,v7,v8,v9,v10,v11,v12⟩=>by rw[Ss,Kw N k];kernel_rfl
def E1 (N:Nat):aA:=(E0 N).aj N 0 5 WB WC
theorem gI (N:Nat):aC aP (E1 N):=(cC N).aj N 0 5 WB WC
end f15
open f15 in
def Ma (N:Nat):(List UInt8)×(List UInt8)×(Int)×(Int)×List (Instr)→Option ((List UInt8)×(Int)×(Int)×(List (Field))×(List (Instr))×(List (bD))×List (bD))
 |(p0,p1,p2,p3,p4)=>(Option.bind (F20 N p1) fun y0=>
 (Option.bind (Ss N N (y0,(0:Int),([]:List UInt8),(0:Int),(0:Int),p0,p2,p3,[],p4,[((0:Int),(0:Int))],[((0:Int),(0:Int))])) fun ld=>
 some (ld.2.2.2.1,ld.2.2.2.2.1,ld.2.2.2.2.2.1,ld.2.2.2.2.2.2.1,ld.2.2.2.2.2.2.2.1,ld.2.2.2.2.2.2.2.2.1,ld.2.2.2.2.2.2.2.2.2)))
theorem WD (N:Nat):Ma N=bC (f15.E1 N) ak 15 f15.args f15.ta f15.res f15.tr 0:=funext fun⟨p0,p1,p2,p3,p4⟩=>by rw[Ma,f15.Kw N N];kernel_rfl
def c15 (N:Nat):Sym.Callee:=⟨f15.args,f15.ta,f15.res,f15.tr,0,Ma N⟩
theorem abm (N:Nat):bt aP 15 (c15 N):=(bF (f15.gI N) ak 15 f15.args f15.ta f15.res f15.tr 0).plain (WD N)
namespace f145
def aO:Nat→Nat→Option (Nat×Ty):=fun c i=>match c,i with
 |0,1=>some (4,.bool)
 |_,_=>none
def args:List dJ:=[.c (.int .i64),.c (.int .i64)]
def ta:List Ty:=[(.int .i64),(.int .i64)]
def res:List (Bool×List cG):=[(false,[.bool])]
def tr:List Ty:=[.bool]
def E0 (N:Nat):aA:=aA.base aP aX aY aO cq bT
theorem cC (N:Nat):aC aP (E0 N):=aQ aP aX aY aO cq bT
end f145
open f145 in
def Ec (N:Nat):(Int)×Int→Option (Bool)
 |(p0,p1)=>(Option.bind ((bif (decide (p0≥(0:Int)))
 then some (decide (p0<p1))
 else some false)) fun b0=>
 some b0)
theorem Su (N:Nat):Ec N=bC (f145.E0 N) ak 145 f145.args f145.ta f145.res f145.tr 0:=funext fun⟨p0,p1⟩=>by rw[Ec];kernel_rfl
def c145 (N:Nat):Sym.Callee:=⟨f145.args,f145.ta,f145.res,f145.tr,0,Ec N⟩
theorem abn (N:Nat):bt aP 145 (c145 N):=(bF (f145.cC N) ak 145 f145.args f145.ta f145.res f145.tr 0).plain (Su N)
namespace f153
def args:List dJ:=[.c (.int .i64)]
def ta:List Ty:=[(.int .i64)]
def res:List (Bool×List cG):=[(false,[.bool])]
def tr:List Ty:=[.bool]
def E0 (N:Nat):aA:=aA.base aP aX aY aO cq bT
theorem cC (N:Nat):aC aP (E0 N):=aQ aP aX aY aO cq bT
end f153
open f153 in
def OM (N:Nat):Int→Option (Bool)
 |p0=>some (p0 != (0:Int))
theorem Sv (N:Nat):OM N=bC (f153.E0 N) ak 153 f153.args f153.ta f153.res f153.tr 0:=funext fun p0=>by rw[OM];kernel_rfl
def abo (N:Nat):Sym.Callee:=⟨f153.args,f153.ta,f153.res,f153.tr,0,OM N⟩
theorem abp (N:Nat):bt aP 153 (abo N):=(bF (f153.cC N) ak 153 f153.args f153.ta f153.res f153.tr 0).plain (Sv N)
namespace f146
def args:List dJ:=[.c (.sl (.int .i64) .aJ)]
def ta:List Ty:=[(.sl (.int .i64))]
def res:List (Bool×List cG):=[(false,[.bool])]
def tr:List Ty:=[.bool]
def E0 (N:Nat):aA:=(aA.base aP aX aY aO cq bT).aa 153 (abo N)
theorem cC (N:Nat):aC aP (E0 N):=(aQ aP aX aY aO cq bT).aa (abp N)
def ko:cw:=⟨[(0,.c (.sl (.int .i64) .aJ)),(1,.fV 153 []),(7,.c (.int .i64)),(8,.c (.int .i64))],[[],[]],[],3,[],0,[(.sl (.int .i64)),(.int .i64),(.int .i64)]⟩
def kq:ck:=[(.ret,⟨[(4,.c (.int .i64))],[[],[]],[],3,[],0,[(.int .i64)]⟩),(.exit 0,⟨[],[[],[]],[],3,[],0,[]⟩)]
def vO (N:Nat) (k:Nat) (x:(List (Int))×(Int)×Int):Option ((Int)⊕(Unit)):=bJ (aL (E0 N) ak 1004001007000 3 (bz t121 3) ko kq) k x
def dc (N:Nat):Nat→(List (Int))×(Int)×Int→Option ((Int)⊕(Unit))
 |0,_=>none
 |k+1,(v0,v1,v2)=>(bif (decide (v2<v1))
 then (Option.bind (idx v0 v2) fun x3=>
 (Option.bind (OM N x3) fun y4=>
 (bif y4
 then some (Sum.inl v2)
 else dc N k (v0,v1,(aH (v2+(1:Int)))))))
 else some (Sum.inr ()))
theorem lE (N:Nat):∀ k,dc N k=vO N k
 |0=>rfl
 |k+1=>funext fun⟨v0,v1,v2⟩=>by rw[dc,lE N k];kernel_rfl
def E1 (N:Nat):aA:=(E0 N).aj N 1004001007000 3 ko kq
theorem gI (N:Nat):aC aP (E1 N):=(cC N).aj N 1004001007000 3 ko kq
end f146
open f146 in
def Ed (N:Nat):List (Int)→Option (Bool)
 |p0=>(Option.bind (dc N N (p0,(p0.length:Int),(0:Int))) fun y5=>
 (match y5 with
 |.inl a6=>some (!(decide (a6≥(0:Int))))
 |.inr b7=>some (!(decide ((-1:Int)≥(0:Int))))))
theorem Sw (N:Nat):Ed N=bC (f146.E1 N) ak 146 f146.args f146.ta f146.res f146.tr 0:=funext fun p0=>by rw[Ed,f146.lE N N];kernel_rfl
def c146 (N:Nat):Sym.Callee:=⟨f146.args,f146.ta,f146.res,f146.tr,0,Ed N⟩
theorem abq (N:Nat):bt aP 146 (c146 N):=(bF (f146.gI N) ak 146 f146.args f146.ta f146.res f146.tr 0).plain (Sw N)
namespace f138
def aO:Nat→Nat→Option (Nat×Ty):=fun c i=>match c,i with
 |0,1=>some (17,.bool)
 |0,11=>some (45,.bool)
 |_,_=>none
def args:List dJ:=[.c (.str)]
def ta:List Ty:=[.str]
def res:List (Bool×List cG):=[(false,[.bool])]
def tr:List Ty:=[.bool]
def E0 (N:Nat):aA:=aA.base aP aX aY aO cq bT
theorem cC (N:Nat):aC aP (E0 N):=aQ aP aX aY aO cq bT
def fG:cw:=⟨[(19,.c (.sl (.int .u8) .d)),(20,.c (.int .i64)),(21,.c (.int .i64))],[],[],1,[],0,[(.sl (.int .u8)),(.int .i64),(.int .i64)]⟩
def fH:ck:=[(.ret,⟨[(2,.c (.bool))],[],[],1,[],0,[.bool]⟩),(.exit 0,⟨[],[],[],1,[],0,[]⟩)]
def nh (N:Nat) (k:Nat) (x:(List (Int))×(Int)×Int):Option ((Bool)⊕(Unit)):=bJ (aL (E0 N) ak 0 6 (bz t138 6) fG fH) k x
def cc (N:Nat):Nat→(List (Int))×(Int)×Int→Option ((Bool)⊕(Unit))
 |0,_=>none
 |k+1,(v2,v3,v4)=>(bif (decide (v4<v3))
 then (Option.bind (idx v2 v4) fun x5=>
 (Option.bind ((bif (decide ((Gz .u8 x5 (32:Int))<(97:Int)))
 then (bif (decide (x5<(48:Int)))
 then some true
 else some (decide (x5>(57:Int))))
 else (bif (decide ((Gz .u8 x5 (32:Int))>(122:Int)))
 then (bif (decide (x5<(48:Int)))
 then some true
 else some (decide (x5>(57:Int))))
 else (bif ((BH .u8 x5 (64:Int))==(0:Int))
 then (bif (decide (x5<(48:Int)))
 then some true
 else some (decide (x5>(57:Int))))
 else some false)))) fun b6=>
 (bif b6
 then some (Sum.inl false)
 else cc N k (v2,v3,(aH (v4+(1:Int)))))))
 else some (Sum.inr ()))
theorem ct (N:Nat):∀ k,cc N k=nh N k
 |0=>rfl
 |k+1=>funext fun⟨v2,v3,v4⟩=>by rw[cc,ct N k];kernel_rfl
def E1 (N:Nat):aA:=(E0 N).aj N 0 6 fG fH
theorem gI (N:Nat):aC aP (E1 N):=(cC N).aj N 0 6 fG fH
end f138
open f138 in
def GF (N:Nat):List UInt8→Option (Bool)
 |p0=>(Option.bind ((bif ((p0.length:Int)==(0:Int))
 then some true
 else (bif (decide ((p0.length:Int)>(16:Int)))
 then some true
 else (Option.bind (idx p0 (0:Int)) fun c0=>
 some (decide ((c0.toNat:Int)≤(57:Int))))))) fun b1=>
 (bif b1
 then some false
 else (Option.bind (cc N N ((cu p0),((cu p0).length:Int),(0:Int))) fun y7=>
 (match y7 with
 |.inl a8=>some a8
 |.inr b9=>some true))))
theorem Sx (N:Nat):GF N=bC (f138.E1 N) ak 138 f138.args f138.ta f138.res f138.tr 0:=funext fun p0=>by rw[GF,f138.ct N N];kernel_rfl
def c138 (N:Nat):Sym.Callee:=⟨f138.args,f138.ta,f138.res,f138.tr,0,GF N⟩
theorem ON (N:Nat):bt aP 138 (c138 N):=(bF (f138.gI N) ak 138 f138.args f138.ta f138.res f138.tr 0).plain (Sx N)
namespace f135
def aO:Nat→Nat→Option (Nat×Ty):=fun c i=>match c,i with
 |0,8=>some (16,.bool)
 |0,6=>some (16,.bool)
 |0,13=>some (29,.bool)
 |_,_=>none
def args:List dJ:=[.c (.sl ai .aJ),.c (.int .i64)]
def ta:List Ty:=[(.sl ai),(.int .i64)]
def res:List (Bool×List cG):=[(false,[.bool])]
def tr:List Ty:=[.bool]
def E0 (N:Nat):aA:=(((aA.base aP aX aY aO cq bT).aa 146 (c146 N)).aa 145 (c145 N)).aa 138 (c138 N)
theorem cC (N:Nat):aC aP (E0 N):=(((aQ aP aX aY aO cq bT).aa (abq N)).aa (abn N)).aa (ON N)
def OO:cw:=⟨[(1,.c (.int .i64)),(5,.c (.ptr 0 5 0 0 0)),(6,.fV 145 []),(7,.c (.mp 0 70 1)),(72,.c (.sl av .d)),(73,.c (.int .i64)),(74,.c (.int .i64))],[],[(0,5,.box 0 [.int .u8,.int .i64,.int .i64,.sl av .d]),(0,70,.set 1)],1,[],2,[(.int .i64),(.sl av),(.int .i64),(.int .i64),(.int .u8),(.int .i64),(.int .i64),(.sl av),(.sl .str)]⟩
def OP:ck:=[(.ret,⟨[(4,.c (.bool))],[],[],1,[],0,[.bool]⟩),(.exit 1,⟨[(5,.c (.ptr 0 5 0 0 0))],[],[(0,5,.box 0 [.int .u8,.int .i64,.int .i64,.sl av .d])],1,[],1,[(.int .u8),(.int .i64),(.int .i64),(.sl av)]⟩)]
def abr (N:Nat) (k:Nat) (x:(Int)×(List (Field))×(Int)×(Int)×(Int)×(Int)×(Int)×(List (Field))×List (List UInt8)):Option ((Bool)⊕((Int)×(Int)×(Int)×List (Field))):=bJ (aL (E0 N) ak 0 25 (bz t135 25) OO OP) k x
def xF (N:Nat):Nat→(Int)×(List (Field))×(Int)×(Int)×(Int)×(Int)×(Int)×(List (Field))×List (List UInt8)→Option ((Bool)⊕((Int)×(Int)×(Int)×List (Field)))
 |0,_=>none
 |k+1,(v10,v11,v12,mJ,lU,rZ,r6,r7,vP)=>(bif (decide (mJ<v12))
 then (Option.bind (idx v11 mJ) fun EB=>
 (Option.bind (GF N EB.1) fun MU=>
 (bif (!MU)
 then some (Sum.inl false)
 else (bif (hasB vP EB.1)
 then some (Sum.inl false)
 else (Option.bind (Ec N (EB.2,v10)) fun EC=>
 (bif (!EC)
 then some (Sum.inl false)
 else xF N k (v10,v11,v12,(aH (mJ+(1:Int))),lU,rZ,r6,r7,(pQ vP EB.1))))))))
 else some (Sum.inr (lU,rZ,r6,r7)))
theorem GG (N:Nat):∀ k,xF N k=abr N k
 |0=>rfl
 |k+1=>funext fun⟨v10,v11,v12,mJ,lU,rZ,r6,r7,vP⟩=>by rw[xF,GG N k];kernel_rfl
def E1 (N:Nat):aA:=(E0 N).aj N 0 25 OO OP
theorem gI (N:Nat):aC aP (E1 N):=(cC N).aj N 0 25 OO OP
end f135
open f135 in
def Mb (N:Nat):(List (aq))×Int→Option (Bool)
 |(p0,p1)=>(Option.bind (idx p0 p1) fun x0=>
 (Option.bind ((bif (x0.1==(1:Int))
 then some true
 else (Option.bind ((bif (x0.1==(2:Int))
 then some true
 else some (x0.1==(3:Int)))) fun b1=>
 some b1))) fun b2=>
 (bif b2
 then (Option.bind (Ed N [x0.2.1,x0.2.2.1,(x0.2.2.2.length:Int)]) fun y3=>
 some y3)
 else (Option.bind ((bif (x0.1==(4:Int))
 then some true
 else some (x0.1==(7:Int)))) fun b4=>
 (bif b4
 then (Option.bind (Ec N (x0.2.1,(p0.length:Int))) fun y5=>
 (bif y5
 then (Option.bind (Ed N [x0.2.2.1,(x0.2.2.2.length:Int)]) fun y6=>
 some y6)
 else some false))
 else (bif (x0.1==(6:Int))
 then (Option.bind (Ec N (x0.2.1,p1)) fun y7=>
 (bif y7
 then (Option.bind (Ec N ((aH (x0.2.2.1-(1:Int))),(16:Int))) fun y8=>
 (bif y8
 then (Option.bind (Ed N [(x0.2.2.2.length:Int)]) fun y9=>
 some y9)
 else some false))
 else some false))
 else (bif (x0.1==(5:Int))
 then (Option.bind (xF N N (p1,x0.2.2.2,(x0.2.2.2.length:Int),(0:Int),x0.1,x0.2.1,x0.2.2.1,x0.2.2.2,([]:List (List UInt8)))) fun MV=>
 (match MV with
 |.inl a23=>some a23
 |.inr Y3=>(Option.bind (Ed N [Y3.2.1,Y3.2.2.1]) fun xZ=>
 (bif xZ
 then (bif (decide ((Y3.2.2.2.length:Int)>(0:Int)))
 then some (decide ((Y3.2.2.2.length:Int)≤(8:Int)))
 else some false)
 else some false))))
 else some false)))))))
theorem Sy (N:Nat):Mb N=bC (f135.E1 N) ak 135 f135.args f135.ta f135.res f135.tr 0:=funext fun⟨p0,p1⟩=>by rw[Mb,f135.GG N N];kernel_rfl
def abt (N:Nat):Sym.Callee:=⟨f135.args,f135.ta,f135.res,f135.tr,0,Mb N⟩
theorem abu (N:Nat):bt aP 135 (abt N):=(bF (f135.gI N) ak 135 f135.args f135.ta f135.res f135.tr 0).plain (Sy N)
namespace f136
def aO:Nat→Nat→Option (Nat×Ty):=fun c i=>match c,i with
 |0,26=>some (7,(.int .i64))
 |0,23=>some (7,(.int .i64))
 |0,20=>some (7,(.int .i64))
 |_,_=>none
def bT:Nat→Nat→Option Ty:=fun c d=>match c,d with
 |0,12=>some (.int .i64)
 |0,17=>some (.int .i64)
 |_,_=>none
def args:List dJ:=[.c (.sl ai .aJ)]
def ta:List Ty:=[(.sl ai)]
def res:List (Bool×List cG):=[(false,[.sl (.int .i64) .d])]
def tr:List Ty:=[(.sl (.int .i64))]
def E0 (N:Nat):aA:=aA.base aP aX aY aO cq bT
theorem cC (N:Nat):aC aP (E0 N):=aQ aP aX aY aO cq bT
def AH:cw:=⟨[(0,.c (.sl ai .aJ)),(3,.c (.ref 0 3 0 (.int .i64))),(4,.c (.ref 0 17 1 (.int .i64))),(5,.c (.int .i64)),(7,.c (.int .i64)),(13,.c (.int .i64)),(18,.c (.sl ai .aJ)),(19,.c (.int .i64)),(20,.c (.int .i64)),(59,.c (.sl av .d)),(60,.c (.int .i64)),(61,.c (.int .i64))],[],[(0,3,.row 0 (.int .i64)),(0,17,.row 1 (.int .i64))],1,[],2,[(.sl ai),(.int .i64),(.int .i64),(.int .i64),(.sl ai),(.int .i64),(.int .i64),(.sl av),(.int .i64),(.int .i64),(.sl (.int .i64)),(.sl (.int .i64))]⟩
def AI:ck:=[(.exit 5,⟨[(0,.c (.sl ai .aJ)),(3,.c (.ref 0 3 0 (.int .i64))),(4,.c (.ref 0 17 1 (.int .i64))),(5,.c (.int .i64)),(7,.c (.int .i64)),(13,.c (.int .i64)),(18,.c (.sl ai .aJ)),(19,.c (.int .i64)),(20,.c (.int .i64))],[],[(0,3,.row 0 (.int .i64)),(0,17,.row 1 (.int .i64))],1,[],2,[(.sl ai),(.int .i64),(.int .i64),(.int .i64),(.sl ai),(.int .i64),(.int .i64),(.sl (.int .i64)),(.sl (.int .i64))]⟩)]
def OQ (N:Nat) (k:Nat) (x:(List (aq))×(Int)×(Int)×(Int)×(List (aq))×(Int)×(Int)×(List (Field))×(Int)×(Int)×(List (Int))×List (Int)):Option (((List (aq))×(Int)×(Int)×(Int)×(List (aq))×(Int)×(Int)×(List (Int))×List (Int))):=bJ (aL (E0 N) ak 0 30 (bz t136 30) AH AI) k x
def lF (N:Nat):Nat→(List (aq))×(Int)×(Int)×(Int)×(List (aq))×(Int)×(Int)×(List (Field))×(Int)×(Int)×(List (Int))×List (Int)→Option (((List (aq))×(Int)×(Int)×(Int)×(List (aq))×(Int)×(Int)×(List (Int))×List (Int)))
 |0,_=>none
 |k+1,(r7,vP,yG,v20,v21,v22,ya,v24,s4,Ee,HB,v28)=>(bif (decide (Ee<s4))
 then (Option.bind (idx v24 Ee) fun WE=>
 (aZ (jq WE.2 v28.length)
 ((Option.bind (v28[(Int.toNat WE.2)]?) fun x30=>
 lF N k (r7,vP,(aH (yG+x30)),v20,v21,v22,ya,v24,s4,(aH (Ee+(1:Int))),HB,v28)))))
 else some (r7,vP,yG,v20,v21,v22,ya,HB,v28))
theorem qD (N:Nat):∀ k,lF N k=OQ N k
 |0=>rfl
 |k+1=>funext fun⟨r7,vP,yG,v20,v21,v22,ya,v24,s4,Ee,HB,v28⟩=>by rw[lF,qD N k];kernel_rfl
def E1 (N:Nat):aA:=(E0 N).aj N 0 30 AH AI
theorem gI (N:Nat):aC aP (E1 N):=(cC N).aj N 0 30 AH AI
def AJ:cw:=⟨[(0,.c (.sl ai .aJ)),(3,.c (.ref 0 3 0 (.int .i64))),(4,.c (.ref 0 17 1 (.int .i64))),(13,.c (.int .i64)),(18,.c (.sl ai .aJ)),(19,.c (.int .i64)),(20,.c (.int .i64))],[],[(0,3,.row 0 (.int .i64)),(0,17,.row 1 (.int .i64))],1,[],2,[(.sl ai),(.int .i64),(.sl ai),(.int .i64),(.int .i64),(.sl (.int .i64)),(.sl (.int .i64))]⟩
def AK:ck:=[(.exit 2,⟨[(0,.c (.sl ai .aJ)),(4,.c (.ref 0 17 0 (.int .i64))),(13,.c (.int .i64))],[],[(0,17,.row 0 (.int .i64))],1,[],1,[(.sl ai),(.int .i64),(.sl (.int .i64))]⟩)]
def OR (N:Nat) (k:Nat) (x:(List (aq))×(Int)×(List (aq))×(Int)×(Int)×(List (Int))×List (Int)):Option (((List (aq))×(Int)×List (Int))):=bJ (aL (E1 N) ak 0 11 (bz t136 11) AJ AK) k x
def jW (N:Nat):Nat→(List (aq))×(Int)×(List (aq))×(Int)×(Int)×(List (Int))×List (Int)→Option (((List (aq))×(Int)×List (Int)))
 |0,_=>none
 |k+1,(v3,v4,v5,v6,v7,v8,v9)=>(bif (decide (v7<v6))
 then (Option.bind (idx v5 v7) fun pH=>
 (Option.bind ((bif (pH.1==(4:Int))
 then (aZ (jq pH.2.1 v8.length)
 ((Option.bind (v8[(Int.toNat pH.2.1)]?) fun MW=>
 some (aH ((1:Int)+MW)))))
 else (Option.bind ((bif (pH.1==(7:Int))
 then (aZ (jq pH.2.1 v8.length)
 ((Option.bind (v8[(Int.toNat pH.2.1)]?) fun x12=>
 some (aH ((1:Int)+(aH ((16:Int)*x12)))))))
 else (Option.bind ((bif (pH.1==(6:Int))
 then (aZ (jq pH.2.1 v9.length)
 ((Option.bind (v9[(Int.toNat pH.2.1)]?) fun Ur=>
 some (aH ((1:Int)+(aH (pH.2.2.1*Ur)))))))
 else some (1:Int))) fun WG=>
 some WG))) fun Sr=>
 some Sr))) fun b16=>
 (Option.bind (lF N N (v3,v7,b16,v4,v5,v6,v7,pH.2.2.2,(pH.2.2.2.length:Int),(0:Int),v8,v9)) fun pN=>
 (aZ (jq pN.2.1 pN.2.2.2.2.2.2.2.2.length)
 ((Option.bind (pN.2.2.2.2.2.2.2.2[(Int.toNat pN.2.1)]?) fun x32=>
 jW N k (pN.1,pN.2.2.2.1,pN.2.2.2.2.1,pN.2.2.2.2.2.1,(aH (pN.2.2.2.2.2.2.1+(1:Int))),pN.2.2.2.2.2.2.2.1,(pN.2.2.2.2.2.2.2.2.set (Int.toNat pN.2.1) (min pN.2.2.1 (5001:Int))))))))))
 else some (v3,v4,v9))
theorem qE (N:Nat):∀ k,jW N k=OR N k
 |0=>rfl
 |k+1=>funext fun⟨v3,v4,v5,v6,v7,v8,v9⟩=>by rw[jW,qE N k,qD N N];kernel_rfl
def E2 (N:Nat):aA:=(E1 N).aj N 0 11 AJ AK
theorem AM (N:Nat):aC aP (E2 N):=(gI N).aj N 0 11 AJ AK
def mA:cw:=⟨[(0,.c (.sl ai .aJ)),(3,.c (.ref 0 3 0 (.int .i64))),(13,.c (.int .i64))],[],[(0,3,.row 0 (.int .i64))],1,[],1,[(.sl ai),(.int .i64),(.sl (.int .i64))]⟩
def mB:ck:=[(.exit 0,⟨[(3,.c (.ref 0 3 0 (.int .i64)))],[],[(0,3,.row 0 (.int .i64))],1,[],1,[(.sl (.int .i64))]⟩)]
def AN (N:Nat) (k:Nat) (x:(List (aq))×(Int)×List (Int)):Option ((List (Int))):=bJ (aL (E2 N) ak 0 4 (bz t136 4) mA mB) k x
def dD (N:Nat):Nat→(List (aq))×(Int)×List (Int)→Option ((List (Int)))
 |0,_=>none
 |k+1,(v0,v1,v2)=>(bif (decide (v1<(4:Int)))
 then (aZ (decide (0≤(v0.length:Int)))
 ((aZ (decide (0≤(v0.length:Int)))
 ((aZ (decide ((Int.toNat (v0.length:Int))≤(Int.toNat (v0.length:Int)))&&room (Int.toNat (v0.length:Int)) 8)
 ((Option.bind (jW N N (v0,v1,v0,(v0.length:Int),(0:Int),v2,(List.replicate (Int.toNat (v0.length:Int)) (0:Int)))) fun Ut=>
 dD N k (Ut.1,(aH (Ut.2.1+(1:Int))),Ut.2.2))))))))
 else some v2)
theorem fC (N:Nat):∀ k,dD N k=AN N k
 |0=>rfl
 |k+1=>funext fun⟨v0,v1,v2⟩=>by rw[dD,fC N k,qE N N];kernel_rfl
def E3 (N:Nat):aA:=(E2 N).aj N 0 4 mA mB
theorem IW (N:Nat):aC aP (E3 N):=(AM N).aj N 0 4 mA mB
end f136
open f136 in
def Mc (N:Nat):List (aq)→Option (List (Int))
 |p0=>(aZ (decide (0≤(p0.length:Int)))
 ((aZ (decide (0≤(p0.length:Int)))
 ((aZ (decide ((Int.toNat (p0.length:Int))≤(Int.toNat (p0.length:Int)))&&room (Int.toNat (p0.length:Int)) 8)
 ((Option.bind (dD N N (p0,(0:Int),(List.replicate (Int.toNat (p0.length:Int)) (0:Int)))) fun IX=>
 some IX)))))))
theorem Sz (N:Nat):Mc N=bC (f136.E3 N) ak 136 f136.args f136.ta f136.res f136.tr 0:=funext fun p0=>by rw[Mc,f136.fC N N];kernel_rfl
def abv (N:Nat):Sym.Callee:=⟨f136.args,f136.ta,f136.res,f136.tr,0,Mc N⟩
theorem abw (N:Nat):bt aP 136 (abv N):=(bF (f136.IW N) ak 136 f136.args f136.ta f136.res f136.tr 0).plain (Sz N)
namespace f112
def args:List dJ:=[.c (.sl ai .aJ)]
def ta:List Ty:=[(.sl ai)]
def res:List (Bool×List cG):=[(false,[.int .i64])]
def tr:List Ty:=[(.int .i64)]
def E0 (N:Nat):aA:=((aA.base aP aX aY aO cq bT).aa 135 (abt N)).aa 136 (abv N)
theorem cC (N:Nat):aC aP (E0 N):=((aQ aP aX aY aO cq bT).aa (abu N)).aa (abw N)
def fG:cw:=⟨[(0,.c (.sl ai .aJ)),(10,.c (.int .i64)),(11,.c (.int .i64))],[],[],1,[],0,[(.sl ai),(.int .i64),(.int .i64)]⟩
def fH:ck:=[(.ret,⟨[(2,.c (.int .i64))],[],[],1,[],0,[(.int .i64)]⟩),(.exit 0,⟨[(0,.c (.sl ai .aJ))],[],[],1,[],0,[(.sl ai)]⟩)]
def nh (N:Nat) (k:Nat) (x:(List (aq))×(Int)×Int):Option ((Int)⊕(List (aq))):=bJ (aL (E0 N) ak 0 6 (bz t112 6) fG fH) k x
def cc (N:Nat):Nat→(List (aq))×(Int)×Int→Option ((Int)⊕(List (aq)))
 |0,_=>none
 |k+1,(v0,v1,v2)=>(bif (decide (v2<v1))
 then (Option.bind (Mb N (v0,v2)) fun y3=>
 (bif (!y3)
 then some (Sum.inl (8:Int))
 else cc N k (v0,v1,(aH (v2+(1:Int))))))
 else some (Sum.inr v0))
theorem ct (N:Nat):∀ k,cc N k=nh N k
 |0=>rfl
 |k+1=>funext fun⟨v0,v1,v2⟩=>by rw[cc,ct N k];kernel_rfl
def E1 (N:Nat):aA:=(E0 N).aj N 0 6 fG fH
theorem gI (N:Nat):aC aP (E1 N):=(cC N).aj N 0 6 fG fH
def AO:cw:=⟨[(20,.c (.sl (.int .i64) .d)),(21,.c (.int .i64)),(22,.c (.int .i64))],[],[],1,[],0,[(.sl (.int .i64)),(.int .i64),(.int .i64)]⟩
def AP:ck:=[(.ret,⟨[(2,.c (.int .i64))],[],[],1,[],0,[(.int .i64)]⟩),(.exit 2,⟨[],[],[],1,[],0,[]⟩)]
def OS (N:Nat) (k:Nat) (x:(List (Int))×(Int)×Int):Option ((Int)⊕(Unit)):=bJ (aL (E1 N) ak 0 17 (bz t112 17) AO AP) k x
def lG (N:Nat):Nat→(List (Int))×(Int)×Int→Option ((Int)⊕(Unit))
 |0,_=>none
 |k+1,(v8,v9,v10)=>(bif (decide (v10<v9))
 then (Option.bind (idx v8 v10) fun MW=>
 (bif (decide (MW>(5000:Int)))
 then some (Sum.inl (8:Int))
 else lG N k (v8,v9,(aH (v10+(1:Int))))))
 else some (Sum.inr ()))
theorem qF (N:Nat):∀ k,lG N k=OS N k
 |0=>rfl
 |k+1=>funext fun⟨v8,v9,v10⟩=>by rw[lG,qF N k];kernel_rfl
def E2 (N:Nat):aA:=(E1 N).aj N 0 17 AO AP
theorem AM (N:Nat):aC aP (E2 N):=(gI N).aj N 0 17 AO AP
end f112
open f112 in
def IY (N:Nat):List (aq)→Option (Int)
 |p0=>(bif (decide ((p0.length:Int)>(32:Int)))
 then some (8:Int)
 else (Option.bind (cc N N (p0,(p0.length:Int),(0:Int))) fun y4=>
 (match y4 with
 |.inl a5=>some a5
 |.inr b6=>(Option.bind (Mc N b6) fun y7=>
 (Option.bind (lG N N (y7,(y7.length:Int),(0:Int))) fun AQ=>
 (match AQ with
 |.inl a13=>some a13
 |.inr WG=>some (0:Int)))))))
theorem SA (N:Nat):IY N=bC (f112.E2 N) ak 112 f112.args f112.ta f112.res f112.tr 0:=funext fun p0=>by rw[IY,f112.ct N N,f112.qF N N];kernel_rfl
def WH (N:Nat):Sym.Callee:=⟨f112.args,f112.ta,f112.res,f112.tr,0,IY N⟩
theorem Uu (N:Nat):bt aP 112 (WH N):=(bF (f112.AM N) ak 112 f112.args f112.ta f112.res f112.tr 0).plain (SA N)
namespace f154
def bT:Nat→Nat→Option Ty:=fun c d=>match c,d with
 |0,13=>some (.int .i64)
 |_,_=>none
def args:List dJ:=[.c (.sl kY .aJ),.c (.sl av .aJ)]
def ta:List Ty:=[(.sl kY),(.sl av)]
def res:List (Bool×List cG):=[(false,[.sl (.int .i64) .d]),(true,[.int .i64,.int .i64])]
def tr:List Ty:=[(.sl (.int .i64)),(.int .i64),(.int .i64)]
def E0 (N:Nat):aA:=aA.base aP aX aY aO cq bT
theorem cC (N:Nat):aC aP (E0 N):=aQ aP aX aY aO cq bT
def mA:cw:=⟨[(0,.c (.sl kY .aJ)),(5,.c (.ptr 0 5 0 0 0)),(6,.c (.ref 0 13 1 (.int .i64))),(7,.c (.ptr 0 7 2 0 0)),(15,.c (.sl av .aJ)),(16,.c (.int .i64)),(17,.c (.int .i64))],[],[(0,5,.box 0 [.int .i64,.int .i64]),(0,13,.row 1 (.int .i64)),(0,7,.box 2 [.int .i64,.int .i64])],1,[],3,[(.sl kY),(.sl av),(.int .i64),(.int .i64),(.int .i64),(.int .i64),(.sl (.int .i64)),(.int .i64),(.int .i64)]⟩
def mB:ck:=[(.exit 0,⟨[(5,.c (.ptr 0 5 0 0 0)),(6,.c (.ref 0 13 1 (.int .i64))),(7,.c (.ptr 0 7 2 0 0))],[],[(0,5,.box 0 [.int .i64,.int .i64]),(0,13,.row 1 (.int .i64)),(0,7,.box 2 [.int .i64,.int .i64])],1,[],3,[(.int .i64),(.int .i64),(.sl (.int .i64)),(.int .i64),(.int .i64)]⟩)]
def AN (N:Nat) (k:Nat) (x:(List (span))×(List (Field))×(Int)×(Int)×(Int)×(Int)×(List (Int))×(Int)×Int):Option (((Int)×(Int)×(List (Int))×(Int)×Int)):=bJ (aL (E0 N) ak 0 4 (bz t154 4) mA mB) k x
def dD (N:Nat):Nat→(List (span))×(List (Field))×(Int)×(Int)×(Int)×(Int)×(List (Int))×(Int)×Int→Option (((Int)×(Int)×(List (Int))×(Int)×Int))
 |0,_=>none
 |k+1,(v0,v1,v2,v3,v4,v5,v6,v7,v8)=>(bif (decide (v3<v2))
 then (Option.bind (idx v1 v3) fun x9=>
 (Option.bind (idx v0 x9.2) fun pH=>
 (aZ (jq v3 v6.length)
 ((Option.bind (v6[(Int.toNat v3)]?) fun MW=>
 (aZ (jq v3 (v6.set (Int.toNat v3) (mT .i64 (aH ((aH (v7+pH.2))-(1:Int))) (aH (pH.2-(1:Int))))).length)
 ((Option.bind ((v6.set (Int.toNat v3) (mT .i64 (aH ((aH (v7+pH.2))-(1:Int))) (aH (pH.2-(1:Int)))))[(Int.toNat v3)]?) fun x12=>
 dD N k (v0,v1,v2,(aH (v3+(1:Int))),v4,v5,(v6.set (Int.toNat v3) (mT .i64 (aH ((aH (v7+pH.2))-(1:Int))) (aH (pH.2-(1:Int))))),(min (1048576:Int) (aH (x12+pH.1))),(max v8 pH.2))))))))))
 else some (v4,v5,v6,v7,v8))
theorem fC (N:Nat):∀ k,dD N k=AN N k
 |0=>rfl
 |k+1=>funext fun⟨v0,v1,v2,v3,v4,v5,v6,v7,v8⟩=>by rw[dD,fC N k];kernel_rfl
def E1 (N:Nat):aA:=(E0 N).aj N 0 4 mA mB
theorem gI (N:Nat):aC aP (E1 N):=(cC N).aj N 0 4 mA mB
end f154
open f154 in
def IZ (N:Nat):(List (span))×List (Field)→Option ((List (Int))×(Int)×Int)
 |(p0,p1)=>(aZ (decide (0≤(p1.length:Int)))
 ((aZ (decide (0≤(p1.length:Int)))
 ((aZ (decide ((Int.toNat (p1.length:Int))≤(Int.toNat (p1.length:Int)))&&room (Int.toNat (p1.length:Int)) 8)
 ((Option.bind (dD N N (p0,p1,(p1.length:Int),(0:Int),(0:Int),(0:Int),(List.replicate (Int.toNat (p1.length:Int)) (0:Int)),(0:Int),(1:Int))) fun GH=>
 some (GH.2.2.1,(mT .i64 (aH ((aH (GH.2.2.2.1+GH.2.2.2.2))-(1:Int))) (aH (GH.2.2.2.2-(1:Int)))),GH.2.2.2.2))))))))
theorem SB (N:Nat):IZ N=bC (f154.E1 N) ak 154 f154.args f154.ta f154.res f154.tr 0:=funext fun⟨p0,p1⟩=>by rw[IZ,f154.fC N N];kernel_rfl
def c154 (N:Nat):Sym.Callee:=⟨f154.args,f154.ta,f154.res,f154.tr,0,IZ N⟩
theorem abx (N:Nat):bt aP 154 (c154 N):=(bF (f154.gI N) ak 154 f154.args f154.ta f154.res f154.tr 0).plain (SB N)
namespace f147
def aO:Nat→Nat→Option (Nat×Ty):=fun c i=>match c,i with
 |0,15=>some (25,.bool)
 |_,_=>none
def bT:Nat→Nat→Option Ty:=fun c d=>match c,d with
 |0,9=>some kY
 |_,_=>none
def args:List dJ:=[.c (.sl ai .aJ)]
def ta:List Ty:=[(.sl ai)]
def res:List (Bool×List cG):=[(false,[.sl kY .d])]
def tr:List Ty:=[(.sl kY)]
def E0 (N:Nat):aA:=(aA.base aP aX aY aO cq bT).aa 154 (c154 N)
theorem cC (N:Nat):aC aP (E0 N):=(aQ aP aX aY aO cq bT).aa (abx N)
def mA:cw:=⟨[(3,.c (.ref 0 9 0 kY)),(10,.c (.sl ai .aJ)),(11,.c (.int .i64)),(12,.c (.int .i64))],[],[(0,9,.row 0 kY)],1,[],1,[(.sl ai),(.int .i64),(.int .i64),(.sl kY)]⟩
def mB:ck:=[(.exit 0,⟨[(3,.c (.ref 0 9 0 kY))],[],[(0,9,.row 0 kY)],1,[],1,[(.sl kY)]⟩)]
def AN (N:Nat) (k:Nat) (x:(List (aq))×(Int)×(Int)×List (span)):Option ((List (span))):=bJ (aL (E0 N) ak 0 4 (bz t147 4) mA mB) k x
def dD (N:Nat):Nat→(List (aq))×(Int)×(Int)×List (span)→Option ((List (span)))
 |0,_=>none
 |k+1,(v0,v1,v2,v3)=>(bif (decide (v2<v1))
 then (Option.bind (idx v0 v2) fun x4=>
 (bif (x4.1==(1:Int))
 then (aZ (jq v2 v3.length)
 ((Option.bind (v3[(Int.toNat v2)]?) fun x5=>
 dD N k (v0,v1,(aH (v2+(1:Int))),(v3.set (Int.toNat v2) ((1:Int),(1:Int)))))))
 else (Option.bind ((bif (x4.1==(2:Int))
 then some true
 else some (x4.1==(4:Int)))) fun b6=>
 (bif b6
 then (aZ (jq v2 v3.length)
 ((Option.bind (v3[(Int.toNat v2)]?) fun x7=>
 dD N k (v0,v1,(aH (v2+(1:Int))),(v3.set (Int.toNat v2) ((8:Int),(8:Int)))))))
 else (bif (x4.1==(3:Int))
 then (aZ (jq v2 v3.length)
 ((Option.bind (v3[(Int.toNat v2)]?) fun x8=>
 dD N k (v0,v1,(aH (v2+(1:Int))),(v3.set (Int.toNat v2) ((16:Int),(8:Int)))))))
 else (bif (x4.1==(7:Int))
 then (aZ (jq v2 v3.length)
 ((Option.bind (v3[(Int.toNat v2)]?) fun x9=>
 dD N k (v0,v1,(aH (v2+(1:Int))),(v3.set (Int.toNat v2) ((24:Int),(8:Int)))))))
 else (bif (x4.1==(6:Int))
 then (aZ (jq x4.2.1 v3.length)
 ((Option.bind (v3[(Int.toNat x4.2.1)]?) fun pH=>
 (aZ (jq v2 v3.length)
 ((Option.bind (v3[(Int.toNat v2)]?) fun MW=>
 dD N k (v0,v1,(aH (v2+(1:Int))),(v3.set (Int.toNat v2) ((min (1048576:Int) (aH (x4.2.2.1*pH.1))),pH.2)))))))))
 else (bif (x4.1==(5:Int))
 then (Option.bind (IZ N (v3,x4.2.2.2)) fun AQ=>
 (aZ (jq v2 v3.length)
 ((Option.bind (v3[(Int.toNat v2)]?) fun Ur=>
 dD N k (v0,v1,(aH (v2+(1:Int))),(v3.set (Int.toNat v2) AQ.2))))))
 else dD N k (v0,v1,(aH (v2+(1:Int))),v3)))))))))
 else some v3)
theorem fC (N:Nat):∀ k,dD N k=AN N k
 |0=>rfl
 |k+1=>funext fun⟨v0,v1,v2,v3⟩=>by rw[dD,fC N k];kernel_rfl
def E1 (N:Nat):aA:=(E0 N).aj N 0 4 mA mB
theorem gI (N:Nat):aC aP (E1 N):=(cC N).aj N 0 4 mA mB
end f147
open f147 in
def Md (N:Nat):List (aq)→Option (List (span))
 |p0=>(aZ (decide (0≤(p0.length:Int)))
 ((aZ (decide (0≤(p0.length:Int)))
 ((aZ (decide ((Int.toNat (p0.length:Int))≤(Int.toNat (p0.length:Int)))&&room (Int.toNat (p0.length:Int)) 16)
 ((Option.bind (dD N N (p0,(p0.length:Int),(0:Int),(List.replicate (Int.toNat (p0.length:Int)) ((0:Int),(0:Int))))) fun tA=>
 some tA)))))))
theorem SC (N:Nat):Md N=bC (f147.E1 N) ak 147 f147.args f147.ta f147.res f147.tr 0:=funext fun p0=>by rw[Md,f147.fC N N];kernel_rfl
def aby (N:Nat):Sym.Callee:=⟨f147.args,f147.ta,f147.res,f147.tr,0,Md N⟩
theorem abz (N:Nat):bt aP 147 (aby N):=(bF (f147.gI N) ak 147 f147.args f147.ta f147.res f147.tr 0).plain (SC N)
namespace f137
def aO:Nat→Nat→Option (Nat×Ty):=fun c i=>match c,i with
 |0,5=>some (20,.bool)
 |_,_=>none
def args:List dJ:=[.c (.sl ai .aJ),.c (.int .i64)]
def ta:List Ty:=[(.sl ai),(.int .i64)]
def res:List (Bool×List cG):=[(false,[.sl kY .d]),(false,[.int .i64])]
def tr:List Ty:=[(.sl kY),(.int .i64)]
def E0 (N:Nat):aA:=((aA.base aP aX aY aO cq bT).aa 112 (WH N)).aa 147 (aby N)
theorem cC (N:Nat):aC aP (E0 N):=((aQ aP aX aY aO cq bT).aa (Uu N)).aa (abz N)
end f137
open f137 in
def OT (N:Nat):(List (aq))×Int→Option ((List (span))×Int)
 |(p0,p1)=>(Option.bind (IY N p0) fun y0=>
 (bif (y0 != (0:Int))
 then some ([],y0)
 else (Option.bind ((bif (decide (p1<(0:Int)))
 then some true
 else some (decide (p1≥(p0.length:Int))))) fun b1=>
 (bif b1
 then some ([],(2:Int))
 else (Option.bind (Md N p0) fun y2=>
 (Option.bind (idx y2 p1) fun x3=>
 (bif (decide (x3.1>(256:Int)))
 then some ([],(16:Int))
 else some (y2,(0:Int)))))))))
theorem SD (N:Nat):OT N=bC (f137.E0 N) ak 137 f137.args f137.ta f137.res f137.tr 0:=funext fun⟨p0,p1⟩=>by rw[OT];kernel_rfl
def abA (N:Nat):Sym.Callee:=⟨f137.args,f137.ta,f137.res,f137.tr,0,OT N⟩
theorem abB (N:Nat):bt aP 137 (abA N):=(bF (f137.cC N) ak 137 f137.args f137.ta f137.res f137.tr 0).plain (SD N)
namespace f113
def args:List dJ:=[.c (.sl ai .aJ),.c (.int .i64)]
def ta:List Ty:=[(.sl ai),(.int .i64)]
def res:List (Bool×List cG):=[(false,[.int .i64]),(false,[.int .i64]),(false,[.int .i64])]
def tr:List Ty:=[(.int .i64),(.int .i64),(.int .i64)]
def E0 (N:Nat):aA:=(aA.base aP aX aY aO cq bT).aa 137 (abA N)
theorem cC (N:Nat):aC aP (E0 N):=(aQ aP aX aY aO cq bT).aa (abB N)
end f113
open f113 in
def I0 (N:Nat):(List (aq))×Int→Option ((Int)×(Int)×Int)
 |(p0,p1)=>(Option.bind (OT N (p0,p1)) fun y0=>
 (bif (y0.2 != (0:Int))
 then some ((0:Int),(0:Int),y0.2)
 else (Option.bind (idx y0.1 p1) fun x1=>
 (Option.bind (idx y0.1 p1) fun x2=>
 some (x1.1,x2.2,(0:Int))))))
theorem SE (N:Nat):I0 N=bC (f113.E0 N) ak 113 f113.args f113.ta f113.res f113.tr 0:=funext fun⟨p0,p1⟩=>by rw[I0];kernel_rfl
def WI (N:Nat):Sym.Callee:=⟨f113.args,f113.ta,f113.res,f113.tr,0,I0 N⟩
theorem Uv (N:Nat):bt aP 113 (WI N):=(bF (f113.cC N) ak 113 f113.args f113.ta f113.res f113.tr 0).plain (SE N)
namespace f139
def args:List dJ:=[.c (.sl av .aJ)]
def ta:List Ty:=[(.sl av)]
def res:List (Bool×List cG):=[(false,[.bool])]
def tr:List Ty:=[.bool]
def E0 (N:Nat):aA:=(aA.base aP aX aY aO cq bT).aa 138 (c138 N)
theorem cC (N:Nat):aC aP (E0 N):=(aQ aP aX aY aO cq bT).aa (ON N)
def kr:cw:=⟨[(0,.c (.sl av .aJ)),(1,.fV 149 [.ptr 0 4 0 0 0]),(7,.c (.int .i64)),(8,.c (.int .i64))],[[],[]],[(0,4,.box 0 [.str,.int .i64])],3,[],1,[(.sl av),(.int .i64),(.int .i64),.str,(.int .i64)]⟩
def ku:ck:=[(.ret,⟨[(4,.c (.int .i64))],[[],[]],[],3,[],0,[(.int .i64)]⟩),(.exit 0,⟨[],[[],[]],[],3,[],0,[]⟩)]
def vQ (N:Nat) (k:Nat) (x:(List (Field))×(Int)×(Int)×(List UInt8)×Int):Option ((Int)⊕(Unit)):=bJ (aL (E0 N) ak 1021001007000 3 (bz t155 3) kr ku) k x
def cD (N:Nat):Nat→(List (Field))×(Int)×(Int)×(List UInt8)×Int→Option ((Int)⊕(Unit))
 |0,_=>none
 |k+1,(v6,v7,v8,v9,v10)=>(bif (decide (v8<v7))
 then (Option.bind (idx v6 v8) fun MW=>
 (bif (MW.1==v9)
 then some (Sum.inl v8)
 else cD N k (v6,v7,(aH (v8+(1:Int))),v9,v10)))
 else some (Sum.inr ()))
theorem lH (N:Nat):∀ k,cD N k=vQ N k
 |0=>rfl
 |k+1=>funext fun⟨v6,v7,v8,v9,v10⟩=>by rw[cD,lH N k];kernel_rfl
def E1 (N:Nat):aA:=(E0 N).aj N 1021001007000 3 kr ku
theorem gI (N:Nat):aC aP (E1 N):=(cC N).aj N 1021001007000 3 kr ku
def AE:cw:=⟨[(0,.c (.sl av .aJ)),(5,.c (.sl av .aJ)),(6,.c (.int .i64)),(7,.c (.int .i64))],[],[],1,[],0,[(.sl av),(.sl av),(.int .i64),(.int .i64)]⟩
def AF:ck:=[(.ret,⟨[(2,.c (.bool))],[],[],1,[],0,[.bool]⟩),(.exit 0,⟨[],[],[],1,[],0,[]⟩)]
def OL (N:Nat) (k:Nat) (x:(List (Field))×(List (Field))×(Int)×Int):Option ((Bool)⊕(Unit)):=bJ (aL (E1 N) ak 0 3 (bz t139 3) AE AF) k x
def pM (N:Nat):Nat→(List (Field))×(List (Field))×(Int)×Int→Option ((Bool)⊕(Unit))
 |0,_=>none
 |k+1,(v0,v1,v2,v3)=>(bif (decide (v3<v2))
 then (Option.bind (idx v1 v3) fun x4=>
 (Option.bind (GF N x4.1) fun y5=>
 (bif (!y5)
 then some (Sum.inl false)
 else (aZ (decide (0≤v3))
 ((aZ (decide ((Int.toNat v3)≤v0.length))
 ((Option.bind (cD N N ((v0.take (Int.toNat v3)),((v0.take (Int.toNat v3)).length:Int),(0:Int),x4.1,x4.2)) fun AQ=>
 (match AQ with
 |.inl a13=>(bif (decide (a13≥(0:Int)))
 then some (Sum.inl false)
 else pM N k (v0,v1,v2,(aH (v3+(1:Int)))))
 |.inr WG=>pM N k (v0,v1,v2,(aH (v3+(1:Int)))))))))))))
 else some (Sum.inr ()))
theorem mV (N:Nat):∀ k,pM N k=OL N k
 |0=>rfl
 |k+1=>funext fun⟨v0,v1,v2,v3⟩=>by rw[pM,mV N k,lH N N];kernel_rfl
def E2 (N:Nat):aA:=(E1 N).aj N 0 3 AE AF
theorem AM (N:Nat):aC aP (E2 N):=(gI N).aj N 0 3 AE AF
end f139
open f139 in
def Me (N:Nat):List (Field)→Option (Bool)
 |p0=>(Option.bind (pM N N (p0,p0,(p0.length:Int),(0:Int))) fun qG=>
 (match qG with
 |.inl a16=>some a16
 |.inr yH=>some true))
theorem SF (N:Nat):Me N=bC (f139.E2 N) ak 139 f139.args f139.ta f139.res f139.tr 0:=funext fun p0=>by rw[Me,f139.mV N N];kernel_rfl
def c139 (N:Nat):Sym.Callee:=⟨f139.args,f139.ta,f139.res,f139.tr,0,Me N⟩
theorem abC (N:Nat):bt aP 139 (c139 N):=(bF (f139.AM N) ak 139 f139.args f139.ta f139.res f139.tr 0).plain (SF N)
namespace f127
def args:List dJ:=[]
def ta:List Ty:=[]
def res:List (Bool×List cG):=[(true,[.int .i64,.int .i64,.bool,.bool])]
def tr:List Ty:=[(.int .i64),(.int .i64),.bool,.bool]
def E0 (N:Nat):aA:=aA.base aP aX aY aO cq bT
theorem cC (N:Nat):aC aP (E0 N):=aQ aP aX aY aO cq bT
end f127
open f127 in
def uW (N:Nat):Unit→Option ((Int)×(Int)×(Bool)×Bool)
 |()=>some ((0:Int),(15:Int),false,true)
theorem SG (N:Nat):uW N=bC (f127.E0 N) ak 127 f127.args f127.ta f127.res f127.tr 0:=funext fun ()=>by rw[uW];kernel_rfl
def c127 (N:Nat):Sym.Callee:=⟨f127.args,f127.ta,f127.res,f127.tr,0,uW N⟩
theorem abD (N:Nat):bt aP 127 (c127 N):=(bF (f127.cC N) ak 127 f127.args f127.ta f127.res f127.tr 0).plain (SG N)
namespace f128
def args:List dJ:=[]
def ta:List Ty:=[]
def res:List (Bool×List cG):=[(true,[.int .i64,.int .i64,.bool,.bool])]
def tr:List Ty:=[(.int .i64),(.int .i64),.bool,.bool]
def E0 (N:Nat):aA:=aA.base aP aX aY aO cq bT
theorem cC (N:Nat):aC aP (E0 N):=aQ aP aX aY aO cq bT
end f128
open f128 in
def OU (N:Nat):Unit→Option ((Int)×(Int)×(Bool)×Bool)
 |()=>some ((-9223372036854775808:Int),(9223372036854775807:Int),false,false)
theorem SH (N:Nat):OU N=bC (f128.E0 N) ak 128 f128.args f128.ta f128.res f128.tr 0:=funext fun ()=>by rw[OU];kernel_rfl
def abE (N:Nat):Sym.Callee:=⟨f128.args,f128.ta,f128.res,f128.tr,0,OU N⟩
theorem abF (N:Nat):bt aP 128 (abE N):=(bF (f128.cC N) ak 128 f128.args f128.ta f128.res f128.tr 0).plain (SH N)
namespace f129
def args:List dJ:=[.c (.int .i64)]
def ta:List Ty:=[(.int .i64)]
def res:List (Bool×List cG):=[(true,[.int .i64,.int .i64,.bool,.bool])]
def tr:List Ty:=[(.int .i64),(.int .i64),.bool,.bool]
def E0 (N:Nat):aA:=aA.base aP aX aY aO cq bT
theorem cC (N:Nat):aC aP (E0 N):=aQ aP aX aY aO cq bT
end f129
open f129 in
def yb (N:Nat):Int→Option ((Int)×(Int)×(Bool)×Bool)
 |p0=>some ((0:Int),(aH (p0-(1:Int))),false,false)
theorem SI (N:Nat):yb N=bC (f129.E0 N) ak 129 f129.args f129.ta f129.res f129.tr 0:=funext fun p0=>by rw[yb];kernel_rfl
def abG (N:Nat):Sym.Callee:=⟨f129.args,f129.ta,f129.res,f129.tr,0,yb N⟩
theorem abH (N:Nat):bt aP 129 (abG N):=(bF (f129.cC N) ak 129 f129.args f129.ta f129.res f129.tr 0).plain (SI N)
namespace f130
def args:List dJ:=[]
def ta:List Ty:=[]
def res:List (Bool×List cG):=[(true,[.int .i64,.int .i64,.bool,.bool])]
def tr:List Ty:=[(.int .i64),(.int .i64),.bool,.bool]
def E0 (N:Nat):aA:=aA.base aP aX aY aO cq bT
theorem cC (N:Nat):aC aP (E0 N):=aQ aP aX aY aO cq bT
end f130
open f130 in
def pO (N:Nat):Unit→Option ((Int)×(Int)×(Bool)×Bool)
 |()=>some ((0:Int),(15:Int),true,false)
theorem SJ (N:Nat):pO N=bC (f130.E0 N) ak 130 f130.args f130.ta f130.res f130.tr 0:=funext fun ()=>by rw[pO];kernel_rfl
def c130 (N:Nat):Sym.Callee:=⟨f130.args,f130.ta,f130.res,f130.tr,0,pO N⟩
theorem abI (N:Nat):bt aP 130 (c130 N):=(bF (f130.cC N) ak 130 f130.args f130.ta f130.res f130.tr 0).plain (SJ N)
namespace f97
def aO:Nat→Nat→Option (Nat×Ty):=fun c i=>match c,i with
 |0,24=>some (7,.bool)
 |0,34=>some (16,.bool)
 |0,48=>some (19,.bool)
 |0,46=>some (19,.bool)
 |0,44=>some (19,.bool)
 |0,42=>some (19,.bool)
 |0,40=>some (19,.bool)
 |0,38=>some (19,.bool)
 |0,60=>some (27,.bool)
 |0,58=>some (27,.bool)
 |0,56=>some (27,.bool)
 |0,54=>some (27,.bool)
 |0,52=>some (27,.bool)
 |0,78=>some (46,.bool)
 |0,76=>some (46,.bool)
 |0,84=>some (52,.bool)
 |_,_=>none
def bT:Nat→Nat→Option Ty:=fun c d=>match c,d with
 |0,62=>some sZ
 |0,67=>some sZ
 |0,72=>some sZ
 |0,76=>some sZ
 |0,91=>some sZ
 |0,97=>some sZ
 |0,103=>some sZ
 |0,108=>some sZ
 |0,112=>some sZ
 |0,117=>some sZ
 |0,121=>some sZ
 |0,126=>some sZ
 |0,132=>some sZ
 |0,137=>some sZ
 |0,141=>some sZ
 |_,_=>none
def args:List dJ:=[.c (.int .u8)]
def ta:List Ty:=[(.int .u8)]
def res:List (Bool×List cG):=[(true,[.int .i64,.int .i64,.bool,.bool,.int .i64,.int .i64,.bool,.bool,.int .i64,.int .i64,.bool,.bool]),(false,[.int .i64])]
def tr:List Ty:=[(.int .i64),(.int .i64),.bool,.bool,(.int .i64),(.int .i64),.bool,.bool,(.int .i64),(.int .i64),.bool,.bool,(.int .i64)]
def E0 (N:Nat):aA:=((((aA.base aP aX aY aO cq bT).aa 127 (c127 N)).aa 128 (abE N)).aa 129 (abG N)).aa 130 (c130 N)
theorem cC (N:Nat):aC aP (E0 N):=((((aQ aP aX aY aO cq bT).aa (abD N)).aa (abF N)).aa (abH N)).aa (abI N)
end f97
open f97 in
def QJ (N:Nat):Int→Option ((Int)×(Int)×(Bool)×(Bool)×(Int)×(Int)×(Bool)×(Bool)×(Int)×(Int)×(Bool)×(Bool)×Int)
 |p0=>(Option.bind ((bif (p0==(30:Int))
 then some true
 else some (p0==(31:Int)))) fun b0=>
 (bif b0
 then some ((0:Int),(0:Int),false,false,(0:Int),(0:Int),false,false,(0:Int),(0:Int),false,false,(0:Int))
 else (bif (p0==(1:Int))
 then (Option.bind (uW N ()) fun y1=>
 (Option.bind (OU N ()) fun y2=>
 some (y1.1,y1.2.1,y1.2.2.1,y1.2.2.2,y2.1,y2.2.1,y2.2.2.1,y2.2.2.2,(0:Int),(0:Int),false,false,(2:Int))))
 else (bif (p0==(2:Int))
 then (Option.bind (uW N ()) fun y3=>
 (Option.bind (yb N (32:Int)) fun y4=>
 some (y3.1,y3.2.1,y3.2.2.1,y3.2.2.2,y4.1,y4.2.1,y4.2.2.1,y4.2.2.2,(0:Int),(0:Int),false,false,(2:Int))))
 else (bif (p0==(3:Int))
 then (Option.bind (uW N ()) fun y5=>
 (Option.bind (yb N (2:Int)) fun y6=>
 some (y5.1,y5.2.1,y5.2.2.1,y5.2.2.2,y6.1,y6.2.1,y6.2.2.1,y6.2.2.2,(0:Int),(0:Int),false,false,(2:Int))))
 else (Option.bind ((bif (p0==(4:Int))
 then some true
 else some (p0==(15:Int)))) fun b7=>
 (bif b7
 then (Option.bind (uW N ()) fun y8=>
 some (y8.1,y8.2.1,y8.2.2.1,y8.2.2.2,(0:Int),(0:Int),false,false,(0:Int),(0:Int),false,false,(1:Int)))
 else (Option.bind ((bif (p0==(6:Int))
 then some true
 else (Option.bind ((bif (p0==(7:Int))
 then some true
 else (Option.bind ((bif (p0==(8:Int))
 then some true
 else (Option.bind ((bif (p0==(9:Int))
 then some true
 else (Option.bind ((bif (p0==(10:Int))
 then some true
 else (Option.bind ((bif (p0==(11:Int))
 then some true
 else some (p0==(19:Int)))) fun b9=>
 some b9))) fun HC=>
 some HC))) fun WJ=>
 some WJ))) fun QI=>
 some QI))) fun GI=>
 some GI))) fun WG=>
 (bif WG
 then (Option.bind (pO N ()) fun qG=>
 (Option.bind (uW N ()) fun ld=>
 (Option.bind (pO N ()) fun yF=>
 (bif qG.2.2.1
 then some (ld.1,ld.2.1,ld.2.2.1,ld.2.2.2,yF.1,yF.2.1,yF.2.2.1,yF.2.2.2,qG.1,qG.2.1,qG.2.2.1,qG.2.2.2,(3:Int))
 else some (ld.1,ld.2.1,ld.2.2.1,ld.2.2.2,yF.1,yF.2.1,yF.2.2.1,yF.2.2.2,qG.1,qG.2.1,qG.2.2.1,qG.2.2.2,(2:Int))))))
 else (Option.bind ((bif (p0==(5:Int))
 then some true
 else (Option.bind ((bif (p0==(12:Int))
 then some true
 else (Option.bind ((bif (p0==(16:Int))
 then some true
 else (Option.bind ((bif (p0==(18:Int))
 then some true
 else (Option.bind ((bif (p0==(21:Int))
 then some true
 else some (p0==(33:Int)))) fun CQ=>
 some CQ))) fun b19=>
 some b19))) fun OV=>
 some OV))) fun b21=>
 some b21))) fun Kx=>
 (bif Kx
 then (Option.bind (uW N ()) fun vR=>
 (Option.bind (pO N ()) fun Bt=>
 some (vR.1,vR.2.1,vR.2.2.1,vR.2.2.2,Bt.1,Bt.2.1,Bt.2.2.1,Bt.2.2.2,(0:Int),(0:Int),false,false,(2:Int))))
 else (bif (p0==(13:Int))
 then (Option.bind (uW N ()) fun xZ=>
 (Option.bind (pO N ()) fun Mf=>
 (Option.bind (yb N (8:Int)) fun HD=>
 some (xZ.1,xZ.2.1,xZ.2.2.1,xZ.2.2.2,Mf.1,Mf.2.1,Mf.2.2.1,Mf.2.2.2,HD.1,HD.2.1,HD.2.2.1,HD.2.2.2,(3:Int)))))
 else (bif (p0==(14:Int))
 then (Option.bind (pO N ()) fun OW=>
 (Option.bind (yb N (8:Int)) fun vS=>
 (Option.bind (pO N ()) fun Uw=>
 some (OW.1,OW.2.1,OW.2.2.1,OW.2.2.2,vS.1,vS.2.1,vS.2.2.1,vS.2.2.2,Uw.1,Uw.2.1,Uw.2.2.1,Uw.2.2.2,(3:Int)))))
 else (bif (p0==(20:Int))
 then (Option.bind (pO N ()) fun pN=>
 (Option.bind (pO N ()) fun SK=>
 (Option.bind (pO N ()) fun Ut=>
 some (pN.1,pN.2.1,pN.2.2.1,pN.2.2.2,SK.1,SK.2.1,SK.2.2.1,SK.2.2.2,Ut.1,Ut.2.1,Ut.2.2.1,Ut.2.2.2,(3:Int)))))
 else (bif (p0==(17:Int))
 then (Option.bind (pO N ()) fun IX=>
 (Option.bind (pO N ()) fun SN=>
 some (IX.1,IX.2.1,IX.2.2.1,IX.2.2.2,SN.1,SN.2.1,SN.2.2.1,SN.2.2.2,(0:Int),(0:Int),false,false,(2:Int))))
 else (bif (p0==(22:Int))
 then (Option.bind (yb N (200:Int)) fun OX=>
 some (OX.1,OX.2.1,OX.2.2.1,OX.2.2.2,(0:Int),(0:Int),false,false,(0:Int),(0:Int),false,false,(1:Int)))
 else (bif (p0==(23:Int))
 then (Option.bind (pO N ()) fun GJ=>
 (Option.bind (yb N (200:Int)) fun Ky=>
 some (GJ.1,GJ.2.1,GJ.2.2.1,GJ.2.2.2,Ky.1,Ky.2.1,Ky.2.2.1,Ky.2.2.2,(0:Int),(0:Int),false,false,(2:Int))))
 else (Option.bind ((bif (p0==(24:Int))
 then some true
 else (Option.bind ((bif (p0==(28:Int))
 then some true
 else some (p0==(32:Int)))) fun b39=>
 some b39))) fun b40=>
 (bif b40
 then (Option.bind (pO N ()) fun WK=>
 some (WK.1,WK.2.1,WK.2.2.1,WK.2.2.2,(0:Int),(0:Int),false,false,(0:Int),(0:Int),false,false,(1:Int)))
 else (bif (p0==(25:Int))
 then (Option.bind (uW N ()) fun y42=>
 (Option.bind (yb N (32:Int)) fun Y4=>
 some ((-1:Int),y42.2.1,y42.2.2.1,y42.2.2.2,Y4.1,Y4.2.1,Y4.2.2.1,Y4.2.2.2,(0:Int),(0:Int),false,false,(2:Int))))
 else (Option.bind ((bif (p0==(26:Int))
 then some true
 else some (p0==(27:Int)))) fun b44=>
 (bif b44
 then (Option.bind (yb N (32:Int)) fun OY=>
 some (OY.1,OY.2.1,OY.2.2.1,OY.2.2.2,(0:Int),(0:Int),false,false,(0:Int),(0:Int),false,false,(1:Int)))
 else (bif (p0==(29:Int))
 then (Option.bind (uW N ()) fun QK=>
 (Option.bind (uW N ()) fun WL=>
 some (QK.1,QK.2.1,QK.2.2.1,QK.2.2.2,WL.1,WL.2.1,WL.2.2.1,WL.2.2.2,(0:Int),(0:Int),false,false,(2:Int))))
 else (bif (p0==(34:Int))
 then (Option.bind (pO N ()) fun y48=>
 some ((-1:Int),y48.2.1,y48.2.2.1,y48.2.2.2,(0:Int),(0:Int),false,false,(0:Int),(0:Int),false,false,(1:Int)))
 else some ((0:Int),(0:Int),false,false,(0:Int),(0:Int),false,false,(0:Int),(0:Int),false,false,(-1:Int))))))))))))))))))))))))))
theorem WM (N:Nat):QJ N=bC (f97.E0 N) ak 97 f97.args f97.ta f97.res f97.tr 0:=funext fun p0=>by rw[QJ];kernel_rfl
def c97 (N:Nat):Sym.Callee:=⟨f97.args,f97.ta,f97.res,f97.tr,0,QJ N⟩
theorem WN (N:Nat):bt aP 97 (c97 N):=(bF (f97.cC N) ak 97 f97.args f97.ta f97.res f97.tr 0).plain (WM N)
namespace f98
def args:List dJ:=[.agg [.int .u8,.int .i64,.int .i64,.int .i64]]
def ta:List Ty:=[(.int .u8),(.int .i64),(.int .i64),(.int .i64)]
def res:List (Bool×List cG):=[(true,[.int .i64,.int .i64,.int .i64])]
def tr:List Ty:=[(.int .i64),(.int .i64),(.int .i64)]
def E0 (N:Nat):aA:=aA.base aP aX aY aO cq bT
theorem cC (N:Nat):aC aP (E0 N):=aQ aP aX aY aO cq bT
end f98
open f98 in
def SO (N:Nat):(Int)×(Int)×(Int)×Int→Option ((Int)×(Int)×Int)
 |(p0,p1,p2,p3)=>some (p1,p2,p3)
theorem WO (N:Nat):SO N=bC (f98.E0 N) ak 98 f98.args f98.ta f98.res f98.tr 0:=funext fun⟨p0,p1,p2,p3⟩=>by rw[SO];kernel_rfl
def c98 (N:Nat):Sym.Callee:=⟨f98.args,f98.ta,f98.res,f98.tr,0,SO N⟩
theorem WQ (N:Nat):bt aP 98 (c98 N):=(bF (f98.cC N) ak 98 f98.args f98.ta f98.res f98.tr 0).plain (WO N)
namespace f96
def aO:Nat→Nat→Option (Nat×Ty):=fun c i=>match c,i with
 |0,12=>some (34,.bool)
 |0,100012=>some (34,.bool)
 |_,_=>none
def cq:Nat→Nat→Bool:=fun c i=>match c,i with
 |0,7=>true
 |0,100007=>true
 |_,_=>false
def args:List dJ:=[.agg [.int .u8,.int .i64,.int .i64,.int .i64]]
def ta:List Ty:=[(.int .u8),(.int .i64),(.int .i64),(.int .i64)]
def res:List (Bool×List cG):=[(false,[.int .i64])]
def tr:List Ty:=[(.int .i64)]
def E0 (N:Nat):aA:=((aA.base aP aX aY aO cq bT).aa 97 (c97 N)).aa 98 (c98 N)
theorem cC (N:Nat):aC aP (E0 N):=((aQ aP aX aY aO cq bT).aa (WN N)).aa (WQ N)
end f96
open f96 in
def SP (N:Nat):(Int)×(Int)×(Int)×Int→Option (Int)
 |(p0,p1,p2,p3)=>(Option.bind (QJ N p0) fun y0=>
 (bif (decide (y0.2.2.2.2.2.2.2.2.2.2.2.2<(0:Int)))
 then some (8:Int)
 else (Option.bind (SO N (p0,p1,p2,p3)) fun y1=>
 (Option.bind ((bif (decide (y1.1<y0.1))
 then some true
 else some (decide (y1.1>y0.2.1)))) fun b2=>
 (bif b2
 then some (8:Int)
 else (Option.bind ((bif (decide (y1.2.1<y0.2.2.2.2.1))
 then some true
 else some (decide (y1.2.1>y0.2.2.2.2.2.1)))) fun b3=>
 (bif b3
 then some (8:Int)
 else (Option.bind ((bif (decide (y1.2.2<y0.2.2.2.2.2.2.2.2.1))
 then some true
 else some (decide (y1.2.2>y0.2.2.2.2.2.2.2.2.2.1)))) fun b4=>
 (bif b4
 then some (8:Int)
 else some (0:Int))))))))))
theorem WR (N:Nat):SP N=bC (f96.E0 N) ak 96 f96.args f96.ta f96.res f96.tr 0:=funext fun⟨p0,p1,p2,p3⟩=>by rw[SP];kernel_rfl
def c96 (N:Nat):Sym.Callee:=⟨f96.args,f96.ta,f96.res,f96.tr,0,SP N⟩
theorem SQ (N:Nat):bt aP 96 (c96 N):=(bF (f96.cC N) ak 96 f96.args f96.ta f96.res f96.tr 0).plain (WR N)
namespace f99
def aO:Nat→Nat→Option (Nat×Ty):=fun c i=>match c,i with
 |0,1=>some (8,.bool)
 |_,_=>none
def args:List dJ:=[.c (.int .i64)]
def ta:List Ty:=[(.int .i64)]
def res:List (Bool×List cG):=[(false,[.int .i64])]
def tr:List Ty:=[(.int .i64)]
def E0 (N:Nat):aA:=aA.base aP aX aY aO cq bT
theorem cC (N:Nat):aC aP (E0 N):=aQ aP aX aY aO cq bT
end f99
open f99 in
def WS (N:Nat):Int→Option (Int)
 |p0=>(Option.bind ((bif (decide (p0<(1:Int)))
 then some true
 else some (decide (p0>(200:Int))))) fun b0=>
 (bif b0
 then some (2:Int)
 else some (0:Int)))
theorem WT (N:Nat):WS N=bC (f99.E0 N) ak 99 f99.args f99.ta f99.res f99.tr 0:=funext fun p0=>by rw[WS];kernel_rfl
def c99 (N:Nat):Sym.Callee:=⟨f99.args,f99.ta,f99.res,f99.tr,0,WS N⟩
theorem abN (N:Nat):bt aP 99 (c99 N):=(bF (f99.cC N) ak 99 f99.args f99.ta f99.res f99.tr 0).plain (WT N)
namespace f150
def aO:Nat→Nat→Option (Nat×Ty):=fun c i=>match c,i with
 |0,1=>some (28,.bool)
 |_,_=>none
def args:List dJ:=[.c (.sl aD .aJ),.c (.int .i64)]
def ta:List Ty:=[(.sl aD),(.int .i64)]
def res:List (Bool×List cG):=[(false,[.bool])]
def tr:List Ty:=[.bool]
def E0 (N:Nat):aA:=aA.base aP aX aY aO cq bT
theorem cC (N:Nat):aC aP (E0 N):=aQ aP aX aY aO cq bT
def mw:cw:=⟨[(5,.c (.ptr 0 5 0 0 0)),(33,.c (.sl aD .aJ)),(34,.c (.int .i64)),(35,.c (.int .i64))],[],[(0,5,.box 0 [.int .i64,.int .u64])],1,[],1,[(.sl aD),(.int .i64),(.int .i64),(.int .i64),(.int .u64)]⟩
def mz:ck:=[(.ret,⟨[(4,.c (.bool))],[],[],1,[],0,[.bool]⟩),(.exit 0,⟨[],[],[],1,[],0,[]⟩)]
def AG (N:Nat) (k:Nat) (x:(List (bD))×(Int)×(Int)×(Int)×Int):Option ((Bool)⊕(Unit)):=bJ (aL (E0 N) ak 0 7 (bz t150 7) mw mz) k x
def fA (N:Nat):Nat→(List (bD))×(Int)×(Int)×(Int)×Int→Option ((Bool)⊕(Unit))
 |0,_=>none
 |k+1,(v4,v5,v6,v7,v8)=>(bif (decide (v6<v5))
 then (Option.bind (idx v4 v6) fun x9=>
 (bif (decide (x9.1≤v7))
 then some (Sum.inl false)
 else (bif (x9.1==x9.1&&(x9.2==v8&&true))
 then some (Sum.inl false)
 else fA N k (v4,v5,(aH (v6+(1:Int))),x9.1,x9.2))))
 else some (Sum.inr ()))
theorem fB (N:Nat):∀ k,fA N k=AG N k
 |0=>rfl
 |k+1=>funext fun⟨v4,v5,v6,v7,v8⟩=>by rw[fA,fB N k];kernel_rfl
def E1 (N:Nat):aA:=(E0 N).aj N 0 7 mw mz
theorem gI (N:Nat):aC aP (E1 N):=(cC N).aj N 0 7 mw mz
end f150
open f150 in
def Mg (N:Nat):(List (bD))×Int→Option (Bool)
 |(p0,p1)=>(Option.bind ((bif ((p0.length:Int)==(0:Int))
 then some true
 else (Option.bind (idx p0 (0:Int)) fun x0=>
 (bif (x0.1 != (0:Int))
 then some true
 else (Option.bind (idx p0 (aH ((p0.length:Int)-(1:Int)))) fun x1=>
 some (decide (x1.1≥p1))))))) fun b2=>
 (bif b2
 then some false
 else (Option.bind (idx p0 (0:Int)) fun x3=>
 (aZ (decide (1≤p0.length))
 ((Option.bind (fA N N ((p0.drop 1),((p0.drop 1).length:Int),(0:Int),x3.1,x3.2)) fun Mh=>
 (match Mh with
 |.inl a11=>some a11
 |.inr QI=>some true)))))))
theorem SS (N:Nat):Mg N=bC (f150.E1 N) ak 150 f150.args f150.ta f150.res f150.tr 0:=funext fun⟨p0,p1⟩=>by rw[Mg,f150.fB N N];kernel_rfl
def abO (N:Nat):Sym.Callee:=⟨f150.args,f150.ta,f150.res,f150.tr,0,Mg N⟩
theorem abP (N:Nat):bt aP 150 (abO N):=(bF (f150.gI N) ak 150 f150.args f150.ta f150.res f150.tr 0).plain (SS N)
namespace f140
def args:List dJ:=[.c (.sl aD .aJ),.c (.int .i64)]
def ta:List Ty:=[(.sl aD),(.int .i64)]
def res:List (Bool×List cG):=[(false,[.int .i64])]
def tr:List Ty:=[(.int .i64)]
def E0 (N:Nat):aA:=((aA.base aP aX aY aO cq bT).aa 99 (c99 N)).aa 150 (abO N)
theorem cC (N:Nat):aC aP (E0 N):=((aQ aP aX aY aO cq bT).aa (abN N)).aa (abP N)
end f140
open f140 in
def GK (N:Nat):(List (bD))×Int→Option (Int)
 |(p0,p1)=>(Option.bind (WS N p1) fun y0=>
 (bif (y0 != (0:Int))
 then some y0
 else (Option.bind (Mg N (p0,p1)) fun y1=>
 (bif (!y1)
 then some (8:Int)
 else some (0:Int)))))
theorem SU (N:Nat):GK N=bC (f140.E0 N) ak 140 f140.args f140.ta f140.res f140.tr 0:=funext fun⟨p0,p1⟩=>by rw[GK];kernel_rfl
def WU (N:Nat):Sym.Callee:=⟨f140.args,f140.ta,f140.res,f140.tr,0,GK N⟩
theorem Ux (N:Nat):bt aP 140 (WU N):=(bF (f140.cC N) ak 140 f140.args f140.ta f140.res f140.tr 0).plain (SU N)
namespace f114
def aO:Nat→Nat→Option (Nat×Ty):=fun c i=>match c,i with
 |0,1=>some (49,.bool)
 |0,11=>some (66,.bool)
 |0,26=>some (4,.bool)
 |_,_=>none
def args:List dJ:=[.c (.sl ai .aJ),.agg [.str,.int .i64,.int .i64,.sl av .aJ,.sl ah .aJ,.sl aD .aJ,.sl aD .aJ]]
def ta:List Ty:=[(.sl ai),.str,(.int .i64),(.int .i64),(.sl av),(.sl ah),(.sl aD),(.sl aD)]
def res:List (Bool×List cG):=[(false,[.bool])]
def tr:List Ty:=[.bool]
def E0 (N:Nat):aA:=((((aA.base aP aX aY aO cq bT).aa 138 (c138 N)).aa 139 (c139 N)).aa 96 (c96 N)).aa 140 (WU N)
theorem cC (N:Nat):aC aP (E0 N):=((((aQ aP aX aY aO cq bT).aa (ON N)).aa (abC N)).aa (SQ N)).aa (Ux N)
def fG:cw:=⟨[(0,.c (.sl ai .aJ)),(3,.c (.ptr 0 3 0 0 0)),(51,.c (.sl av .aJ)),(52,.c (.int .i64)),(53,.c (.int .i64))],[],[(0,3,.box 0 [.str,.int .i64,.int .i64,.sl av .aJ,.sl ah .aJ,.sl aD .aJ,.sl aD .aJ])],1,[],1,[(.sl ai),(.sl av),(.int .i64),(.int .i64),.str,(.int .i64),(.int .i64),(.sl av),(.sl ah),(.sl aD),(.sl aD)]⟩
def fH:ck:=[(.ret,⟨[(4,.c (.bool))],[],[],1,[],0,[.bool]⟩),(.exit 0,⟨[(3,.c (.ptr 0 3 0 0 0))],[],[(0,3,.box 0 [.str,.int .i64,.int .i64,.sl av .aJ,.sl ah .aJ,.sl aD .aJ,.sl aD .aJ])],1,[],1,[.str,(.int .i64),(.int .i64),(.sl av),(.sl ah),(.sl aD),(.sl aD)]⟩)]
def nh (N:Nat) (k:Nat) (x:(List (aq))×(List (Field))×(Int)×(Int)×(List UInt8)×(Int)×(Int)×(List (Field))×(List (Instr))×(List (bD))×List (bD)):Option ((Bool)⊕((List UInt8)×(Int)×(Int)×(List (Field))×(List (Instr))×(List (bD))×List (bD))):=bJ (aL (E0 N) ak 0 6 (bz t114 6) fG fH) k x
def cc (N:Nat):Nat→(List (aq))×(List (Field))×(Int)×(Int)×(List UInt8)×(Int)×(Int)×(List (Field))×(List (Instr))×(List (bD))×List (bD)→Option ((Bool)⊕((List UInt8)×(Int)×(Int)×(List (Field))×(List (Instr))×(List (bD))×List (bD)))
 |0,_=>none
 |k+1,(v3,v4,v5,v6,v7,v8,v9,v10,v11,v12,mJ)=>(bif (decide (v6<v5))
 then (Option.bind (idx v4 v6) fun Y5=>
 (Option.bind ((bif (decide (Y5.2<(0:Int)))
 then some true
 else some (decide (Y5.2≥(v3.length:Int))))) fun Sr=>
 (bif Sr
 then some (Sum.inl false)
 else cc N k (v3,v4,v5,(aH (v6+(1:Int))),v7,v8,v9,v10,v11,v12,mJ))))
 else some (Sum.inr (v7,v8,v9,v10,v11,v12,mJ)))
theorem ct (N:Nat):∀ k,cc N k=nh N k
 |0=>rfl
 |k+1=>funext fun⟨v3,v4,v5,v6,v7,v8,v9,v10,v11,v12,mJ⟩=>by rw[cc,ct N k];kernel_rfl
def E1 (N:Nat):aA:=(E0 N).aj N 0 6 fG fH
theorem gI (N:Nat):aC aP (E1 N):=(cC N).aj N 0 6 fG fH
def AO:cw:=⟨[(3,.c (.ptr 0 3 0 0 0)),(69,.c (.sl ah .aJ)),(70,.c (.int .i64)),(71,.c (.int .i64))],[],[(0,3,.box 0 [.str,.int .i64,.int .i64,.sl av .aJ,.sl ah .aJ,.sl aD .aJ,.sl aD .aJ])],1,[],1,[(.sl ah),(.int .i64),(.int .i64),.str,(.int .i64),(.int .i64),(.sl av),(.sl ah),(.sl aD),(.sl aD)]⟩
def AP:ck:=[(.ret,⟨[(4,.c (.bool))],[],[],1,[],0,[.bool]⟩),(.exit 2,⟨[(3,.c (.ptr 0 3 0 0 0))],[],[(0,3,.box 0 [.str,.int .i64,.int .i64,.sl av .aJ,.sl ah .aJ,.sl aD .aJ,.sl aD .aJ])],1,[],1,[.str,(.int .i64),(.int .i64),(.sl av),(.sl ah),(.sl aD),(.sl aD)]⟩)]
def OS (N:Nat) (k:Nat) (x:(List (Instr))×(Int)×(Int)×(List UInt8)×(Int)×(Int)×(List (Field))×(List (Instr))×(List (bD))×List (bD)):Option ((Bool)⊕((List UInt8)×(Int)×(Int)×(List (Field))×(List (Instr))×(List (bD))×List (bD))):=bJ (aL (E1 N) ak 0 17 (bz t114 17) AO AP) k x
def lG (N:Nat):Nat→(List (Instr))×(Int)×(Int)×(List UInt8)×(Int)×(Int)×(List (Field))×(List (Instr))×(List (bD))×List (bD)→Option ((Bool)⊕((List UInt8)×(Int)×(Int)×(List (Field))×(List (Instr))×(List (bD))×List (bD)))
 |0,_=>none
 |k+1,(yG,v20,v21,v22,ya,v24,s4,Ee,HB,v28)=>(bif (decide (v21<v20))
 then (Option.bind (idx yG v21) fun WE=>
 (Option.bind (SP N (WE.1,WE.2.1,WE.2.2.1,WE.2.2.2)) fun Uw=>
 (bif (Uw != (0:Int))
 then some (Sum.inl false)
 else lG N k (yG,v20,(aH (v21+(1:Int))),v22,ya,v24,s4,Ee,HB,v28))))
 else some (Sum.inr (v22,ya,v24,s4,Ee,HB,v28)))
theorem qF (N:Nat):∀ k,lG N k=OS N k
 |0=>rfl
 |k+1=>funext fun⟨yG,v20,v21,v22,ya,v24,s4,Ee,HB,v28⟩=>by rw[lG,qF N k];kernel_rfl
def E2 (N:Nat):aA:=(E1 N).aj N 0 17 AO AP
theorem AM (N:Nat):aC aP (E2 N):=(gI N).aj N 0 17 AO AP
end f114
open f114 in
def Mi (N:Nat):(List (aq))×(List UInt8)×(Int)×(Int)×(List (Field))×(List (Instr))×(List (bD))×List (bD)→Option (Bool)
 |(p0,p1,p2,p3,p4,p5,p6,p7)=>(Option.bind ((Option.bind (GF N p1) fun y0=>
 (bif (!y0)
 then some true
 else (bif (decide ((p4.length:Int)>(16:Int)))
 then some true
 else (Option.bind (Me N p4) fun y1=>
 (bif (!y1)
 then some true
 else (bif (decide (p2<(0:Int)))
 then some true
 else (bif (decide (p2>(p4.length:Int)))
 then some true
 else (bif (decide (p3<(-1:Int)))
 then some true
 else some (decide (p3≥(p0.length:Int)))))))))))) fun b2=>
 (bif b2
 then some false
 else (Option.bind (cc N N (p0,p4,(p4.length:Int),(0:Int),p1,p2,p3,p4,p5,p6,p7)) fun ld=>
 (match ld with
 |.inl a17=>some a17
 |.inr CQ=>(Option.bind (lG N N (CQ.2.2.2.2.1,(CQ.2.2.2.2.1.length:Int),(0:Int),CQ.1,CQ.2.1,CQ.2.2.1,CQ.2.2.2.1,CQ.2.2.2.2.1,CQ.2.2.2.2.2.1,CQ.2.2.2.2.2.2)) fun pN=>
 (match pN with
 |.inl a32=>some a32
 |.inr Y6=>(Option.bind ((Option.bind (GK N (Y6.2.2.2.2.2.1,(Y6.2.2.2.2.1.length:Int))) fun IX=>
 (bif (IX==(0:Int))
 then (Option.bind (GK N (Y6.2.2.2.2.2.2,(Y6.2.2.2.2.1.length:Int))) fun SN=>
 some (SN==(0:Int)))
 else some false))) fun b36=>
 some b36)))))))
theorem SV (N:Nat):Mi N=bC (f114.E2 N) ak 114 f114.args f114.ta f114.res f114.tr 0:=funext fun⟨p0,p1,p2,p3,p4,p5,p6,p7⟩=>by rw[Mi,f114.ct N N,f114.qF N N];kernel_rfl
def abQ (N:Nat):Sym.Callee:=⟨f114.args,f114.ta,f114.res,f114.tr,0,Mi N⟩
theorem abR (N:Nat):bt aP 114 (abQ N):=(bF (f114.AM N) ak 114 f114.args f114.ta f114.res f114.tr 0).plain (SV N)
namespace f70
def aO:Nat→Nat→Option (Nat×Ty):=fun c i=>match c,i with
 |0,1=>some (33,.bool)
 |_,_=>none
def args:List dJ:=[.agg [.sl ai .aJ,.sl .str .aJ,.sl aG .aJ]]
def ta:List Ty:=[(.sl ai),(.sl .str),(.sl aG)]
def res:List (Bool×List cG):=[(false,[.bool])]
def tr:List Ty:=[.bool]
def E0 (N:Nat):aA:=(((aA.base aP aX aY aO cq bT).aa 112 (WH N)).aa 113 (WI N)).aa 114 (abQ N)
theorem cC (N:Nat):aC aP (E0 N):=(((aQ aP aX aY aO cq bT).aa (Uu N)).aa (Uv N)).aa (abR N)
def fG:cw:=⟨[(1,.c (.ptr 0 1 0 0 0)),(36,.c (.int .i64)),(37,.c (.int .i64))],[],[(0,1,.box 0 [.sl ai .aJ,.sl .str .aJ,.sl aG .aJ])],1,[],1,[(.int .i64),(.int .i64),(.sl ai),(.sl .str),(.sl aG)]⟩
def fH:ck:=[(.ret,⟨[(2,.c (.bool))],[],[],1,[],0,[.bool]⟩),(.exit 0,⟨[(1,.c (.ptr 0 1 0 0 0))],[],[(0,1,.box 0 [.sl ai .aJ,.sl .str .aJ,.sl aG .aJ])],1,[],1,[(.sl ai),(.sl .str),(.sl aG)]⟩)]
def nh (N:Nat) (k:Nat) (x:(Int)×(Int)×(List (aq))×(List (List UInt8))×List (Func)):Option ((Bool)⊕((List (aq))×(List (List UInt8))×List (Func))):=bJ (aL (E0 N) ak 0 6 (bz t70 6) fG fH) k x
def cc (N:Nat):Nat→(Int)×(Int)×(List (aq))×(List (List UInt8))×List (Func)→Option ((Bool)⊕((List (aq))×(List (List UInt8))×List (Func)))
 |0,_=>none
 |k+1,(v2,v3,v4,v5,v6)=>(bif (decide (v3<v2))
 then (Option.bind (I0 N (v4,v3)) fun y7=>
 (bif (y7.2.2 != (0:Int))
 then some (Sum.inl false)
 else cc N k (v2,(aH (v3+(1:Int))),v4,v5,v6)))
 else some (Sum.inr (v4,v5,v6)))
theorem ct (N:Nat):∀ k,cc N k=nh N k
 |0=>rfl
 |k+1=>funext fun⟨v2,v3,v4,v5,v6⟩=>by rw[cc,ct N k];kernel_rfl
def E1 (N:Nat):aA:=(E0 N).aj N 0 6 fG fH
theorem gI (N:Nat):aC aP (E1 N):=(cC N).aj N 0 6 fG fH
def OZ:cw:=⟨[(1,.c (.ptr 0 1 0 0 0)),(52,.c (.sl .str .aJ)),(53,.c (.int .i64)),(54,.c (.int .i64))],[],[(0,1,.box 0 [.sl ai .aJ,.sl .str .aJ,.sl aG .aJ])],1,[],1,[(.sl .str),(.int .i64),(.int .i64),(.sl ai),(.sl .str),(.sl aG)]⟩
def O0:ck:=[(.ret,⟨[(2,.c (.bool))],[],[],1,[],0,[.bool]⟩),(.exit 2,⟨[(1,.c (.ptr 0 1 0 0 0))],[],[(0,1,.box 0 [.sl ai .aJ,.sl .str .aJ,.sl aG .aJ])],1,[],1,[(.sl ai),(.sl .str),(.sl aG)]⟩)]
def abS (N:Nat) (k:Nat) (x:(List (List UInt8))×(Int)×(Int)×(List (aq))×(List (List UInt8))×List (Func)):Option ((Bool)⊕((List (aq))×(List (List UInt8))×List (Func))):=bJ (aL (E1 N) ak 0 18 (bz t70 18) OZ O0) k x
def AR (N:Nat):Nat→(List (List UInt8))×(Int)×(Int)×(List (aq))×(List (List UInt8))×List (Func)→Option ((Bool)⊕((List (aq))×(List (List UInt8))×List (Func)))
 |0,_=>none
 |k+1,(v11,v12,mJ,lU,rZ,r6)=>(bif (decide (mJ<v12))
 then (Option.bind (idx v11 mJ) fun Y7=>
 (bif (decide ((Y7.length:Int)>(64:Int)))
 then some (Sum.inl false)
 else AR N k (v11,v12,(aH (mJ+(1:Int))),lU,rZ,r6)))
 else some (Sum.inr (lU,rZ,r6)))
theorem GL (N:Nat):∀ k,AR N k=abS N k
 |0=>rfl
 |k+1=>funext fun⟨v11,v12,mJ,lU,rZ,r6⟩=>by rw[AR,GL N k];kernel_rfl
def E2 (N:Nat):aA:=(E1 N).aj N 0 18 OZ O0
theorem AM (N:Nat):aC aP (E2 N):=(gI N).aj N 0 18 OZ O0
def AH:cw:=⟨[(1,.c (.ptr 0 1 0 0 0)),(9,.c (.mp 0 62 1)),(64,.c (.sl aG .aJ)),(65,.c (.int .i64)),(66,.c (.int .i64))],[],[(0,1,.box 0 [.sl ai .aJ,.sl .str .aJ,.sl aG .aJ]),(0,62,.set 1)],1,[],2,[(.sl aG),(.int .i64),(.int .i64),(.sl ai),(.sl .str),(.sl aG),(.sl .str)]⟩
def AI:ck:=[(.ret,⟨[(2,.c (.bool))],[],[],1,[],0,[.bool]⟩),(.exit 4,⟨[],[],[],1,[],0,[]⟩)]
def OQ (N:Nat) (k:Nat) (x:(List (Func))×(Int)×(Int)×(List (aq))×(List (List UInt8))×(List (Func))×List (List UInt8)):Option ((Bool)⊕(Unit)):=bJ (aL (E2 N) ak 0 30 (bz t70 30) AH AI) k x
def lF (N:Nat):Nat→(List (Func))×(Int)×(Int)×(List (aq))×(List (List UInt8))×(List (Func))×List (List UInt8)→Option ((Bool)⊕(Unit))
 |0,_=>none
 |k+1,(v21,v22,ya,v24,s4,Ee,HB)=>(bif (decide (ya<v22))
 then (Option.bind (idx v21 ya) fun O1=>
 (bif (hasB HB O1.1)
 then some (Sum.inl false)
 else (Option.bind (Mi N (v24,O1.1,O1.2.1,O1.2.2.1,O1.2.2.2.1,O1.2.2.2.2.1,O1.2.2.2.2.2.1,O1.2.2.2.2.2.2)) fun vS=>
 (bif (!vS)
 then some (Sum.inl false)
 else lF N k (v21,v22,(aH (ya+(1:Int))),v24,s4,Ee,(pQ HB O1.1))))))
 else some (Sum.inr ()))
theorem qD (N:Nat):∀ k,lF N k=OQ N k
 |0=>rfl
 |k+1=>funext fun⟨v21,v22,ya,v24,s4,Ee,HB⟩=>by rw[lF,qD N k];kernel_rfl
def E3 (N:Nat):aA:=(E2 N).aj N 0 30 AH AI
theorem IW (N:Nat):aC aP (E3 N):=(AM N).aj N 0 30 AH AI
end f70
open f70 in
def WV (N:Nat):(List (aq))×(List (List UInt8))×List (Func)→Option (Bool)
 |(p0,p1,p2)=>(Option.bind ((Option.bind (IY N p0) fun y0=>
 (bif (y0 != (0:Int))
 then some true
 else (bif (decide ((p1.length:Int)>(32:Int)))
 then some true
 else (bif ((p2.length:Int)==(0:Int))
 then some true
 else some (decide ((p2.length:Int)>(32:Int)))))))) fun b1=>
 (bif b1
 then some false
 else (Option.bind (cc N N ((p0.length:Int),(0:Int),p0,p1,p2)) fun y8=>
 (match y8 with
 |.inl a9=>some a9
 |.inr HC=>(Option.bind (AR N N (HC.2.1,(HC.2.1.length:Int),(0:Int),HC.1,HC.2.1,HC.2.2)) fun GM=>
 (match GM with
 |.inl a19=>some a19
 |.inr OV=>(Option.bind (lF N N (OV.2.2,(OV.2.2.length:Int),(0:Int),OV.1,OV.2.1,OV.2.2,([]:List (List UInt8)))) fun Uw=>
 (match Uw with
 |.inl a31=>some a31
 |.inr b32=>some true))))))))
theorem WW (N:Nat):WV N=bC (f70.E3 N) ak 70 f70.args f70.ta f70.res f70.tr 0:=funext fun⟨p0,p1,p2⟩=>by rw[WV,f70.ct N N,f70.GL N N,f70.qD N N];kernel_rfl
def c70 (N:Nat):Sym.Callee:=⟨f70.args,f70.ta,f70.res,f70.tr,0,WV N⟩
theorem ae4 (N:Nat):bt aP 70 (c70 N):=(bF (f70.IW N) ak 70 f70.args f70.ta f70.res f70.tr 0).plain (WW N)
namespace f116
def cq:Nat→Nat→Bool:=fun c i=>match c,i with
 |0,4=>true
 |_,_=>false
def bT:Nat→Nat→Option Ty:=fun c d=>match c,d with
 |0,2=>some (.int .u8)
 |1014000,5=>some (.int .u8)
 |1018000,5=>some (.int .u8)
 |_,_=>none
def args:List dJ:=[.c (.int .u64)]
def ta:List Ty:=[(.int .u64)]
def res:List (Bool×List cG):=[(false,[.sl (.int .u8) .d])]
def tr:List Ty:=[(.sl (.int .u8))]
def E0 (N:Nat):aA:=aA.base aP aX aY aO cq bT
theorem cC (N:Nat):aC aP (E0 N):=aQ aP aX aY aO cq bT
def vT:cw:=⟨[(0,.c (.int .u64)),(3,.c (.ptr 0 3 0 0 0)),(4,.fV 141 [.ptr 0 3 0 0 0])],[],[(0,3,.box 0 [.ref 0 1141006 1 (.int .u8)]),(0,1141006,.row 1 (.int .u8))],1,[],2,[(.int .u64),(.sl (.int .u8))]⟩
def vU:ck:=[(.exit 0,⟨[(0,.c (.int .u64)),(3,.c (.ptr 0 3 0 0 0)),(4,.fV 141 [.ptr 0 3 0 0 0])],[],[(0,3,.box 0 [.ref 0 1141006 1 (.int .u8)]),(0,1141006,.row 1 (.int .u8))],1,[],2,[(.int .u64),(.sl (.int .u8))]⟩)]
def Mj (N:Nat) (k:Nat) (x:(Int)×List (Int)):Option (((Int)×List (Int))):=bJ (aL (E0 N) ak 0 100004 (bz t116 4) vT vU) k x
def kz (N:Nat):Nat→(Int)×List (Int)→Option (((Int)×List (Int)))
 |0,_=>none
 |k+1,(v0,v1)=>(bif (decide (v0≥(128:Int)))
 then (aZ (room (v1.length+1) 1)
 (kz N k ((Int.fdiv v0 128),(v1++[(Gz .u8 (YZ v0) (128:Int))]))))
 else some (v0,v1))
theorem uX (N:Nat):∀ k,kz N k=Mj N k
 |0=>rfl
 |k+1=>funext fun⟨v0,v1⟩=>by rw[kz,uX N k];kernel_rfl
def E1 (N:Nat):aA:=(E0 N).aj N 0 100004 vT vU
theorem gI (N:Nat):aC aP (E1 N):=(cC N).aj N 0 100004 vT vU
end f116
open f116 in
def fU (N:Nat):Int→Option (List (Int))
 |p0=>(bif (decide (p0≥(128:Int)))
 then (aZ (room 1 1)
 ((Option.bind (kz N N ((Int.fdiv p0 128),[(Gz .u8 (YZ p0) (128:Int))])) fun y2=>
 (aZ (room (y2.2.length+1) 1)
 (some (y2.2++[(YZ y2.1)]))))))
 else (aZ (room 1 1)
 (some [(YZ p0)])))
theorem SW (N:Nat):fU N=bC (f116.E1 N) ak 116 f116.args f116.ta f116.res f116.tr 1:=funext fun p0=>by rw[fU,f116.uX N N];kernel_rfl
def c116 (N:Nat):Sym.Callee:=⟨f116.args,f116.ta,f116.res,f116.tr,1,fU N⟩
theorem Kz (N:Nat):bt aP 116 (c116 N):=(bF (f116.gI N) ak 116 f116.args f116.ta f116.res f116.tr 1).plain (SW N)
namespace f117
def args:List dJ:=[.c (.int .i64)]
def ta:List Ty:=[(.int .i64)]
def res:List (Bool×List cG):=[(false,[.sl (.int .u8) .d])]
def tr:List Ty:=[(.sl (.int .u8))]
def E0 (N:Nat):aA:=(aA.base aP aX aY aO cq bT).aa 116 (c116 N)
theorem cC (N:Nat):aC aP (E0 N):=(aQ aP aX aY aO cq bT).aa (Kz N)
end f117
open f117 in
def nY (N:Nat):Int→Option (List (Int))
 |p0=>(Option.bind (fU N (Sf .u64 (dn ((dn p0)*2)) (dn (Int.fdiv p0 9223372036854775808)))) fun y0=>
 some y0)
theorem SX (N:Nat):nY N=bC (f117.E0 N) ak 117 f117.args f117.ta f117.res f117.tr 0:=funext fun p0=>by rw[nY];kernel_rfl
def c117 (N:Nat):Sym.Callee:=⟨f117.args,f117.ta,f117.res,f117.tr,0,nY N⟩
theorem Uy (N:Nat):bt aP 117 (c117 N):=(bF (f117.cC N) ak 117 f117.args f117.ta f117.res f117.tr 0).plain (SX N)
namespace f118
def aO:Nat→Nat→Option (Nat×Ty):=fun c i=>match c,i with
 |0,100017=>some (39,.bool)
 |0,17=>some (39,.bool)
 |_,_=>none
def cq:Nat→Nat→Bool:=fun c i=>match c,i with
 |0,9=>true
 |0,100009=>true
 |_,_=>false
def bT:Nat→Nat→Option Ty:=fun c d=>match c,d with
 |0,23=>some (.int .u8)
 |_,_=>none
def args:List dJ:=[.agg [.int .u8,.int .i64,.int .i64,.int .i64]]
def ta:List Ty:=[(.int .u8),(.int .i64),(.int .i64),(.int .i64)]
def res:List (Bool×List cG):=[(false,[.sl (.int .u8) .d]),(false,[.int .i64])]
def tr:List Ty:=[(.sl (.int .u8)),(.int .i64)]
def E0 (N:Nat):aA:=(((((aA.base aP aX aY aO cq bT).aa 96 (c96 N)).aa 97 (c97 N)).aa 98 (c98 N)).aa 117 (c117 N)).aa 116 (c116 N)
theorem cC (N:Nat):aC aP (E0 N):=(((((aQ aP aX aY aO cq bT).aa (SQ N)).aa (WN N)).aa (WQ N)).aa (Uy N)).aa (Kz N)
end f118
open f118 in
def Mk (N:Nat):(Int)×(Int)×(Int)×Int→Option ((List (Int))×Int)
 |(p0,p1,p2,p3)=>(Option.bind (SP N (p0,p1,p2,p3)) fun y0=>
 (bif (y0 != (0:Int))
 then some ([],y0)
 else (Option.bind (QJ N p0) fun y1=>
 (Option.bind (SO N (p0,p1,p2,p3)) fun y2=>
 (bif (decide ((0:Int)≥y1.2.2.2.2.2.2.2.2.2.2.2.2))
 then (bif (decide ((1:Int)≥y1.2.2.2.2.2.2.2.2.2.2.2.2))
 then (bif (decide ((2:Int)≥y1.2.2.2.2.2.2.2.2.2.2.2.2))
 then some ([p0],(0:Int))
 else (bif (decide (y1.2.2.2.2.2.2.2.2.1<(0:Int)))
 then (Option.bind (nY N y2.2.2) fun y4=>
 (aZ (room (1+y4.length) 1)
 (some (([p0]++y4),(0:Int)))))
 else (Option.bind (fU N (dn y2.2.2)) fun y5=>
 (aZ (room (1+y5.length) 1)
 (some (([p0]++y5),(0:Int)))))))
 else (bif (decide (y1.2.2.2.2.1<(0:Int)))
 then (Option.bind (nY N y2.2.1) fun y7=>
 (aZ (room (1+y7.length) 1)
 ((bif (decide ((2:Int)≥y1.2.2.2.2.2.2.2.2.2.2.2.2))
 then some (([p0]++y7),(0:Int))
 else (bif (decide (y1.2.2.2.2.2.2.2.2.1<(0:Int)))
 then (Option.bind (nY N y2.2.2) fun y9=>
 (aZ (room (([p0]++y7).length+y9.length) 1)
 (some ((([p0]++y7)++y9),(0:Int)))))
 else (Option.bind (fU N (dn y2.2.2)) fun Mh=>
 (aZ (room (([p0]++y7).length+Mh.length) 1)
 (some ((([p0]++y7)++Mh),(0:Int))))))))))
 else (Option.bind (fU N (dn y2.2.1)) fun yE=>
 (aZ (room (1+yE.length) 1)
 ((bif (decide ((2:Int)≥y1.2.2.2.2.2.2.2.2.2.2.2.2))
 then some (([p0]++yE),(0:Int))
 else (bif (decide (y1.2.2.2.2.2.2.2.2.1<(0:Int)))
 then (Option.bind (nY N y2.2.2) fun GH=>
 (aZ (room (([p0]++yE).length+GH.length) 1)
 (some ((([p0]++yE)++GH),(0:Int)))))
 else (Option.bind (fU N (dn y2.2.2)) fun tA=>
 (aZ (room (([p0]++yE).length+tA.length) 1)
 (some ((([p0]++yE)++tA),(0:Int))))))))))))
 else (bif (decide (y1.1<(0:Int)))
 then (Option.bind (nY N y2.1) fun ld=>
 (aZ (room (1+ld.length) 1)
 ((bif (decide ((1:Int)≥y1.2.2.2.2.2.2.2.2.2.2.2.2))
 then (bif (decide ((2:Int)≥y1.2.2.2.2.2.2.2.2.2.2.2.2))
 then some (([p0]++ld),(0:Int))
 else (bif (decide (y1.2.2.2.2.2.2.2.2.1<(0:Int)))
 then (Option.bind (nY N y2.2.2) fun GM=>
 (aZ (room (([p0]++ld).length+GM.length) 1)
 (some ((([p0]++ld)++GM),(0:Int)))))
 else (Option.bind (fU N (dn y2.2.2)) fun xG=>
 (aZ (room (([p0]++ld).length+xG.length) 1)
 (some ((([p0]++ld)++xG),(0:Int)))))))
 else (bif (decide (y1.2.2.2.2.1<(0:Int)))
 then (Option.bind (nY N y2.2.1) fun EC=>
 (aZ (room (([p0]++ld).length+EC.length) 1)
 ((bif (decide ((2:Int)≥y1.2.2.2.2.2.2.2.2.2.2.2.2))
 then some ((([p0]++ld)++EC),(0:Int))
 else (bif (decide (y1.2.2.2.2.2.2.2.2.1<(0:Int)))
 then (Option.bind (nY N y2.2.2) fun vR=>
 (aZ (room ((([p0]++ld)++EC).length+vR.length) 1)
 (some (((([p0]++ld)++EC)++vR),(0:Int)))))
 else (Option.bind (fU N (dn y2.2.2)) fun Bt=>
 (aZ (room ((([p0]++ld)++EC).length+Bt.length) 1)
 (some (((([p0]++ld)++EC)++Bt),(0:Int))))))))))
 else (Option.bind (fU N (dn y2.2.1)) fun xZ=>
 (aZ (room (([p0]++ld).length+xZ.length) 1)
 ((bif (decide ((2:Int)≥y1.2.2.2.2.2.2.2.2.2.2.2.2))
 then some ((([p0]++ld)++xZ),(0:Int))
 else (bif (decide (y1.2.2.2.2.2.2.2.2.1<(0:Int)))
 then (Option.bind (nY N y2.2.2) fun HD=>
 (aZ (room ((([p0]++ld)++xZ).length+HD.length) 1)
 (some (((([p0]++ld)++xZ)++HD),(0:Int)))))
 else (Option.bind (fU N (dn y2.2.2)) fun OW=>
 (aZ (room ((([p0]++ld)++xZ).length+OW.length) 1)
 (some (((([p0]++ld)++xZ)++OW),(0:Int)))))))))))))))
 else (Option.bind (fU N (dn y2.1)) fun vS=>
 (aZ (room (1+vS.length) 1)
 ((bif (decide ((1:Int)≥y1.2.2.2.2.2.2.2.2.2.2.2.2))
 then (bif (decide ((2:Int)≥y1.2.2.2.2.2.2.2.2.2.2.2.2))
 then some (([p0]++vS),(0:Int))
 else (bif (decide (y1.2.2.2.2.2.2.2.2.1<(0:Int)))
 then (Option.bind (nY N y2.2.2) fun pN=>
 (aZ (room (([p0]++vS).length+pN.length) 1)
 (some ((([p0]++vS)++pN),(0:Int)))))
 else (Option.bind (fU N (dn y2.2.2)) fun SK=>
 (aZ (room (([p0]++vS).length+SK.length) 1)
 (some ((([p0]++vS)++SK),(0:Int)))))))
 else (bif (decide (y1.2.2.2.2.1<(0:Int)))
 then (Option.bind (nY N y2.2.1) fun IX=>
 (aZ (room (([p0]++vS).length+IX.length) 1)
 ((bif (decide ((2:Int)≥y1.2.2.2.2.2.2.2.2.2.2.2.2))
 then some ((([p0]++vS)++IX),(0:Int))
 else (bif (decide (y1.2.2.2.2.2.2.2.2.1<(0:Int)))
 then (Option.bind (nY N y2.2.2) fun OX=>
 (aZ (room ((([p0]++vS)++IX).length+OX.length) 1)
 (some (((([p0]++vS)++IX)++OX),(0:Int)))))
 else (Option.bind (fU N (dn y2.2.2)) fun GJ=>
 (aZ (room ((([p0]++vS)++IX).length+GJ.length) 1)
 (some (((([p0]++vS)++IX)++GJ),(0:Int))))))))))
 else (Option.bind (fU N (dn y2.2.1)) fun Ky=>
 (aZ (room (([p0]++vS).length+Ky.length) 1)
 ((bif (decide ((2:Int)≥y1.2.2.2.2.2.2.2.2.2.2.2.2))
 then some ((([p0]++vS)++Ky),(0:Int))
 else (bif (decide (y1.2.2.2.2.2.2.2.2.1<(0:Int)))
 then (Option.bind (nY N y2.2.2) fun y40=>
 (aZ (room ((([p0]++vS)++Ky).length+y40.length) 1)
 (some (((([p0]++vS)++Ky)++y40),(0:Int)))))
 else (Option.bind (fU N (dn y2.2.2)) fun WK=>
 (aZ (room ((([p0]++vS)++Ky).length+WK.length) 1)
 (some (((([p0]++vS)++Ky)++WK),(0:Int)))))))))))))))))))))
theorem SY (N:Nat):Mk N=bC (f118.E0 N) ak 118 f118.args f118.ta f118.res f118.tr 0:=funext fun⟨p0,p1,p2,p3⟩=>by rw[Mk];kernel_rfl
def abT (N:Nat):Sym.Callee:=⟨f118.args,f118.ta,f118.res,f118.tr,0,Mk N⟩
theorem abU (N:Nat):bt aP 118 (abT N):=(bF (f118.cC N) ak 118 f118.args f118.ta f118.res f118.tr 0).plain (SY N)
namespace f119
def args:List dJ:=[.c (.sl aD .aJ),.c (.int .i64)]
def ta:List Ty:=[(.sl aD),(.int .i64)]
def res:List (Bool×List cG):=[(false,[.sl (.int .u8) .d]),(false,[.int .i64])]
def tr:List Ty:=[(.sl (.int .u8)),(.int .i64)]
def E0 (N:Nat):aA:=((aA.base aP aX aY aO cq bT).aa 140 (WU N)).aa 116 (c116 N)
theorem cC (N:Nat):aC aP (E0 N):=((aQ aP aX aY aO cq bT).aa (Ux N)).aa (Kz N)
def I1:cw:=⟨[(7,.c (.ref 0 20 0 (.int .u8))),(8,.c (.int .i64)),(21,.c (.sl aD .aJ)),(22,.c (.int .i64)),(23,.c (.int .i64))],[],[(0,20,.row 0 (.int .u8))],1,[],1,[(.int .i64),(.sl aD),(.int .i64),(.int .i64),(.sl (.int .u8))]⟩
def I2:ck:=[(.exit 0,⟨[(7,.c (.ref 0 20 0 (.int .u8)))],[],[(0,20,.row 0 (.int .u8))],1,[],1,[(.sl (.int .u8))]⟩)]
def WX (N:Nat) (k:Nat) (x:(Int)×(List (bD))×(Int)×(Int)×List (Int)):Option ((List (Int))):=bJ (aL (E0 N) ak 0 9 (bz t119 9) I1 I2) k x
def rM (N:Nat):Nat→(Int)×(List (bD))×(Int)×(Int)×List (Int)→Option ((List (Int)))
 |0,_=>none
 |k+1,(v2,v3,v4,v5,v6)=>(bif (decide (v5<v4))
 then (Option.bind (idx v3 v5) fun x7=>
 (Option.bind (fU N (dn (aH (x7.1-v2)))) fun y8=>
 (aZ (room (v6.length+y8.length) 1)
 ((Option.bind (fU N x7.2) fun y9=>
 (aZ (room ((v6++y8).length+y9.length) 1)
 (rM N k (x7.1,v3,v4,(aH (v5+(1:Int))),((v6++y8)++y9)))))))))
 else some v6)
theorem uY (N:Nat):∀ k,rM N k=WX N k
 |0=>rfl
 |k+1=>funext fun⟨v2,v3,v4,v5,v6⟩=>by rw[rM,uY N k];kernel_rfl
def E1 (N:Nat):aA:=(E0 N).aj N 0 9 I1 I2
theorem gI (N:Nat):aC aP (E1 N):=(cC N).aj N 0 9 I1 I2
end f119
open f119 in
def Ml (N:Nat):(List (bD))×Int→Option ((List (Int))×Int)
 |(p0,p1)=>(Option.bind (GK N (p0,p1)) fun y0=>
 (bif (y0 != (0:Int))
 then some ([],y0)
 else (Option.bind (fU N (dn (p0.length:Int))) fun y1=>
 (Option.bind (rM N N ((0:Int),p0,(p0.length:Int),(0:Int),y1)) fun Mh=>
 some (Mh,(0:Int))))))
theorem SZ (N:Nat):Ml N=bC (f119.E1 N) ak 119 f119.args f119.ta f119.res f119.tr 0:=funext fun⟨p0,p1⟩=>by rw[Ml,f119.uY N N];kernel_rfl
def c119 (N:Nat):Sym.Callee:=⟨f119.args,f119.ta,f119.res,f119.tr,0,Ml N⟩
theorem abV (N:Nat):bt aP 119 (c119 N):=(bF (f119.gI N) ak 119 f119.args f119.ta f119.res f119.tr 0).plain (SZ N)
namespace f49
def aO:Nat→Nat→Option (Nat×Ty):=fun c i=>match c,i with
 |1015000,12=>some (29,.bool)
 |_,_=>none
def bT:Nat→Nat→Option Ty:=fun c d=>match c,d with
 |1015000,23=>some (.int .u8)
 |1042000,70=>some (.sl aD)
 |_,_=>none
def args:List dJ:=[.agg [.sl ai .aJ,.sl .str .aJ,.sl aG .aJ]]
def ta:List Ty:=[(.sl ai),(.sl .str),(.sl aG)]
def res:List (Bool×List cG):=[(false,[.sl (.int .u8) .d]),(false,[.int .i64])]
def tr:List Ty:=[(.sl (.int .u8)),(.int .i64)]
def E0 (N:Nat):aA:=(((((aA.base aP aX aY aO cq bT).aa 70 (c70 N)).aa 116 (c116 N)).aa 117 (c117 N)).aa 118 (abT N)).aa 119 (c119 N)
theorem cC (N:Nat):aC aP (E0 N):=(((((aQ aP aX aY aO cq bT).aa (ae4 N)).aa (Kz N)).aa (Uy N)).aa (abU N)).aa (abV N)
def kA:cw:=⟨[(0,.c (.ptr 0 4 0 0 0)),(10,.c (.sl av .d)),(11,.c (.int .i64)),(12,.c (.int .i64))],[[(0,.c (.ptr 0 4 0 0 0))],[(1,.c (.ptr 0 1 1 0 0)),(4,.c (.ptr 0 4 0 0 0))]],[(0,4,.box 0 [.sl (.int .u8) (.app 2)]),(0,1,.box 1 [.sl ai .aJ,.sl .str .aJ,.sl aG .aJ])],3,[2],3,[(.sl av),(.int .i64),(.int .i64),(.sl (.int .u8)),(.sl ai),(.sl .str),(.sl aG)]⟩
def kB:ck:=[(.exit 0,⟨[],[[(0,.c (.ptr 0 4 0 0 0))],[(1,.c (.ptr 0 1 1 0 0)),(4,.c (.ptr 0 4 0 0 0))]],[(0,4,.box 0 [.sl (.int .u8) (.app 2)]),(0,1,.box 1 [.sl ai .aJ,.sl .str .aJ,.sl aG .aJ])],3,[2],3,[(.sl (.int .u8)),(.sl ai),(.sl .str),(.sl aG)]⟩)]
def vV (N:Nat) (k:Nat) (x:(List (Field))×(Int)×(Int)×(List (Int))×(List (aq))×(List (List UInt8))×List (Func)):Option (((List (Int))×(List (aq))×(List (List UInt8))×List (Func))):=bJ (aL (E0 N) ak 1015001051000 3 (bz t115 3) kA kB) k x
def de (N:Nat):Nat→(List (Field))×(Int)×(Int)×(List (Int))×(List (aq))×(List (List UInt8))×List (Func)→Option (((List (Int))×(List (aq))×(List (List UInt8))×List (Func)))
 |0,_=>none
 |k+1,(rZ,r6,r7,vP,yG,v20,v21)=>(bif (decide (r7<r6))
 then (Option.bind (idx rZ r7) fun I3=>
 (Option.bind (fU N (dn (I3.1.length:Int))) fun vR=>
 (aZ (room (vP.length+vR.length) 1)
 ((aZ (room ((vP++vR).length+(cu I3.1).length) 1)
 ((Option.bind (fU N (dn I3.2)) fun Bt=>
 (aZ (room (((vP++vR)++(cu I3.1)).length+Bt.length) 1)
 (de N k (rZ,r6,(aH (r7+(1:Int))),(((vP++vR)++(cu I3.1))++Bt),yG,v20,v21))))))))))
 else some (vP,yG,v20,v21))
theorem lI (N:Nat):∀ k,de N k=vV N k
 |0=>rfl
 |k+1=>funext fun⟨rZ,r6,r7,vP,yG,v20,v21⟩=>by rw[de,lI N k];kernel_rfl
def E1 (N:Nat):aA:=(E0 N).aj N 1015001051000 3 kA kB
theorem gI (N:Nat):aC aP (E1 N):=(cC N).aj N 1015001051000 3 kA kB
def s5:cw:=⟨[(0,.c (.ptr 0 4 0 0 0)),(10,.c (.sl ai .aJ)),(11,.c (.int .i64)),(12,.c (.int .i64))],[[(1,.c (.ptr 0 1 1 0 0)),(4,.c (.ptr 0 4 0 0 0))]],[(0,4,.box 0 [.sl (.int .u8) (.app 2)]),(0,1,.box 1 [.sl ai .aJ,.sl .str .aJ,.sl aG .aJ])],2,[2],3,[(.sl ai),(.int .i64),(.int .i64),(.sl (.int .u8)),(.sl ai),(.sl .str),(.sl aG)]⟩
def s6:ck:=[(.exit 0,⟨[],[[(1,.c (.ptr 0 1 0 0 0)),(4,.c (.ptr 0 4 1 0 0))]],[(0,1,.box 0 [.sl ai .aJ,.sl .str .aJ,.sl aG .aJ]),(0,4,.box 1 [.sl (.int .u8) (.app 2)])],2,[2],3,[(.sl ai),(.sl .str),(.sl aG),(.sl (.int .u8))]⟩)]
def I4 (N:Nat) (k:Nat) (x:(List (aq))×(Int)×(Int)×(List (Int))×(List (aq))×(List (List UInt8))×List (Func)):Option (((List (aq))×(List (List UInt8))×(List (Func))×List (Int))):=bJ (aL (E1 N) ak 1015000 3 (bz t71 3) s5 s6) k x
def eT (N:Nat):Nat→(List (aq))×(Int)×(Int)×(List (Int))×(List (aq))×(List (List UInt8))×List (Func)→Option (((List (aq))×(List (List UInt8))×(List (Func))×List (Int)))
 |0,_=>none
 |k+1,(v2,v3,v4,v5,v6,v7,v8)=>(bif (decide (v4<v3))
 then (Option.bind (idx v2 v4) fun x9=>
 (aZ (room (v5.length+1) 1)
 ((Option.bind ((bif (x9.1==(4:Int))
 then some true
 else some (x9.1==(7:Int)))) fun HC=>
 (bif HC
 then (Option.bind (fU N (dn x9.2.1)) fun yE=>
 (aZ (room ((v5++[x9.1]).length+yE.length) 1)
 (eT N k (v2,v3,(aH (v4+(1:Int))),((v5++[x9.1])++yE),v6,v7,v8))))
 else (bif (x9.1==(6:Int))
 then (Option.bind (fU N (dn x9.2.1)) fun AQ=>
 (aZ (room ((v5++[x9.1]).length+AQ.length) 1)
 ((Option.bind (fU N (dn x9.2.2.1)) fun GH=>
 (aZ (room (((v5++[x9.1])++AQ).length+GH.length) 1)
 (eT N k (v2,v3,(aH (v4+(1:Int))),(((v5++[x9.1])++AQ)++GH),v6,v7,v8)))))))
 else (bif (x9.1==(5:Int))
 then (Option.bind (fU N (dn (x9.2.2.2.length:Int))) fun tA=>
 (aZ (room ((v5++[x9.1]).length+tA.length) 1)
 ((Option.bind (de N N (x9.2.2.2,(x9.2.2.2.length:Int),(0:Int),((v5++[x9.1])++tA),v6,v7,v8)) fun xZ=>
 eT N k (v2,v3,(aH (v4+(1:Int))),xZ.1,xZ.2.1,xZ.2.2.1,xZ.2.2.2)))))
 else eT N k (v2,v3,(aH (v4+(1:Int))),(v5++[x9.1]),v6,v7,v8))))))))
 else some (v6,v7,v8,v5))
theorem r8 (N:Nat):∀ k,eT N k=I4 N k
 |0=>rfl
 |k+1=>funext fun⟨v2,v3,v4,v5,v6,v7,v8⟩=>by rw[eT,r8 N k,lI N N];kernel_rfl
def E2 (N:Nat):aA:=(E1 N).aj N 1015000 3 s5 s6
theorem AM (N:Nat):aC aP (E2 N):=(gI N).aj N 1015000 3 s5 s6
def I1:cw:=⟨[(1,.c (.ptr 0 1 0 0 0)),(4,.c (.ptr 0 4 1 0 0)),(21,.c (.sl .str .aJ)),(22,.c (.int .i64)),(23,.c (.int .i64))],[],[(0,1,.box 0 [.sl ai .aJ,.sl .str .aJ,.sl aG .aJ]),(0,4,.box 1 [.sl (.int .u8) (.app 2)])],1,[2],3,[(.sl .str),(.int .i64),(.int .i64),(.sl ai),(.sl .str),(.sl aG),(.sl (.int .u8))]⟩
def I2:ck:=[(.exit 0,⟨[(1,.c (.ptr 0 1 0 0 0)),(4,.c (.ptr 0 4 1 0 0))],[],[(0,1,.box 0 [.sl ai .aJ,.sl .str .aJ,.sl aG .aJ]),(0,4,.box 1 [.sl (.int .u8) (.app 2)])],1,[2],3,[(.sl ai),(.sl .str),(.sl aG),(.sl (.int .u8))]⟩)]
def WX (N:Nat) (k:Nat) (x:(List (List UInt8))×(Int)×(Int)×(List (aq))×(List (List UInt8))×(List (Func))×List (Int)):Option (((List (aq))×(List (List UInt8))×(List (Func))×List (Int))):=bJ (aL (E2 N) ak 0 9 (bz t49 9) I1 I2) k x
def rM (N:Nat):Nat→(List (List UInt8))×(Int)×(Int)×(List (aq))×(List (List UInt8))×(List (Func))×List (Int)→Option (((List (aq))×(List (List UInt8))×(List (Func))×List (Int)))
 |0,_=>none
 |k+1,(v28,vW,v30,v31,yI,vX,s7)=>(bif (decide (v30<vW))
 then (Option.bind (idx v28 v30) fun x35=>
 (Option.bind (fU N (dn (x35.length:Int))) fun OX=>
 (aZ (room (s7.length+OX.length) 1)
 ((aZ (room ((s7++OX).length+(cu x35).length) 1)
 (rM N k (v28,vW,(aH (v30+(1:Int))),v31,yI,vX,((s7++OX)++(cu x35)))))))))
 else some (v31,yI,vX,s7))
theorem uY (N:Nat):∀ k,rM N k=WX N k
 |0=>rfl
 |k+1=>funext fun⟨v28,vW,v30,v31,yI,vX,s7⟩=>by rw[rM,uY N k];kernel_rfl
def E3 (N:Nat):aA:=(E2 N).aj N 0 9 I1 I2
theorem IW (N:Nat):aC aP (E3 N):=(AM N).aj N 0 9 I1 I2
def kC:cw:=⟨[(0,.c (.ptr 0 4 0 0 0)),(10,.c (.sl av .d)),(11,.c (.int .i64)),(12,.c (.int .i64))],[[(0,.c (.ptr 0 4 0 0 0)),(3,.c (.ptr 1 3 1 0 0))],[(4,.c (.ptr 0 4 0 0 0))]],[(0,4,.box 0 [.sl (.int .u8) (.app 2)]),(1,3,.box 1 [.str,.int .i64,.int .i64,.sl av .d,.sl ah .d,.sl aD .d,.sl aD .d])],3,[2],3,[(.sl av),(.int .i64),(.int .i64),(.sl (.int .u8)),.str,(.int .i64),(.int .i64),(.sl av),(.sl ah),(.sl aD),(.sl aD)]⟩
def kD:ck:=[(.exit 0,⟨[],[[(0,.c (.ptr 0 4 0 0 0)),(3,.c (.ptr 1 3 1 0 0))],[(4,.c (.ptr 0 4 0 0 0))]],[(0,4,.box 0 [.sl (.int .u8) (.app 2)]),(1,3,.box 1 [.str,.int .i64,.int .i64,.sl av .d,.sl ah .d,.sl aD .d,.sl aD .d])],3,[2],3,[(.sl (.int .u8)),.str,(.int .i64),(.int .i64),(.sl av),(.sl ah),(.sl aD),(.sl aD)]⟩)]
def vY (N:Nat) (k:Nat) (x:(List (Field))×(Int)×(Int)×(List (Int))×(List UInt8)×(Int)×(Int)×(List (Field))×(List (Instr))×(List (bD))×List (bD)):Option (((List (Int))×(List UInt8)×(Int)×(Int)×(List (Field))×(List (Instr))×(List (bD))×List (bD))):=bJ (aL (E3 N) ak 1042001035000 3 (bz t115 3) kC kD) k x
def dh (N:Nat):Nat→(List (Field))×(Int)×(Int)×(List (Int))×(List UInt8)×(Int)×(Int)×(List (Field))×(List (Instr))×(List (bD))×List (bD)→Option (((List (Int))×(List UInt8)×(Int)×(Int)×(List (Field))×(List (Instr))×(List (bD))×List (bD)))
 |0,_=>none
 |k+1,(O2,v49,Uz,v51,O3,v53,O4,O5,O6,O7,O8)=>(bif (decide (Uz<v49))
 then (Option.bind (idx O2 Uz) fun x59=>
 (Option.bind (fU N (dn (x59.1.length:Int))) fun WY=>
 (aZ (room (v51.length+WY.length) 1)
 ((aZ (room ((v51++WY).length+(cu x59.1).length) 1)
 ((Option.bind (fU N (dn x59.2)) fun y61=>
 (aZ (room (((v51++WY)++(cu x59.1)).length+y61.length) 1)
 (dh N k (O2,v49,(aH (Uz+(1:Int))),(((v51++WY)++(cu x59.1))++y61),O3,v53,O4,O5,O6,O7,O8))))))))))
 else some (v51,O3,v53,O4,O5,O6,O7,O8))
theorem lJ (N:Nat):∀ k,dh N k=vY N k
 |0=>rfl
 |k+1=>funext fun⟨O2,v49,Uz,v51,O3,v53,O4,O5,O6,O7,O8⟩=>by rw[dh,lJ N k];kernel_rfl
def E4 (N:Nat):aA:=(E3 N).aj N 1042001035000 3 kC kD
theorem ok4 (N:Nat):aC aP (E4 N):=(IW N).aj N 1042001035000 3 kC kD
def s8:cw:=⟨[(0,.c (.ptr 0 4 0 0 0)),(3,.c (.ptr 1 3 1 0 0)),(42,.c (.sl ah .d)),(43,.c (.int .i64)),(44,.c (.int .i64))],[[(4,.c (.ptr 0 4 0 0 0))]],[(0,4,.box 0 [.sl (.int .u8) (.app 2)]),(1,3,.box 1 [.str,.int .i64,.int .i64,.sl av .d,.sl ah .d,.sl aD .d,.sl aD .d])],2,[2],3,[(.sl ah),(.int .i64),(.int .i64),(.sl (.int .u8)),.str,(.int .i64),(.int .i64),(.sl av),(.sl ah),(.sl aD),(.sl aD)]⟩
def s9:ck:=[(.ret,⟨[(4,.c (.int .i64))],[[(4,.c (.ptr 0 4 0 0 0))]],[(0,4,.box 0 [.sl (.int .u8) (.app 1)])],2,[1],2,[(.int .i64),(.sl (.int .u8))]⟩),(.exit 0,⟨[(0,.c (.ptr 0 4 0 0 0)),(3,.c (.ptr 1 3 1 0 0))],[[(4,.c (.ptr 0 4 0 0 0))]],[(0,4,.box 0 [.sl (.int .u8) (.app 2)]),(1,3,.box 1 [.str,.int .i64,.int .i64,.sl av .d,.sl ah .d,.sl aD .d,.sl aD .d])],2,[2],3,[(.sl (.int .u8)),.str,(.int .i64),(.int .i64),(.sl av),(.sl ah),(.sl aD),(.sl aD)]⟩)]
def I5 (N:Nat) (k:Nat) (x:(List (Instr))×(Int)×(Int)×(List (Int))×(List UInt8)×(Int)×(Int)×(List (Field))×(List (Instr))×(List (bD))×List (bD)):Option (((Int)×List (Int))⊕((List (Int))×(List UInt8)×(Int)×(Int)×(List (Field))×(List (Instr))×(List (bD))×List (bD))):=bJ (aL (E4 N) ak 1042000 8 (bz t74 8) s8 s9) k x
def iB (N:Nat):Nat→(List (Instr))×(Int)×(Int)×(List (Int))×(List UInt8)×(Int)×(Int)×(List (Field))×(List (Instr))×(List (bD))×List (bD)→Option (((Int)×List (Int))⊕((List (Int))×(List UInt8)×(Int)×(Int)×(List (Field))×(List (Instr))×(List (bD))×List (bD)))
 |0,_=>none
 |k+1,(S0,S1,v66,v67,v68,v69,v70,v71,v72,v73,v74)=>(bif (decide (v66<S1))
 then (Option.bind (idx S0 v66) fun x75=>
 (Option.bind (Mk N (x75.1,x75.2.1,x75.2.2.1,x75.2.2.2)) fun y76=>
 (bif (y76.2 != (0:Int))
 then some (Sum.inl (y76.2,v67))
 else (aZ (room (v67.length+y76.1.length) 1)
 (iB N k (S0,S1,(aH (v66+(1:Int))),(v67++y76.1),v68,v69,v70,v71,v72,v73,v74))))))
 else some (Sum.inr (v67,v68,v69,v70,v71,v72,v73,v74)))
theorem r9 (N:Nat):∀ k,iB N k=I5 N k
 |0=>rfl
 |k+1=>funext fun⟨S0,S1,v66,v67,v68,v69,v70,v71,v72,v73,v74⟩=>by rw[iB,r9 N k];kernel_rfl
def E5 (N:Nat):aA:=(E4 N).aj N 1042000 8 s8 s9
theorem Y8 (N:Nat):aC aP (E5 N):=(ok4 N).aj N 1042000 8 s8 s9
def qH:cw:=⟨[(0,.c (.ptr 0 4 0 0 0)),(3,.c (.ptr 1 3 1 0 0)),(70,.c (.sl (.sl aD) .full)),(71,.c (.int .i64)),(72,.c (.int .i64))],[[(4,.c (.ptr 0 4 0 0 0))]],[(0,4,.box 0 [.sl (.int .u8) (.app 2)]),(1,3,.box 1 [.str,.int .i64,.int .i64,.sl av .d,.sl ah .d,.sl aD .d,.sl aD .d])],2,[2],3,[(.sl (.sl aD)),(.int .i64),(.int .i64),(.sl (.int .u8)),.str,(.int .i64),(.int .i64),(.sl av),(.sl ah),(.sl aD),(.sl aD)]⟩
def qI:ck:=[(.ret,⟨[(4,.c (.int .i64))],[[(4,.c (.ptr 0 4 0 0 0))]],[(0,4,.box 0 [.sl (.int .u8) (.app 1)])],2,[1],2,[(.int .i64),(.sl (.int .u8))]⟩),(.exit 2,⟨[],[[(4,.c (.ptr 0 4 0 0 0))]],[(0,4,.box 0 [.sl (.int .u8) (.app 1)])],2,[1],2,[(.sl (.int .u8))]⟩)]
def GN (N:Nat) (k:Nat) (x:(List (List (bD)))×(Int)×(Int)×(List (Int))×(List UInt8)×(Int)×(Int)×(List (Field))×(List (Instr))×(List (bD))×List (bD)):Option (((Int)×List (Int))⊕(List (Int))):=bJ (aL (E5 N) ak 1042000 21 (bz t74 21) qH qI) k x
def eG (N:Nat):Nat→(List (List (bD)))×(Int)×(Int)×(List (Int))×(List UInt8)×(Int)×(Int)×(List (Field))×(List (Instr))×(List (bD))×List (bD)→Option (((Int)×List (Int))⊕(List (Int)))
 |0,_=>none
 |k+1,(v80,WZ,UA,S3,Y9,v85,Za,v87,v88,v89,v90)=>(bif (decide (UA<WZ))
 then (Option.bind (idx v80 UA) fun x91=>
 (Option.bind (Ml N (x91,(v88.length:Int))) fun y92=>
 (bif (y92.2 != (0:Int))
 then some (Sum.inl (y92.2,S3))
 else (aZ (room (S3.length+y92.1.length) 1)
 (eG N k (v80,WZ,(aH (UA+(1:Int))),(S3++y92.1),Y9,v85,Za,v87,v88,v89,v90))))))
 else some (Sum.inr S3))
theorem qJ (N:Nat):∀ k,eG N k=GN N k
 |0=>rfl
 |k+1=>funext fun⟨v80,WZ,UA,S3,Y9,v85,Za,v87,v88,v89,v90⟩=>by rw[eG,qJ N k];kernel_rfl
def E6 (N:Nat):aA:=(E5 N).aj N 1042000 21 qH qI
theorem ok6 (N:Nat):aC aP (E6 N):=(Y8 N).aj N 1042000 21 qH qI
def AS:cw:=⟨[(4,.c (.ptr 0 4 0 0 0)),(35,.c (.sl aG .aJ)),(36,.c (.int .i64)),(37,.c (.int .i64))],[],[(0,4,.box 0 [.sl (.int .u8) (.app 1)])],1,[1],2,[(.sl aG),(.int .i64),(.int .i64),(.sl (.int .u8))]⟩
def AT:ck:=[(.ret,⟨[(2,.c (.nil true)),(3,.c (.int .i64))],[],[],1,[],0,[(.int .i64)]⟩),(.exit 2,⟨[(4,.c (.ptr 0 4 0 0 0))],[],[(0,4,.box 0 [.sl (.int .u8) (.app 1)])],1,[1],2,[(.sl (.int .u8))]⟩)]
def O9 (N:Nat) (k:Nat) (x:(List (Func))×(Int)×(Int)×List (Int)):Option ((Int)⊕(List (Int))):=bJ (aL (E6 N) ak 0 19 (bz t49 19) AS AT) k x
def jB (N:Nat):Nat→(List (Func))×(Int)×(Int)×List (Int)→Option ((Int)⊕(List (Int)))
 |0,_=>none
 |k+1,(KA,v40,QL,MX)=>(bif (decide (QL<v40))
 then (Option.bind (idx KA QL) fun Bu=>
 (Option.bind (fU N (dn (Bu.1.length:Int))) fun UB=>
 (aZ (room (MX.length+UB.length) 1)
 ((aZ (room ((MX++UB).length+(cu Bu.1).length) 1)
 ((Option.bind (fU N (dn Bu.2.1)) fun OY=>
 (aZ (room (((MX++UB)++(cu Bu.1)).length+OY.length) 1)
 ((Option.bind (nY N Bu.2.2.1) fun QK=>
 (aZ (room ((((MX++UB)++(cu Bu.1))++OY).length+QK.length) 1)
 ((Option.bind (fU N (dn (Bu.2.2.2.1.length:Int))) fun WL=>
 (aZ (room (((((MX++UB)++(cu Bu.1))++OY)++QK).length+WL.length) 1)
 ((Option.bind (dh N N (Bu.2.2.2.1,(Bu.2.2.2.1.length:Int),(0:Int),(((((MX++UB)++(cu Bu.1))++OY)++QK)++WL),Bu.1,Bu.2.1,Bu.2.2.1,Bu.2.2.2.1,Bu.2.2.2.2.1,Bu.2.2.2.2.2.1,Bu.2.2.2.2.2.2)) fun KB=>
 (Option.bind (fU N (dn (KB.2.2.2.2.2.1.length:Int))) fun y63=>
 (aZ (room (KB.1.length+y63.length) 1)
 ((Option.bind (iB N N (KB.2.2.2.2.2.1,(KB.2.2.2.2.2.1.length:Int),(0:Int),(KB.1++y63),KB.2.1,KB.2.2.1,KB.2.2.2.1,KB.2.2.2.2.1,KB.2.2.2.2.2.1,KB.2.2.2.2.2.2.1,KB.2.2.2.2.2.2.2)) fun y77=>
 (match y77 with
 |.inl a78=>(bif (a78.1 != (0:Int))
 then some (Sum.inl a78.1)
 else jB N k (KA,v40,(aH (QL+(1:Int))),a78.2))
 |.inr QM=>(Option.bind (eG N N ([QM.2.2.2.2.2.2.1,QM.2.2.2.2.2.2.2],(2:Int),(0:Int),QM.1,QM.2.1,QM.2.2.1,QM.2.2.2.1,QM.2.2.2.2.1,QM.2.2.2.2.2.1,QM.2.2.2.2.2.2.1,QM.2.2.2.2.2.2.2)) fun y93=>
 (match y93 with
 |.inl a94=>(bif (a94.1 != (0:Int))
 then some (Sum.inl a94.1)
 else jB N k (KA,v40,(aH (QL+(1:Int))),a94.2))
 |.inr b95=>jB N k (KA,v40,(aH (QL+(1:Int))),b95))))))))))))))))))))))))
 else some (Sum.inr MX))
theorem qK (N:Nat):∀ k,jB N k=O9 N k
 |0=>rfl
 |k+1=>funext fun⟨KA,v40,QL,MX⟩=>by rw[jB,qK N k,lJ N N,r9 N N,qJ N N];kernel_rfl
def E7 (N:Nat):aA:=(E6 N).aj N 0 19 AS AT
theorem W0 (N:Nat):aC aP (E7 N):=(ok6 N).aj N 0 19 AS AT
end f49
open f49 in
def Zb (N:Nat):(List (aq))×(List (List UInt8))×List (Func)→Option ((List (Int))×Int)
 |(p0,p1,p2)=>(Option.bind (WV N (p0,p1,p2)) fun y0=>
 (bif (!y0)
 then some ([],(8:Int))
 else (Option.bind (fU N (dn (p0.length:Int))) fun y1=>
 (aZ (room y1.length 1)
 ((Option.bind (eT N N (p0,(p0.length:Int),(0:Int),y1,p0,p1,p2)) fun Mf=>
 (Option.bind (fU N (dn (Mf.2.1.length:Int))) fun HD=>
 (aZ (room (Mf.2.2.2.length+HD.length) 1)
 ((Option.bind (rM N N (Mf.2.1,(Mf.2.1.length:Int),(0:Int),Mf.1,Mf.2.1,Mf.2.2.1,(Mf.2.2.2++HD))) fun GJ=>
 (Option.bind (fU N (dn (GJ.2.2.1.length:Int))) fun Ky=>
 (aZ (room (GJ.2.2.2.length+Ky.length) 1)
 ((Option.bind (jB N N (GJ.2.2.1,(GJ.2.2.1.length:Int),(0:Int),(GJ.2.2.2++Ky))) fun y96=>
 (match y96 with
 |.inl a97=>some ([],a97)
 |.inr b98=>(bif (decide ((b98.length:Int)>(20000:Int)))
 then some ([],(4:Int))
 else some (b98,(0:Int))))))))))))))))))
theorem W1 (N:Nat):Zb N=bC (f49.E7 N) ak 49 f49.args f49.ta f49.res f49.tr 0:=funext fun⟨p0,p1,p2⟩=>by rw[Zb,f49.r8 N N,f49.uY N N,f49.qK N N];kernel_rfl
def c49 (N:Nat):Sym.Callee:=⟨f49.args,f49.ta,f49.res,f49.tr,0,Zb N⟩
theorem aff (N:Nat):bt aP 49 (c49 N):=(bF (f49.W0 N) ak 49 f49.args f49.ta f49.res f49.tr 0).plain (W1 N)
namespace f34
def args:List dJ:=[.agg [.sl ai .aJ,.sl .str .aJ,.sl aG .aJ]]
def ta:List Ty:=[(.sl ai),(.sl .str),(.sl aG)]
def res:List (Bool×List cG):=[(false,[.int .i64])]
def tr:List Ty:=[(.int .i64)]
def E0 (N:Nat):aA:=(aA.base aP aX aY aO cq bT).aa 49 (c49 N)
theorem cC (N:Nat):aC aP (E0 N):=(aQ aP aX aY aO cq bT).aa (aff N)
end f34
open f34 in
def W2 (N:Nat):(List (aq))×(List (List UInt8))×List (Func)→Option (Int)
 |(p0,p1,p2)=>(Option.bind (Zb N (p0,p1,p2)) fun y0=>
 some y0.2)
theorem W3 (N:Nat):W2 N=bC (f34.E0 N) ak 34 f34.args f34.ta f34.res f34.tr 0:=funext fun⟨p0,p1,p2⟩=>by rw[W2];kernel_rfl
def c34 (N:Nat):Sym.Callee:=⟨f34.args,f34.ta,f34.res,f34.tr,0,W2 N⟩
theorem afg (N:Nat):bt aP 34 (c34 N):=(bF (f34.cC N) ak 34 f34.args f34.ta f34.res f34.tr 0).plain (W3 N)
namespace f35
def aO:Nat→Nat→Option (Nat×Ty):=fun c i=>match c,i with
 |0,1=>some (4,.bool)
 |_,_=>none
def args:List dJ:=[.c (.sl aG .aJ),.c (.int .i64)]
def ta:List Ty:=[(.sl aG),(.int .i64)]
def res:List (Bool×List cG):=[(false,[.bool])]
def tr:List Ty:=[.bool]
def E0 (N:Nat):aA:=aA.base aP aX aY aO cq bT
theorem cC (N:Nat):aC aP (E0 N):=aQ aP aX aY aO cq bT
end f35
open f35 in
def Zc (N:Nat):(List (Func))×Int→Option (Bool)
 |(p0,p1)=>(Option.bind ((bif (decide (p1≥(0:Int)))
 then some (decide (p1<(p0.length:Int)))
 else some false)) fun b0=>
 some b0)
theorem W4 (N:Nat):Zc N=bC (f35.E0 N) ak 35 f35.args f35.ta f35.res f35.tr 0:=funext fun⟨p0,p1⟩=>by rw[Zc];kernel_rfl
def c35 (N:Nat):Sym.Callee:=⟨f35.args,f35.ta,f35.res,f35.tr,0,Zc N⟩
theorem afh (N:Nat):bt aP 35 (c35 N):=(bF (f35.cC N) ak 35 f35.args f35.ta f35.res f35.tr 0).plain (W4 N)
namespace f75
def aO:Nat→Nat→Option (Nat×Ty):=fun c i=>match c,i with
 |0,15=>some (51,.bool)
 |_,_=>none
def args:List dJ:=[.c (.sl ah .aJ)]
def ta:List Ty:=[(.sl ah)]
def res:List (Bool×List cG):=[(false,[.int .i64])]
def tr:List Ty:=[(.int .i64)]
def E0 (N:Nat):aA:=(aA.base aP aX aY aO cq bT).aa 96 (c96 N)
theorem cC (N:Nat):aC aP (E0 N):=(aQ aP aX aY aO cq bT).aa (SQ N)
def mw:cw:=⟨[(3,.c (.int .i64)),(23,.c (.sl ah .aJ)),(24,.c (.int .i64)),(25,.c (.int .i64))],[],[],1,[],0,[(.int .i64),(.sl ah),(.int .i64),(.int .i64)]⟩
def mz:ck:=[(.ret,⟨[(2,.c (.int .i64))],[],[],1,[],0,[(.int .i64)]⟩),(.exit 0,⟨[],[],[],1,[],0,[]⟩)]
def AG (N:Nat) (k:Nat) (x:(Int)×(List (Instr))×(Int)×Int):Option ((Int)⊕(Unit)):=bJ (aL (E0 N) ak 0 7 (bz t75 7) mw mz) k x
def fA (N:Nat):Nat→(Int)×(List (Instr))×(Int)×Int→Option ((Int)⊕(Unit))
 |0,_=>none
 |k+1,(v1,v2,v3,v4)=>(bif (decide (v4<v3))
 then (Option.bind (idx v2 v4) fun x5=>
 (Option.bind (SP N (x5.1,x5.2.1,x5.2.2.1,x5.2.2.2)) fun y6=>
 (bif (y6 != (0:Int))
 then some (Sum.inl (8:Int))
 else (Option.bind ((bif (x5.1==(22:Int))
 then (bif (decide (x5.2.1≥v1))
 then some true
 else (bif (x5.1==(23:Int))
 then some (decide (x5.2.2.1≥v1))
 else some false))
 else (bif (x5.1==(23:Int))
 then some (decide (x5.2.2.1≥v1))
 else some false))) fun b7=>
 (bif b7
 then some (Sum.inl (8:Int))
 else fA N k (v1,v2,v3,(aH (v4+(1:Int)))))))))
 else some (Sum.inr ()))
theorem fB (N:Nat):∀ k,fA N k=AG N k
 |0=>rfl
 |k+1=>funext fun⟨v1,v2,v3,v4⟩=>by rw[fA,fB N k];kernel_rfl
def E1 (N:Nat):aA:=(E0 N).aj N 0 7 mw mz
theorem gI (N:Nat):aC aP (E1 N):=(cC N).aj N 0 7 mw mz
end f75
open f75 in
def UC (N:Nat):List (Instr)→Option (Int)
 |p0=>(bif ((p0.length:Int)==(0:Int))
 then some (8:Int)
 else (bif (decide ((p0.length:Int)>(200:Int)))
 then some (8:Int)
 else (Option.bind (idx p0 (aH ((p0.length:Int)-(1:Int)))) fun x0=>
 (bif (!(x0.1==(34:Int)&&(x0.2.1==(-1:Int)&&(x0.2.2.1==(0:Int)&&(x0.2.2.2==(0:Int)&&true)))))
 then some (8:Int)
 else (Option.bind (fA N N ((p0.length:Int),p0,(p0.length:Int),(0:Int))) fun y8=>
 (match y8 with
 |.inl a9=>some a9
 |.inr HC=>some (0:Int)))))))
theorem W5 (N:Nat):UC N=bC (f75.E1 N) ak 75 f75.args f75.ta f75.res f75.tr 0:=funext fun p0=>by rw[UC,f75.fB N N];kernel_rfl
def c75 (N:Nat):Sym.Callee:=⟨f75.args,f75.ta,f75.res,f75.tr,0,UC N⟩
theorem W6 (N:Nat):bt aP 75 (c75 N):=(bF (f75.gI N) ak 75 f75.args f75.ta f75.res f75.tr 0).plain (W5 N)
namespace f120
def aO:Nat→Nat→Option (Nat×Ty):=fun c i=>match c,i with
 |0,7=>some (13,.bool)
 |0,5=>some (13,.bool)
 |_,_=>none
def bT:Nat→Nat→Option Ty:=fun c d=>match c,d with
 |0,21=>some (.int .i64)
 |0,28=>some (.int .i64)
 |0,35=>some (.int .i64)
 |_,_=>none
def args:List dJ:=[.c (.sl ah .aJ),.c (.int .i64)]
def ta:List Ty:=[(.sl ah),(.int .i64)]
def res:List (Bool×List cG):=[(false,[.sl (.int .i64) .d])]
def tr:List Ty:=[(.sl (.int .i64))]
def E0 (N:Nat):aA:=aA.base aP aX aY aO cq bT
theorem cC (N:Nat):aC aP (E0 N):=aQ aP aX aY aO cq bT
end f120
open f120 in
def GO (N:Nat):(List (Instr))×Int→Option (List (Int))
 |(p0,p1)=>(Option.bind (idx p0 p1) fun x0=>
 (Option.bind ((bif (x0.1==(34:Int))
 then some true
 else (Option.bind ((bif (x0.1==(28:Int))
 then some true
 else some (x0.1==(30:Int)))) fun b1=>
 some b1))) fun b2=>
 (bif b2
 then some []
 else (bif (x0.1==(22:Int))
 then some [x0.2.1]
 else (bif (x0.1==(23:Int))
 then (aZ (decide ([(aH (p1+(1:Int))),x0.2.2.1].length<4611686018427387904))
 ((aZ (decide ((jc [(aH (p1+(1:Int))),x0.2.2.1]).length<4611686018427387904))
 (some (gT (jc [(aH (p1+(1:Int))),x0.2.2.1]))))))
 else some [(aH (p1+(1:Int)))])))))
theorem S4 (N:Nat):GO N=bC (f120.E0 N) ak 120 f120.args f120.ta f120.res f120.tr 0:=funext fun⟨p0,p1⟩=>by rw[GO];kernel_rfl
def S5 (N:Nat):Sym.Callee:=⟨f120.args,f120.ta,f120.res,f120.tr,0,GO N⟩
theorem Pa (N:Nat):bt aP 120 (S5 N):=(bF (f120.cC N) ak 120 f120.args f120.ta f120.res f120.tr 0).plain (S4 N)
namespace f50
def bT:Nat→Nat→Option Ty:=fun c d=>match c,d with
 |0,13=>some .bool
 |1016000,10=>some (.int .i64)
 |1016000,39=>some (.int .i64)
 |_,_=>none
def args:List dJ:=[.c (.sl ah .aJ)]
def ta:List Ty:=[(.sl ah)]
def res:List (Bool×List cG):=[(false,[.sl .bool .d]),(false,[.int .i64])]
def tr:List Ty:=[(.sl .bool),(.int .i64)]
def E0 (N:Nat):aA:=((aA.base aP aX aY aO cq bT).aa 75 (c75 N)).aa 120 (S5 N)
theorem cC (N:Nat):aC aP (E0 N):=((aQ aP aX aY aO cq bT).aa (W6 N)).aa (Pa N)
def qL:cw:=⟨[(0,.c (.sl ah .aJ)),(1,.fV 77 [.ptr 0 5 0 0 0]),(4,.c (.ref 1 10 1 (.int .i64))),(5,.c (.int .i64)),(27,.c (.sl (.int .i64) .d)),(28,.c (.int .i64)),(29,.c (.int .i64))],[[(5,.c (.ptr 0 5 0 0 0))]],[(0,5,.box 0 [.ref 0 13 2 .bool]),(0,13,.row 2 .bool),(1,10,.row 1 (.int .i64))],2,[],3,[(.sl ah),(.int .i64),(.sl (.int .i64)),(.int .i64),(.int .i64),(.sl .bool),(.sl (.int .i64))]⟩
def qM:ck:=[(.exit 2,⟨[(0,.c (.sl ah .aJ)),(1,.fV 77 [.ptr 0 5 0 0 0]),(4,.c (.ref 1 10 1 (.int .i64)))],[[(5,.c (.ptr 0 5 0 0 0))]],[(0,5,.box 0 [.ref 0 13 2 .bool]),(0,13,.row 2 .bool),(1,10,.row 1 (.int .i64))],2,[],3,[(.sl ah),(.sl .bool),(.sl (.int .i64))]⟩)]
def GP (N:Nat) (k:Nat) (x:(List (Instr))×(Int)×(List (Int))×(Int)×(Int)×(List (Bool))×List (Int)):Option (((List (Instr))×(List (Bool))×List (Int))):=bJ (aL (E0 N) ak 1016000 11 (bz t76 11) qL qM) k x
def fD (N:Nat):Nat→(List (Instr))×(Int)×(List (Int))×(Int)×(Int)×(List (Bool))×List (Int)→Option (((List (Instr))×(List (Bool))×List (Int)))
 |0,_=>none
 |k+1,(v8,v9,v10,v11,v12,mJ,lU)=>(bif (decide (v12<v11))
 then (Option.bind (idx v10 v12) fun Kv=>
 (aZ (jq Kv mJ.length)
 ((Option.bind (mJ[(Int.toNat Kv)]?) fun Us=>
 (aZ (jq Kv mJ.length)
 ((Option.bind (mJ[(Int.toNat Kv)]?) fun Y7=>
 (bif (!Us)
 then (aZ (room (lU.length+1) 8)
 (fD N k (v8,v9,v10,v11,(aH (v12+(1:Int))),(mJ.set (Int.toNat Kv) true),(lU++[Kv]))))
 else fD N k (v8,v9,v10,v11,(aH (v12+(1:Int))),(mJ.set (Int.toNat Kv) true),lU)))))))))
 else some (v8,mJ,lU))
theorem qN (N:Nat):∀ k,fD N k=GP N k
 |0=>rfl
 |k+1=>funext fun⟨v8,v9,v10,v11,v12,mJ,lU⟩=>by rw[fD,qN N k];kernel_rfl
def E1 (N:Nat):aA:=(E0 N).aj N 1016000 11 qL qM
theorem gI (N:Nat):aC aP (E1 N):=(cC N).aj N 1016000 11 qL qM
def tc:cw:=⟨[(0,.c (.sl ah .aJ)),(1,.fV 77 [.ptr 0 5 0 0 0]),(4,.c (.ref 1 10 1 (.int .i64)))],[[(5,.c (.ptr 0 5 0 0 0))]],[(0,5,.box 0 [.ref 0 13 2 .bool]),(0,13,.row 2 .bool),(1,10,.row 1 (.int .i64))],2,[],3,[(.sl ah),(.sl .bool),(.sl (.int .i64))]⟩
def td:ck:=[(.exit 0,⟨[],[[(5,.c (.ptr 0 5 0 0 0))]],[(0,5,.box 0 [.ref 0 13 1 .bool]),(0,13,.row 1 .bool)],2,[],2,[(.sl .bool)]⟩)]
def I6 (N:Nat) (k:Nat) (x:(List (Instr))×(List (Bool))×List (Int)):Option ((List (Bool))):=bJ (aL (E1 N) ak 1016000 3 (bz t76 3) tc td) k x
def iC (N:Nat):Nat→(List (Instr))×(List (Bool))×List (Int)→Option ((List (Bool)))
 |0,_=>none
 |k+1,(v3,v4,v5)=>(bif (decide ((v5.length:Int)>(0:Int)))
 then (aZ (jq (aH ((v5.length:Int)-(1:Int))) v5.length)
 ((Option.bind (v5[(Int.toNat (aH ((v5.length:Int)-(1:Int))))]?) fun x6=>
 (aZ (decide (0≤(aH ((v5.length:Int)-(1:Int)))))
 ((aZ (decide ((Int.toNat (aH ((v5.length:Int)-(1:Int))))≤v5.length))
 ((Option.bind (GO N (v3,x6)) fun y7=>
 (Option.bind (fD N N (v3,x6,y7,(y7.length:Int),(0:Int),v4,(v5.take (Int.toNat (aH ((v5.length:Int)-(1:Int))))))) fun GM=>
 iC N k (GM.1,GM.2.1,GM.2.2))))))))))
 else some v4)
theorem sg (N:Nat):∀ k,iC N k=I6 N k
 |0=>rfl
 |k+1=>funext fun⟨v3,v4,v5⟩=>by rw[iC,sg N k,qN N N];kernel_rfl
def E2 (N:Nat):aA:=(E1 N).aj N 1016000 3 tc td
theorem AM (N:Nat):aC aP (E2 N):=(gI N).aj N 1016000 3 tc td
end f50
open f50 in
def W7 (N:Nat):List (Instr)→Option ((List (Bool))×Int)
 |p0=>(Option.bind (UC N p0) fun y0=>
 (bif (y0 != (0:Int))
 then some ([],y0)
 else (aZ (decide (0≤(p0.length:Int)))
 ((aZ (decide (0≤(p0.length:Int)))
 ((aZ (decide ((Int.toNat (p0.length:Int))≤(Int.toNat (p0.length:Int)))&&room (Int.toNat (p0.length:Int)) 1)
 ((aZ (jq (0:Int) (List.replicate (Int.toNat (p0.length:Int)) false).length)
 ((Option.bind ((List.replicate (Int.toNat (p0.length:Int)) false)[(Int.toNat (0:Int))]?) fun x1=>
 (aZ (jq (0:Int) (List.replicate (Int.toNat (p0.length:Int)) false).length)
 ((Option.bind ((List.replicate (Int.toNat (p0.length:Int)) false)[(Int.toNat (0:Int))]?) fun x2=>
 (Option.bind (iC N N (p0,((List.replicate (Int.toNat (p0.length:Int)) false).set (Int.toNat (0:Int)) true),[(0:Int)])) fun xG=>
 (aZ (jq (aH ((xG.length:Int)-(1:Int))) xG.length)
 ((Option.bind (xG[(Int.toNat (aH ((xG.length:Int)-(1:Int))))]?) fun Mm=>
 some ((xG.set (Int.toNat (aH ((xG.length:Int)-(1:Int)))) true),(0:Int))))))))))))))))))))
theorem W8 (N:Nat):W7 N=bC (f50.E2 N) ak 50 f50.args f50.ta f50.res f50.tr 0:=funext fun p0=>by rw[W7,f50.sg N N];kernel_rfl
def c50 (N:Nat):Sym.Callee:=⟨f50.args,f50.ta,f50.res,f50.tr,0,W7 N⟩
theorem afi (N:Nat):bt aP 50 (c50 N):=(bF (f50.AM N) ak 50 f50.args f50.ta f50.res f50.tr 0).plain (W8 N)
namespace f55
def aO:Nat→Nat→Option (Nat×Ty):=fun c i=>match c,i with
 |0,13=>some (34,.bool)
 |0,16=>some (46,.bool)
 |0,100013=>some (34,.bool)
 |0,100016=>some (46,.bool)
 |_,_=>none
def cq:Nat→Nat→Bool:=fun c i=>match c,i with
 |0,8=>true
 |0,100008=>true
 |_,_=>false
def bT:Nat→Nat→Option Ty:=fun c d=>match c,d with
 |0,2=>some (.int .i64)
 |0,37=>some (.int .i64)
 |0,49=>some (.int .i64)
 |_,_=>none
def args:List dJ:=[.agg [.int .u8,.int .i64,.int .i64,.int .i64]]
def ta:List Ty:=[(.int .u8),(.int .i64),(.int .i64),(.int .i64)]
def res:List (Bool×List cG):=[(false,[.sl (.int .i64) .d]),(false,[.sl (.int .i64) .d]),(false,[.int .i64])]
def tr:List Ty:=[(.sl (.int .i64)),(.sl (.int .i64)),(.int .i64)]
def E0 (N:Nat):aA:=(((aA.base aP aX aY aO cq bT).aa 96 (c96 N)).aa 97 (c97 N)).aa 98 (c98 N)
theorem cC (N:Nat):aC aP (E0 N):=(((aQ aP aX aY aO cq bT).aa (SQ N)).aa (WN N)).aa (WQ N)
end f55
open f55 in
def UD (N:Nat):(Int)×(Int)×(Int)×Int→Option ((List (Int))×(List (Int))×Int)
 |(p0,p1,p2,p3)=>(Option.bind (SP N (p0,p1,p2,p3)) fun y0=>
 (bif (y0 != (0:Int))
 then some (([]:List (Int)),[],y0)
 else (Option.bind (QJ N p0) fun y1=>
 (Option.bind (SO N (p0,p1,p2,p3)) fun y2=>
 (Option.bind ((bif y1.2.2.1
 then some (decide (y2.1≥(0:Int)))
 else some false)) fun b3=>
 (bif b3
 then (aZ (room (0+1) 8)
 ((Option.bind ((bif y1.2.2.2.1
 then some (decide (y2.1≥(0:Int)))
 else some false)) fun b4=>
 (bif b4
 then (aZ (room 1 8)
 ((Option.bind ((bif y1.2.2.2.2.2.2.1
 then some (decide (y2.2.1≥(0:Int)))
 else some false)) fun b5=>
 (bif b5
 then (aZ (room (1+1) 8)
 ((Option.bind ((bif y1.2.2.2.2.2.2.2.1
 then some (decide (y2.2.1≥(0:Int)))
 else some false)) fun b6=>
 (bif b6
 then (aZ (room (1+1) 8)
 ((Option.bind ((bif y1.2.2.2.2.2.2.2.2.2.2.1
 then some (decide (y2.2.2≥(0:Int)))
 else some false)) fun b7=>
 (bif b7
 then (aZ (room (2+1) 8)
 ((Option.bind ((bif y1.2.2.2.2.2.2.2.2.2.2.2.1
 then some (decide (y2.2.2≥(0:Int)))
 else some false)) fun b8=>
 (bif b8
 then (aZ (room (2+1) 8)
 (some ((((([]:List (Int))++[y2.1])++[y2.2.1])++[y2.2.2]),(([y2.1]++[y2.2.1])++[y2.2.2]),(0:Int))))
 else some ((((([]:List (Int))++[y2.1])++[y2.2.1])++[y2.2.2]),([y2.1]++[y2.2.1]),(0:Int))))))
 else (Option.bind ((bif y1.2.2.2.2.2.2.2.2.2.2.2.1
 then some (decide (y2.2.2≥(0:Int)))
 else some false)) fun b9=>
 (bif b9
 then (aZ (room (2+1) 8)
 (some (((([]:List (Int))++[y2.1])++[y2.2.1]),(([y2.1]++[y2.2.1])++[y2.2.2]),(0:Int))))
 else some (((([]:List (Int))++[y2.1])++[y2.2.1]),([y2.1]++[y2.2.1]),(0:Int))))))))
 else (Option.bind ((bif y1.2.2.2.2.2.2.2.2.2.2.1
 then some (decide (y2.2.2≥(0:Int)))
 else some false)) fun HC=>
 (bif HC
 then (aZ (room (2+1) 8)
 ((Option.bind ((bif y1.2.2.2.2.2.2.2.2.2.2.2.1
 then some (decide (y2.2.2≥(0:Int)))
 else some false)) fun WJ=>
 (bif WJ
 then (aZ (room (1+1) 8)
 (some ((((([]:List (Int))++[y2.1])++[y2.2.1])++[y2.2.2]),([y2.1]++[y2.2.2]),(0:Int))))
 else some ((((([]:List (Int))++[y2.1])++[y2.2.1])++[y2.2.2]),[y2.1],(0:Int))))))
 else (Option.bind ((bif y1.2.2.2.2.2.2.2.2.2.2.2.1
 then some (decide (y2.2.2≥(0:Int)))
 else some false)) fun QI=>
 (bif QI
 then (aZ (room (1+1) 8)
 (some (((([]:List (Int))++[y2.1])++[y2.2.1]),([y2.1]++[y2.2.2]),(0:Int))))
 else some (((([]:List (Int))++[y2.1])++[y2.2.1]),[y2.1],(0:Int))))))))))
 else (Option.bind ((bif y1.2.2.2.2.2.2.2.1
 then some (decide (y2.2.1≥(0:Int)))
 else some false)) fun GI=>
 (bif GI
 then (aZ (room (1+1) 8)
 ((Option.bind ((bif y1.2.2.2.2.2.2.2.2.2.2.1
 then some (decide (y2.2.2≥(0:Int)))
 else some false)) fun WG=>
 (bif WG
 then (aZ (room (1+1) 8)
 ((Option.bind ((bif y1.2.2.2.2.2.2.2.2.2.2.2.1
 then some (decide (y2.2.2≥(0:Int)))
 else some false)) fun Sr=>
 (bif Sr
 then (aZ (room (2+1) 8)
 (some (((([]:List (Int))++[y2.1])++[y2.2.2]),(([y2.1]++[y2.2.1])++[y2.2.2]),(0:Int))))
 else some (((([]:List (Int))++[y2.1])++[y2.2.2]),([y2.1]++[y2.2.1]),(0:Int))))))
 else (Option.bind ((bif y1.2.2.2.2.2.2.2.2.2.2.2.1
 then some (decide (y2.2.2≥(0:Int)))
 else some false)) fun b16=>
 (bif b16
 then (aZ (room (2+1) 8)
 (some ((([]:List (Int))++[y2.1]),(([y2.1]++[y2.2.1])++[y2.2.2]),(0:Int))))
 else some ((([]:List (Int))++[y2.1]),([y2.1]++[y2.2.1]),(0:Int))))))))
 else (Option.bind ((bif y1.2.2.2.2.2.2.2.2.2.2.1
 then some (decide (y2.2.2≥(0:Int)))
 else some false)) fun yH=>
 (bif yH
 then (aZ (room (1+1) 8)
 ((Option.bind ((bif y1.2.2.2.2.2.2.2.2.2.2.2.1
 then some (decide (y2.2.2≥(0:Int)))
 else some false)) fun CQ=>
 (bif CQ
 then (aZ (room (1+1) 8)
 (some (((([]:List (Int))++[y2.1])++[y2.2.2]),([y2.1]++[y2.2.2]),(0:Int))))
 else some (((([]:List (Int))++[y2.1])++[y2.2.2]),[y2.1],(0:Int))))))
 else (Option.bind ((bif y1.2.2.2.2.2.2.2.2.2.2.2.1
 then some (decide (y2.2.2≥(0:Int)))
 else some false)) fun b19=>
 (bif b19
 then (aZ (room (1+1) 8)
 (some ((([]:List (Int))++[y2.1]),([y2.1]++[y2.2.2]),(0:Int))))
 else some ((([]:List (Int))++[y2.1]),[y2.1],(0:Int))))))))))))
 else (Option.bind ((bif y1.2.2.2.2.2.2.1
 then some (decide (y2.2.1≥(0:Int)))
 else some false)) fun OV=>
 (bif OV
 then (aZ (room (1+1) 8)
 ((Option.bind ((bif y1.2.2.2.2.2.2.2.1
 then some (decide (y2.2.1≥(0:Int)))
 else some false)) fun b21=>
 (bif b21
 then (aZ (room 1 8)
 ((Option.bind ((bif y1.2.2.2.2.2.2.2.2.2.2.1
 then some (decide (y2.2.2≥(0:Int)))
 else some false)) fun Kx=>
 (bif Kx
 then (aZ (room (2+1) 8)
 ((Option.bind ((bif y1.2.2.2.2.2.2.2.2.2.2.2.1
 then some (decide (y2.2.2≥(0:Int)))
 else some false)) fun b23=>
 (bif b23
 then (aZ (room (1+1) 8)
 (some ((((([]:List (Int))++[y2.1])++[y2.2.1])++[y2.2.2]),([y2.2.1]++[y2.2.2]),(0:Int))))
 else some ((((([]:List (Int))++[y2.1])++[y2.2.1])++[y2.2.2]),[y2.2.1],(0:Int))))))
 else (Option.bind ((bif y1.2.2.2.2.2.2.2.2.2.2.2.1
 then some (decide (y2.2.2≥(0:Int)))
 else some false)) fun Y3=>
 (bif Y3
 then (aZ (room (1+1) 8)
 (some (((([]:List (Int))++[y2.1])++[y2.2.1]),([y2.2.1]++[y2.2.2]),(0:Int))))
 else some (((([]:List (Int))++[y2.1])++[y2.2.1]),[y2.2.1],(0:Int))))))))
 else (Option.bind ((bif y1.2.2.2.2.2.2.2.2.2.2.1
 then some (decide (y2.2.2≥(0:Int)))
 else some false)) fun b25=>
 (bif b25
 then (aZ (room (2+1) 8)
 ((Option.bind ((bif y1.2.2.2.2.2.2.2.2.2.2.2.1
 then some (decide (y2.2.2≥(0:Int)))
 else some false)) fun yJ=>
 (bif yJ
 then (aZ (room 1 8)
 (some ((((([]:List (Int))++[y2.1])++[y2.2.1])++[y2.2.2]),[y2.2.2],(0:Int))))
 else some ((((([]:List (Int))++[y2.1])++[y2.2.1])++[y2.2.2]),[],(0:Int))))))
 else (Option.bind ((bif y1.2.2.2.2.2.2.2.2.2.2.2.1
 then some (decide (y2.2.2≥(0:Int)))
 else some false)) fun b27=>
 (bif b27
 then (aZ (room 1 8)
 (some (((([]:List (Int))++[y2.1])++[y2.2.1]),[y2.2.2],(0:Int))))
 else some (((([]:List (Int))++[y2.1])++[y2.2.1]),[],(0:Int))))))))))
 else (Option.bind ((bif y1.2.2.2.2.2.2.2.1
 then some (decide (y2.2.1≥(0:Int)))
 else some false)) fun b28=>
 (bif b28
 then (aZ (room 1 8)
 ((Option.bind ((bif y1.2.2.2.2.2.2.2.2.2.2.1
 then some (decide (y2.2.2≥(0:Int)))
 else some false)) fun b29=>
 (bif b29
 then (aZ (room (1+1) 8)
 ((Option.bind ((bif y1.2.2.2.2.2.2.2.2.2.2.2.1
 then some (decide (y2.2.2≥(0:Int)))
 else some false)) fun b30=>
 (bif b30
 then (aZ (room (1+1) 8)
 (some (((([]:List (Int))++[y2.1])++[y2.2.2]),([y2.2.1]++[y2.2.2]),(0:Int))))
 else some (((([]:List (Int))++[y2.1])++[y2.2.2]),[y2.2.1],(0:Int))))))
 else (Option.bind ((bif y1.2.2.2.2.2.2.2.2.2.2.2.1
 then some (decide (y2.2.2≥(0:Int)))
 else some false)) fun GQ=>
 (bif GQ
 then (aZ (room (1+1) 8)
 (some ((([]:List (Int))++[y2.1]),([y2.2.1]++[y2.2.2]),(0:Int))))
 else some ((([]:List (Int))++[y2.1]),[y2.2.1],(0:Int))))))))
 else (Option.bind ((bif y1.2.2.2.2.2.2.2.2.2.2.1
 then some (decide (y2.2.2≥(0:Int)))
 else some false)) fun b32=>
 (bif b32
 then (aZ (room (1+1) 8)
 ((Option.bind ((bif y1.2.2.2.2.2.2.2.2.2.2.2.1
 then some (decide (y2.2.2≥(0:Int)))
 else some false)) fun Y6=>
 (bif Y6
 then (aZ (room 1 8)
 (some (((([]:List (Int))++[y2.1])++[y2.2.2]),[y2.2.2],(0:Int))))
 else some (((([]:List (Int))++[y2.1])++[y2.2.2]),[],(0:Int))))))
 else (Option.bind ((bif y1.2.2.2.2.2.2.2.2.2.2.2.1
 then some (decide (y2.2.2≥(0:Int)))
 else some false)) fun I7=>
 (bif I7
 then (aZ (room 1 8)
 (some ((([]:List (Int))++[y2.1]),[y2.2.2],(0:Int))))
 else some ((([]:List (Int))++[y2.1]),[],(0:Int))))))))))))))
 else (Option.bind ((bif y1.2.2.2.1
 then some (decide (y2.1≥(0:Int)))
 else some false)) fun b35=>
 (bif b35
 then (aZ (room 1 8)
 ((Option.bind ((bif y1.2.2.2.2.2.2.1
 then some (decide (y2.2.1≥(0:Int)))
 else some false)) fun b36=>
 (bif b36
 then (aZ (room (0+1) 8)
 ((Option.bind ((bif y1.2.2.2.2.2.2.2.1
 then some (decide (y2.2.1≥(0:Int)))
 else some false)) fun b37=>
 (bif b37
 then (aZ (room (1+1) 8)
 ((Option.bind ((bif y1.2.2.2.2.2.2.2.2.2.2.1
 then some (decide (y2.2.2≥(0:Int)))
 else some false)) fun b38=>
 (bif b38
 then (aZ (room (1+1) 8)
 ((Option.bind ((bif y1.2.2.2.2.2.2.2.2.2.2.2.1
 then some (decide (y2.2.2≥(0:Int)))
 else some false)) fun b39=>
 (bif b39
 then (aZ (room (2+1) 8)
 (some (((([]:List (Int))++[y2.2.1])++[y2.2.2]),(([y2.1]++[y2.2.1])++[y2.2.2]),(0:Int))))
 else some (((([]:List (Int))++[y2.2.1])++[y2.2.2]),([y2.1]++[y2.2.1]),(0:Int))))))
 else (Option.bind ((bif y1.2.2.2.2.2.2.2.2.2.2.2.1
 then some (decide (y2.2.2≥(0:Int)))
 else some false)) fun b40=>
 (bif b40
 then (aZ (room (2+1) 8)
 (some ((([]:List (Int))++[y2.2.1]),(([y2.1]++[y2.2.1])++[y2.2.2]),(0:Int))))
 else some ((([]:List (Int))++[y2.2.1]),([y2.1]++[y2.2.1]),(0:Int))))))))
 else (Option.bind ((bif y1.2.2.2.2.2.2.2.2.2.2.1
 then some (decide (y2.2.2≥(0:Int)))
 else some false)) fun b41=>
 (bif b41
 then (aZ (room (1+1) 8)
 ((Option.bind ((bif y1.2.2.2.2.2.2.2.2.2.2.2.1
 then some (decide (y2.2.2≥(0:Int)))
 else some false)) fun b42=>
 (bif b42
 then (aZ (room (1+1) 8)
 (some (((([]:List (Int))++[y2.2.1])++[y2.2.2]),([y2.1]++[y2.2.2]),(0:Int))))
 else some (((([]:List (Int))++[y2.2.1])++[y2.2.2]),[y2.1],(0:Int))))))
 else (Option.bind ((bif y1.2.2.2.2.2.2.2.2.2.2.2.1
 then some (decide (y2.2.2≥(0:Int)))
 else some false)) fun b43=>
 (bif b43
 then (aZ (room (1+1) 8)
 (some ((([]:List (Int))++[y2.2.1]),([y2.1]++[y2.2.2]),(0:Int))))
 else some ((([]:List (Int))++[y2.2.1]),[y2.1],(0:Int))))))))))
 else (Option.bind ((bif y1.2.2.2.2.2.2.2.1
 then some (decide (y2.2.1≥(0:Int)))
 else some false)) fun b44=>
 (bif b44
 then (aZ (room (1+1) 8)
 ((Option.bind ((bif y1.2.2.2.2.2.2.2.2.2.2.1
 then some (decide (y2.2.2≥(0:Int)))
 else some false)) fun b45=>
 (bif b45
 then (aZ (room (0+1) 8)
 ((Option.bind ((bif y1.2.2.2.2.2.2.2.2.2.2.2.1
 then some (decide (y2.2.2≥(0:Int)))
 else some false)) fun b46=>
 (bif b46
 then (aZ (room (2+1) 8)
 (some ((([]:List (Int))++[y2.2.2]),(([y2.1]++[y2.2.1])++[y2.2.2]),(0:Int))))
 else some ((([]:List (Int))++[y2.2.2]),([y2.1]++[y2.2.1]),(0:Int))))))
 else (Option.bind ((bif y1.2.2.2.2.2.2.2.2.2.2.2.1
 then some (decide (y2.2.2≥(0:Int)))
 else some false)) fun HE=>
 (bif HE
 then (aZ (room (2+1) 8)
 (some (([]:List (Int)),(([y2.1]++[y2.2.1])++[y2.2.2]),(0:Int))))
 else some (([]:List (Int)),([y2.1]++[y2.2.1]),(0:Int))))))))
 else (Option.bind ((bif y1.2.2.2.2.2.2.2.2.2.2.1
 then some (decide (y2.2.2≥(0:Int)))
 else some false)) fun b48=>
 (bif b48
 then (aZ (room (0+1) 8)
 ((Option.bind ((bif y1.2.2.2.2.2.2.2.2.2.2.2.1
 then some (decide (y2.2.2≥(0:Int)))
 else some false)) fun b49=>
 (bif b49
 then (aZ (room (1+1) 8)
 (some ((([]:List (Int))++[y2.2.2]),([y2.1]++[y2.2.2]),(0:Int))))
 else some ((([]:List (Int))++[y2.2.2]),[y2.1],(0:Int))))))
 else (Option.bind ((bif y1.2.2.2.2.2.2.2.2.2.2.2.1
 then some (decide (y2.2.2≥(0:Int)))
 else some false)) fun BK=>
 (bif BK
 then (aZ (room (1+1) 8)
 (some (([]:List (Int)),([y2.1]++[y2.2.2]),(0:Int))))
 else some (([]:List (Int)),[y2.1],(0:Int))))))))))))
 else (Option.bind ((bif y1.2.2.2.2.2.2.1
 then some (decide (y2.2.1≥(0:Int)))
 else some false)) fun b51=>
 (bif b51
 then (aZ (room (0+1) 8)
 ((Option.bind ((bif y1.2.2.2.2.2.2.2.1
 then some (decide (y2.2.1≥(0:Int)))
 else some false)) fun b52=>
 (bif b52
 then (aZ (room 1 8)
 ((Option.bind ((bif y1.2.2.2.2.2.2.2.2.2.2.1
 then some (decide (y2.2.2≥(0:Int)))
 else some false)) fun b53=>
 (bif b53
 then (aZ (room (1+1) 8)
 ((Option.bind ((bif y1.2.2.2.2.2.2.2.2.2.2.2.1
 then some (decide (y2.2.2≥(0:Int)))
 else some false)) fun b54=>
 (bif b54
 then (aZ (room (1+1) 8)
 (some (((([]:List (Int))++[y2.2.1])++[y2.2.2]),([y2.2.1]++[y2.2.2]),(0:Int))))
 else some (((([]:List (Int))++[y2.2.1])++[y2.2.2]),[y2.2.1],(0:Int))))))
 else (Option.bind ((bif y1.2.2.2.2.2.2.2.2.2.2.2.1
 then some (decide (y2.2.2≥(0:Int)))
 else some false)) fun S6=>
 (bif S6
 then (aZ (room (1+1) 8)
 (some ((([]:List (Int))++[y2.2.1]),([y2.2.1]++[y2.2.2]),(0:Int))))
 else some ((([]:List (Int))++[y2.2.1]),[y2.2.1],(0:Int))))))))
 else (Option.bind ((bif y1.2.2.2.2.2.2.2.2.2.2.1
 then some (decide (y2.2.2≥(0:Int)))
 else some false)) fun b56=>
 (bif b56
 then (aZ (room (1+1) 8)
 ((Option.bind ((bif y1.2.2.2.2.2.2.2.2.2.2.2.1
 then some (decide (y2.2.2≥(0:Int)))
 else some false)) fun b57=>
 (bif b57
 then (aZ (room 1 8)
 (some (((([]:List (Int))++[y2.2.1])++[y2.2.2]),[y2.2.2],(0:Int))))
 else some (((([]:List (Int))++[y2.2.1])++[y2.2.2]),[],(0:Int))))))
 else (Option.bind ((bif y1.2.2.2.2.2.2.2.2.2.2.2.1
 then some (decide (y2.2.2≥(0:Int)))
 else some false)) fun b58=>
 (bif b58
 then (aZ (room 1 8)
 (some ((([]:List (Int))++[y2.2.1]),[y2.2.2],(0:Int))))
 else some ((([]:List (Int))++[y2.2.1]),[],(0:Int))))))))))
 else (Option.bind ((bif y1.2.2.2.2.2.2.2.1
 then some (decide (y2.2.1≥(0:Int)))
 else some false)) fun b59=>
 (bif b59
 then (aZ (room 1 8)
 ((Option.bind ((bif y1.2.2.2.2.2.2.2.2.2.2.1
 then some (decide (y2.2.2≥(0:Int)))
 else some false)) fun b60=>
 (bif b60
 then (aZ (room (0+1) 8)
 ((Option.bind ((bif y1.2.2.2.2.2.2.2.2.2.2.2.1
 then some (decide (y2.2.2≥(0:Int)))
 else some false)) fun b61=>
 (bif b61
 then (aZ (room (1+1) 8)
 (some ((([]:List (Int))++[y2.2.2]),([y2.2.1]++[y2.2.2]),(0:Int))))
 else some ((([]:List (Int))++[y2.2.2]),[y2.2.1],(0:Int))))))
 else (Option.bind ((bif y1.2.2.2.2.2.2.2.2.2.2.2.1
 then some (decide (y2.2.2≥(0:Int)))
 else some false)) fun b62=>
 (bif b62
 then (aZ (room (1+1) 8)
 (some (([]:List (Int)),([y2.2.1]++[y2.2.2]),(0:Int))))
 else some (([]:List (Int)),[y2.2.1],(0:Int))))))))
 else (Option.bind ((bif y1.2.2.2.2.2.2.2.2.2.2.1
 then some (decide (y2.2.2≥(0:Int)))
 else some false)) fun b63=>
 (bif b63
 then (aZ (room (0+1) 8)
 ((Option.bind ((bif y1.2.2.2.2.2.2.2.2.2.2.2.1
 then some (decide (y2.2.2≥(0:Int)))
 else some false)) fun b64=>
 (bif b64
 then (aZ (room 1 8)
 (some ((([]:List (Int))++[y2.2.2]),[y2.2.2],(0:Int))))
 else some ((([]:List (Int))++[y2.2.2]),[],(0:Int))))))
 else (Option.bind ((bif y1.2.2.2.2.2.2.2.2.2.2.2.1
 then some (decide (y2.2.2≥(0:Int)))
 else some false)) fun b65=>
 (bif b65
 then (aZ (room 1 8)
 (some (([]:List (Int)),[y2.2.2],(0:Int))))
 else some (([]:List (Int)),[],(0:Int))))))))))))))))))
theorem W9 (N:Nat):UD N=bC (f55.E0 N) ak 55 f55.args f55.ta f55.res f55.tr 1:=funext fun⟨p0,p1,p2,p3⟩=>by rw[UD];kernel_rfl
def c55 (N:Nat):Sym.Callee:=⟨f55.args,f55.ta,f55.res,f55.tr,1,UD N⟩
theorem Xa (N:Nat):bt aP 55 (c55 N):=(bF (f55.cC N) ak 55 f55.args f55.ta f55.res f55.tr 1).plain (W9 N)
namespace f78
def aO:Nat→Nat→Option (Nat×Ty):=fun c i=>match c,i with
 |0,1=>some (4,.bool)
 |_,_=>none
def args:List dJ:=[.c (.sl av .aJ),.c (.int .i64)]
def ta:List Ty:=[(.sl av),(.int .i64)]
def res:List (Bool×List cG):=[(false,[.bool])]
def tr:List Ty:=[.bool]
def E0 (N:Nat):aA:=aA.base aP aX aY aO cq bT
theorem cC (N:Nat):aC aP (E0 N):=aQ aP aX aY aO cq bT
end f78
open f78 in
def Zd (N:Nat):(List (Field))×Int→Option (Bool)
 |(p0,p1)=>(Option.bind ((bif (decide (p1≥(0:Int)))
 then some (decide (p1<(p0.length:Int)))
 else some false)) fun b0=>
 some b0)
theorem Xb (N:Nat):Zd N=bC (f78.E0 N) ak 78 f78.args f78.ta f78.res f78.tr 0:=funext fun⟨p0,p1⟩=>by rw[Zd];kernel_rfl
def c78 (N:Nat):Sym.Callee:=⟨f78.args,f78.ta,f78.res,f78.tr,0,Zd N⟩
theorem Xc (N:Nat):bt aP 78 (c78 N):=(bF (f78.cC N) ak 78 f78.args f78.ta f78.res f78.tr 0).plain (Xb N)
namespace f79
def aO:Nat→Nat→Option (Nat×Ty):=fun c i=>match c,i with
 |0,7=>some (9,.bool)
 |_,_=>none
def args:List dJ:=[.agg [.int .u8,.int .i64,.int .i64,.int .i64]]
def ta:List Ty:=[(.int .u8),(.int .i64),(.int .i64),(.int .i64)]
def res:List (Bool×List cG):=[(false,[.int .i64])]
def tr:List Ty:=[(.int .i64)]
def E0 (N:Nat):aA:=aA.base aP aX aY aO cq bT
theorem cC (N:Nat):aC aP (E0 N):=aQ aP aX aY aO cq bT
end f79
open f79 in
def F79 (N:Nat):(Int)×(Int)×(Int)×Int→Option (Int)
 |(p0,p1,p2,p3)=>(bif (p0==(25:Int))
 then some p2
 else (Option.bind ((bif (p0==(26:Int))
 then some true
 else some (p0==(27:Int)))) fun b0=>
 (bif b0
 then some p1
 else some (-1:Int))))
theorem Xd (N:Nat):F79 N=bC (f79.E0 N) ak 79 f79.args f79.ta f79.res f79.tr 0:=funext fun⟨p0,p1,p2,p3⟩=>by rw[F79];kernel_rfl
def c79 (N:Nat):Sym.Callee:=⟨f79.args,f79.ta,f79.res,f79.tr,0,F79 N⟩
theorem ab2 (N:Nat):bt aP 79 (c79 N):=(bF (f79.cC N) ak 79 f79.args f79.ta f79.res f79.tr 0).plain (Xd N)
namespace f80
def aO:Nat→Nat→Option (Nat×Ty):=fun c i=>match c,i with
 |0,1=>some (4,.bool)
 |_,_=>none
def args:List dJ:=[.c (.sl .str .aJ),.c (.int .i64)]
def ta:List Ty:=[(.sl .str),(.int .i64)]
def res:List (Bool×List cG):=[(false,[.bool])]
def tr:List Ty:=[.bool]
def E0 (N:Nat):aA:=aA.base aP aX aY aO cq bT
theorem cC (N:Nat):aC aP (E0 N):=aQ aP aX aY aO cq bT
end f80
open f80 in
def F80 (N:Nat):(List (List UInt8))×Int→Option (Bool)
 |(p0,p1)=>(Option.bind ((bif (decide (p1≥(0:Int)))
 then some (decide (p1<(p0.length:Int)))
 else some false)) fun b0=>
 some b0)
theorem Xe (N:Nat):F80 N=bC (f80.E0 N) ak 80 f80.args f80.ta f80.res f80.tr 0:=funext fun⟨p0,p1⟩=>by rw[F80];kernel_rfl
def c80 (N:Nat):Sym.Callee:=⟨f80.args,f80.ta,f80.res,f80.tr,0,F80 N⟩
theorem afn (N:Nat):bt aP 80 (c80 N):=(bF (f80.cC N) ak 80 f80.args f80.ta f80.res f80.tr 0).plain (Xe N)
namespace f51
def aO:Nat→Nat→Option (Nat×Ty):=fun c i=>match c,i with
 |0,17=>some (56,.bool)
 |_,_=>none
def args:List dJ:=[.agg [.sl ai .aJ,.sl .str .aJ,.sl aG .aJ,.str,.int .i64,.int .i64,.sl av .aJ,.sl ah .aJ,.sl aD .aJ,.sl aD .aJ],.agg [.int .u8,.int .i64,.int .i64,.int .i64]]
def ta:List Ty:=[(.sl ai),(.sl .str),(.sl aG),.str,(.int .i64),(.int .i64),(.sl av),(.sl ah),(.sl aD),(.sl aD),(.int .u8),(.int .i64),(.int .i64),(.int .i64)]
def res:List (Bool×List cG):=[(false,[.int .i64])]
def tr:List Ty:=[(.int .i64)]
def E0 (N:Nat):aA:=((((aA.base aP aX aY aO cq bT).aa 55 (c55 N)).aa 78 (c78 N)).aa 79 (c79 N)).aa 80 (c80 N)
theorem cC (N:Nat):aC aP (E0 N):=((((aQ aP aX aY aO cq bT).aa (Xa N)).aa (Xc N)).aa (ab2 N)).aa (afn N)
def mw:cw:=⟨[(2,.c (.ptr 0 2 0 0 0)),(3,.c (.ptr 0 3 1 0 0)),(22,.c (.ref 0 13 2 (.int .i64))),(23,.c (.int .i64)),(24,.c (.int .i64))],[],[(0,2,.box 0 [.sl ai .aJ,.sl .str .aJ,.sl aG .aJ,.str,.int .i64,.int .i64,.sl av .aJ,.sl ah .aJ,.sl aD .aJ,.sl aD .aJ]),(0,3,.box 1 [.int .u8,.int .i64,.int .i64,.int .i64]),(0,13,.row 2 (.int .i64))],1,[],3,[(.int .i64),(.int .i64),(.sl ai),(.sl .str),(.sl aG),.str,(.int .i64),(.int .i64),(.sl av),(.sl ah),(.sl aD),(.sl aD),(.int .u8),(.int .i64),(.int .i64),(.int .i64),(.sl (.int .i64))]⟩
def mz:ck:=[(.ret,⟨[(4,.c (.int .i64))],[],[],1,[],0,[(.int .i64)]⟩),(.exit 0,⟨[(2,.c (.ptr 0 2 0 0 0)),(3,.c (.ptr 0 3 1 0 0))],[],[(0,2,.box 0 [.sl ai .aJ,.sl .str .aJ,.sl aG .aJ,.str,.int .i64,.int .i64,.sl av .aJ,.sl ah .aJ,.sl aD .aJ,.sl aD .aJ]),(0,3,.box 1 [.int .u8,.int .i64,.int .i64,.int .i64])],1,[],2,[(.sl ai),(.sl .str),(.sl aG),.str,(.int .i64),(.int .i64),(.sl av),(.sl ah),(.sl aD),(.sl aD),(.int .u8),(.int .i64),(.int .i64),(.int .i64)]⟩)]
def AG (N:Nat) (k:Nat) (x:(Int)×(Int)×(List (aq))×(List (List UInt8))×(List (Func))×(List UInt8)×(Int)×(Int)×(List (Field))×(List (Instr))×(List (bD))×(List (bD))×(Int)×(Int)×(Int)×(Int)×List (Int)):Option ((Int)⊕((List (aq))×(List (List UInt8))×(List (Func))×(List UInt8)×(Int)×(Int)×(List (Field))×(List (Instr))×(List (bD))×(List (bD))×(Int)×(Int)×(Int)×Int)):=bJ (aL (E0 N) ak 0 7 (bz t51 7) mw mz) k x
def fA (N:Nat):Nat→(Int)×(Int)×(List (aq))×(List (List UInt8))×(List (Func))×(List UInt8)×(Int)×(Int)×(List (Field))×(List (Instr))×(List (bD))×(List (bD))×(Int)×(Int)×(Int)×(Int)×List (Int)→Option ((Int)⊕((List (aq))×(List (List UInt8))×(List (Func))×(List UInt8)×(Int)×(Int)×(List (Field))×(List (Instr))×(List (bD))×(List (bD))×(Int)×(Int)×(Int)×Int))
 |0,_=>none
 |k+1,(v1,v2,v3,v4,v5,v6,v7,v8,v9,v10,v11,v12,mJ,lU,rZ,r6,r7)=>(bif (decide (v2<v1))
 then (aZ (jq v2 r7.length)
 ((Option.bind (r7[(Int.toNat v2)]?) fun x18=>
 (Option.bind (Zd N (v9,x18)) fun xG=>
 (bif (!xG)
 then some (Sum.inl (16:Int))
 else fA N k (v1,(aH (v2+(1:Int))),v3,v4,v5,v6,v7,v8,v9,v10,v11,v12,mJ,lU,rZ,r6,r7))))))
 else some (Sum.inr (v3,v4,v5,v6,v7,v8,v9,v10,v11,v12,mJ,lU,rZ,r6)))
theorem fB (N:Nat):∀ k,fA N k=AG N k
 |0=>rfl
 |k+1=>funext fun⟨v1,v2,v3,v4,v5,v6,v7,v8,v9,v10,v11,v12,mJ,lU,rZ,r6,r7⟩=>by rw[fA,fB N k];kernel_rfl
def E1 (N:Nat):aA:=(E0 N).aj N 0 7 mw mz
theorem gI (N:Nat):aC aP (E1 N):=(cC N).aj N 0 7 mw mz
end f51
open f51 in
def Ze (N:Nat):(List (aq))×(List (List UInt8))×(List (Func))×(List UInt8)×(Int)×(Int)×(List (Field))×(List (Instr))×(List (bD))×(List (bD))×(Int)×(Int)×(Int)×Int→Option (Int)
 |(p0,p1,p2,p3,p4,p5,p6,p7,p8,p9,ji,tf,yK,GR)=>(Option.bind (UD N (ji,tf,yK,GR)) fun y0=>
 (bif (y0.2.2 != (0:Int))
 then some y0.2.2
 else (aZ (room (y0.1.length+y0.2.1.length) 8)
 ((Option.bind (fA N N (((y0.1++y0.2.1).length:Int),(0:Int),p0,p1,p2,p3,p4,p5,p6,p7,p8,p9,ji,tf,yK,GR,(y0.1++y0.2.1))) fun MU=>
 (match MU with
 |.inl a21=>some a21
 |.inr Kx=>(Option.bind (F79 N (Kx.2.2.2.2.2.2.2.2.2.2.1,Kx.2.2.2.2.2.2.2.2.2.2.2.1,Kx.2.2.2.2.2.2.2.2.2.2.2.2.1,Kx.2.2.2.2.2.2.2.2.2.2.2.2.2)) fun vR=>
 (Option.bind ((bif (decide (vR≥(Kx.2.2.1.length:Int)))
 then some true
 else (bif (Kx.2.2.2.2.2.2.2.2.2.2.1==(2:Int))
 then (Option.bind (F80 N (Kx.2.1,Kx.2.2.2.2.2.2.2.2.2.2.2.2.1)) fun Bt=>
 some (!Bt))
 else some false))) fun b25=>
 (bif b25
 then some (16:Int)
 else some (0:Int))))))))))
theorem Xf (N:Nat):Ze N=bC (f51.E1 N) ak 51 f51.args f51.ta f51.res f51.tr 0:=funext fun⟨p0,p1,p2,p3,p4,p5,p6,p7,p8,p9,ji,tf,yK,GR⟩=>by rw[Ze,f51.fB N N];kernel_rfl
def c51 (N:Nat):Sym.Callee:=⟨f51.args,f51.ta,f51.res,f51.tr,0,Ze N⟩
theorem afo (N:Nat):bt aP 51 (c51 N):=(bF (f51.gI N) ak 51 f51.args f51.ta f51.res f51.tr 0).plain (Xf N)
namespace f81
def args:List dJ:=[.agg [.sl ai .aJ,.sl .str .aJ,.sl aG .aJ,.str,.int .i64,.int .i64,.sl av .aJ,.sl ah .aJ,.sl aD .aJ,.sl aD .aJ],.c (.int .i64)]
def ta:List Ty:=[(.sl ai),(.sl .str),(.sl aG),.str,(.int .i64),(.int .i64),(.sl av),(.sl ah),(.sl aD),(.sl aD),(.int .i64)]
def res:List (Bool×List cG):=[(false,[.int .i64])]
def tr:List Ty:=[(.int .i64)]
def E0 (N:Nat):aA:=(aA.base aP aX aY aO cq bT).aa 78 (c78 N)
theorem cC (N:Nat):aC aP (E0 N):=(aQ aP aX aY aO cq bT).aa (Xc N)
end f81
open f81 in
def Xg (N:Nat):(List (aq))×(List (List UInt8))×(List (Func))×(List UInt8)×(Int)×(Int)×(List (Field))×(List (Instr))×(List (bD))×(List (bD))×Int→Option (Int)
 |(p0,p1,p2,p3,p4,p5,p6,p7,p8,p9,ji)=>(Option.bind (Zd N (p6,ji)) fun y0=>
 (bif (!y0)
 then some (-1:Int)
 else (Option.bind (idx p6 ji) fun x1=>
 some x1.2)))
theorem Xh (N:Nat):Xg N=bC (f81.E0 N) ak 81 f81.args f81.ta f81.res f81.tr 0:=funext fun⟨p0,p1,p2,p3,p4,p5,p6,p7,p8,p9,ji⟩=>by rw[Xg];kernel_rfl
def c81 (N:Nat):Sym.Callee:=⟨f81.args,f81.ta,f81.res,f81.tr,0,Xg N⟩
theorem ab3 (N:Nat):bt aP 81 (c81 N):=(bF (f81.cC N) ak 81 f81.args f81.ta f81.res f81.tr 0).plain (Xh N)
namespace f144
def args:List dJ:=[.c (.sl (.int .u8) .aJ),.c (.int .u8)]
def ta:List Ty:=[(.sl (.int .u8)),(.int .u8)]
def res:List (Bool×List cG):=[(false,[.int .i64])]
def tr:List Ty:=[(.int .i64)]
def E0 (N:Nat):aA:=aA.base aP aX aY aO cq bT
theorem cC (N:Nat):aC aP (E0 N):=aQ aP aX aY aO cq bT
def AE:cw:=⟨[(0,.c (.sl (.int .u8) .aJ)),(1,.c (.int .u8)),(7,.c (.int .i64)),(8,.c (.int .i64))],[],[],1,[],0,[(.sl (.int .u8)),(.int .u8),(.int .i64),(.int .i64)]⟩
def AF:ck:=[(.ret,⟨[(4,.c (.int .i64))],[],[],1,[],0,[(.int .i64)]⟩),(.exit 0,⟨[],[],[],1,[],0,[]⟩)]
def OL (N:Nat) (k:Nat) (x:(List (Int))×(Int)×(Int)×Int):Option ((Int)⊕(Unit)):=bJ (aL (E0 N) ak 0 3 (bz t144 3) AE AF) k x
def pM (N:Nat):Nat→(List (Int))×(Int)×(Int)×Int→Option ((Int)⊕(Unit))
 |0,_=>none
 |k+1,(v0,v1,v2,v3)=>(bif (decide (v3<v2))
 then (Option.bind (idx v0 v3) fun x4=>
 (bif (v1==x4)
 then some (Sum.inl v3)
 else pM N k (v0,v1,v2,(aH (v3+(1:Int))))))
 else some (Sum.inr ()))
theorem mV (N:Nat):∀ k,pM N k=OL N k
 |0=>rfl
 |k+1=>funext fun⟨v0,v1,v2,v3⟩=>by rw[pM,mV N k];kernel_rfl
def E1 (N:Nat):aA:=(E0 N).aj N 0 3 AE AF
theorem gI (N:Nat):aC aP (E1 N):=(cC N).aj N 0 3 AE AF
end f144
open f144 in
def S7 (N:Nat):(List (Int))×Int→Option (Int)
 |(p0,p1)=>(Option.bind (pM N N (p0,p1,(p0.length:Int),(0:Int))) fun y5=>
 (match y5 with
 |.inl a6=>some a6
 |.inr b7=>some (-1:Int)))
theorem S8 (N:Nat):S7 N=bC (f144.E1 N) ak 144 f144.args f144.ta f144.res f144.tr 0:=funext fun⟨p0,p1⟩=>by rw[S7,f144.mV N N];kernel_rfl
def ab4 (N:Nat):Sym.Callee:=⟨f144.args,f144.ta,f144.res,f144.tr,0,S7 N⟩
theorem ab5 (N:Nat):bt aP 144 (ab4 N):=(bF (f144.gI N) ak 144 f144.args f144.ta f144.res f144.tr 0).plain (S8 N)
namespace f122
def args:List dJ:=[.c (.sl (.int .u8) .aJ),.c (.int .u8)]
def ta:List Ty:=[(.sl (.int .u8)),(.int .u8)]
def res:List (Bool×List cG):=[(false,[.bool])]
def tr:List Ty:=[.bool]
def E0 (N:Nat):aA:=(aA.base aP aX aY aO cq bT).aa 144 (ab4 N)
theorem cC (N:Nat):aC aP (E0 N):=(aQ aP aX aY aO cq bT).aa (ab5 N)
end f122
open f122 in
def S9 (N:Nat):(List (Int))×Int→Option (Bool)
 |(p0,p1)=>(Option.bind (S7 N (p0,p1)) fun y0=>
 some (decide (y0≥(0:Int))))
theorem Ta (N:Nat):S9 N=bC (f122.E0 N) ak 122 f122.args f122.ta f122.res f122.tr 0:=funext fun⟨p0,p1⟩=>by rw[S9];kernel_rfl
def ab6 (N:Nat):Sym.Callee:=⟨f122.args,f122.ta,f122.res,f122.tr,0,S9 N⟩
theorem ab7 (N:Nat):bt aP 122 (ab6 N):=(bF (f122.cC N) ak 122 f122.args f122.ta f122.res f122.tr 0).plain (Ta N)
namespace f85
def aO:Nat→Nat→Option (Nat×Ty):=fun c i=>match c,i with
 |0,1=>some (6,.bool)
 |_,_=>none
def args:List dJ:=[.agg [.sl ai .aJ,.sl .str .aJ,.sl aG .aJ,.str,.int .i64,.int .i64,.sl av .aJ,.sl ah .aJ,.sl aD .aJ,.sl aD .aJ],.c (.int .i64),.c (.sl (.int .u8) .aJ)]
def ta:List Ty:=[(.sl ai),(.sl .str),(.sl aG),.str,(.int .i64),(.int .i64),(.sl av),(.sl ah),(.sl aD),(.sl aD),(.int .i64),(.sl (.int .u8))]
def res:List (Bool×List cG):=[(false,[.bool])]
def tr:List Ty:=[.bool]
def E0 (N:Nat):aA:=(aA.base aP aX aY aO cq bT).aa 122 (ab6 N)
theorem cC (N:Nat):aC aP (E0 N):=(aQ aP aX aY aO cq bT).aa (ab7 N)
end f85
open f85 in
def vZ (N:Nat):(List (aq))×(List (List UInt8))×(List (Func))×(List UInt8)×(Int)×(Int)×(List (Field))×(List (Instr))×(List (bD))×(List (bD))×(Int)×List (Int)→Option (Bool)
 |(p0,p1,p2,p3,p4,p5,p6,p7,p8,p9,ji,tf)=>(Option.bind ((bif (decide (ji≥(0:Int)))
 then (Option.bind (idx p0 ji) fun x0=>
 (Option.bind (S9 N (tf,x0.1)) fun y1=>
 some y1))
 else some false)) fun b2=>
 some b2)
theorem Xi (N:Nat):vZ N=bC (f85.E0 N) ak 85 f85.args f85.ta f85.res f85.tr 0:=funext fun⟨p0,p1,p2,p3,p4,p5,p6,p7,p8,p9,ji,tf⟩=>by rw[vZ];kernel_rfl
def c85 (N:Nat):Sym.Callee:=⟨f85.args,f85.ta,f85.res,f85.tr,0,vZ N⟩
theorem Tc (N:Nat):bt aP 85 (c85 N):=(bF (f85.cC N) ak 85 f85.args f85.ta f85.res f85.tr 0).plain (Xi N)
namespace f87
def args:List dJ:=[.agg [.sl ai .aJ,.sl .str .aJ,.sl aG .aJ,.str,.int .i64,.int .i64,.sl av .aJ,.sl ah .aJ,.sl aD .aJ,.sl aD .aJ],.c (.int .i64),.c (.int .i64),.c (.int .i64)]
def ta:List Ty:=[(.sl ai),(.sl .str),(.sl aG),.str,(.int .i64),(.int .i64),(.sl av),(.sl ah),(.sl aD),(.sl aD),(.int .i64),(.int .i64),(.int .i64)]
def res:List (Bool×List cG):=[(false,[.bool])]
def tr:List Ty:=[.bool]
def E0 (N:Nat):aA:=((aA.base aP aX aY aO cq bT).aa 85 (c85 N)).aa 78 (c78 N)
theorem cC (N:Nat):aC aP (E0 N):=((aQ aP aX aY aO cq bT).aa (Tc N)).aa (Xc N)
end f87
open f87 in
def F87 (N:Nat):(List (aq))×(List (List UInt8))×(List (Func))×(List UInt8)×(Int)×(Int)×(List (Field))×(List (Instr))×(List (bD))×(List (bD))×(Int)×(Int)×Int→Option (Bool)
 |(p0,p1,p2,p3,p4,p5,p6,p7,p8,p9,ji,tf,yK)=>(Option.bind (vZ N (p0,p1,p2,p3,p4,p5,p6,p7,p8,p9,ji,[(5:Int)])) fun y0=>
 (bif y0
 then (Option.bind (idx p0 ji) fun x1=>
 (Option.bind (Zd N (x1.2.2.2,tf)) fun y2=>
 (bif y2
 then (Option.bind (idx p0 ji) fun x3=>
 (Option.bind (idx x3.2.2.2 tf) fun x4=>
 some (x4.2==yK)))
 else some false)))
 else some false))
theorem Xj (N:Nat):F87 N=bC (f87.E0 N) ak 87 f87.args f87.ta f87.res f87.tr 0:=funext fun⟨p0,p1,p2,p3,p4,p5,p6,p7,p8,p9,ji,tf,yK⟩=>by rw[F87];kernel_rfl
def c87 (N:Nat):Sym.Callee:=⟨f87.args,f87.ta,f87.res,f87.tr,0,F87 N⟩
theorem afq (N:Nat):bt aP 87 (c87 N):=(bF (f87.cC N) ak 87 f87.args f87.ta f87.res f87.tr 0).plain (Xj N)
namespace f88
def aO:Nat→Nat→Option (Nat×Ty):=fun c i=>match c,i with
 |0,1=>some (8,.bool)
 |_,_=>none
def args:List dJ:=[.agg [.sl ai .aJ,.sl .str .aJ,.sl aG .aJ,.str,.int .i64,.int .i64,.sl av .aJ,.sl ah .aJ,.sl aD .aJ,.sl aD .aJ],.c (.int .i64),.c (.int .i64),.c (.sl (.int .u8) .aJ)]
def ta:List Ty:=[(.sl ai),(.sl .str),(.sl aG),.str,(.int .i64),(.int .i64),(.sl av),(.sl ah),(.sl aD),(.sl aD),(.int .i64),(.int .i64),(.sl (.int .u8))]
def res:List (Bool×List cG):=[(false,[.bool])]
def tr:List Ty:=[.bool]
def E0 (N:Nat):aA:=(aA.base aP aX aY aO cq bT).aa 85 (c85 N)
theorem cC (N:Nat):aC aP (E0 N):=(aQ aP aX aY aO cq bT).aa (Tc N)
end f88
open f88 in
def Xk (N:Nat):(List (aq))×(List (List UInt8))×(List (Func))×(List UInt8)×(Int)×(Int)×(List (Field))×(List (Instr))×(List (bD))×(List (bD))×(Int)×(Int)×List (Int)→Option (Bool)
 |(p0,p1,p2,p3,p4,p5,p6,p7,p8,p9,ji,tf,yK)=>(Option.bind ((Option.bind (vZ N (p0,p1,p2,p3,p4,p5,p6,p7,p8,p9,ji,yK)) fun y0=>
 (bif y0
 then (Option.bind (idx p0 ji) fun x1=>
 some (x1.2.1==tf))
 else some false))) fun b2=>
 some b2)
theorem Xl (N:Nat):Xk N=bC (f88.E0 N) ak 88 f88.args f88.ta f88.res f88.tr 0:=funext fun⟨p0,p1,p2,p3,p4,p5,p6,p7,p8,p9,ji,tf,yK⟩=>by rw[Xk];kernel_rfl
def c88 (N:Nat):Sym.Callee:=⟨f88.args,f88.ta,f88.res,f88.tr,0,Xk N⟩
theorem afr (N:Nat):bt aP 88 (c88 N):=(bF (f88.cC N) ak 88 f88.args f88.ta f88.res f88.tr 0).plain (Xl N)
namespace f89
def args:List dJ:=[.agg [.sl ai .aJ,.sl .str .aJ,.sl aG .aJ,.str,.int .i64,.int .i64,.sl av .aJ,.sl ah .aJ,.sl aD .aJ,.sl aD .aJ],.agg [.str,.int .i64,.int .i64,.sl av .aJ,.sl ah .aJ,.sl aD .aJ,.sl aD .aJ]]
def ta:List Ty:=[(.sl ai),(.sl .str),(.sl aG),.str,(.int .i64),(.int .i64),(.sl av),(.sl ah),(.sl aD),(.sl aD),.str,(.int .i64),(.int .i64),(.sl av),(.sl ah),(.sl aD),(.sl aD)]
def res:List (Bool×List cG):=[(false,[.bool])]
def tr:List Ty:=[.bool]
def E0 (N:Nat):aA:=(aA.base aP aX aY aO cq bT).aa 85 (c85 N)
theorem cC (N:Nat):aC aP (E0 N):=(aQ aP aX aY aO cq bT).aa (Tc N)
end f89
open f89 in
def F89 (N:Nat):(List (aq))×(List (List UInt8))×(List (Func))×(List UInt8)×(Int)×(Int)×(List (Field))×(List (Instr))×(List (bD))×(List (bD))×(List UInt8)×(Int)×(Int)×(List (Field))×(List (Instr))×(List (bD))×List (bD)→Option (Bool)
 |(p0,p1,p2,p3,p4,p5,p6,p7,p8,p9,ji,tf,yK,GR,p14,p15,p16)=>(bif (decide (yK<(0:Int)))
 then (bif (tf==(0:Int))
 then some true
 else (bif (tf==(1:Int))
 then (Option.bind (idx GR (0:Int)) fun x0=>
 (Option.bind (vZ N (p0,p1,p2,p3,p4,p5,p6,p7,p8,p9,x0.2,[(1:Int),(2:Int),(4:Int)])) fun y1=>
 some y1))
 else some false))
 else some false)
theorem Xm (N:Nat):F89 N=bC (f89.E0 N) ak 89 f89.args f89.ta f89.res f89.tr 0:=funext fun⟨p0,p1,p2,p3,p4,p5,p6,p7,p8,p9,ji,tf,yK,GR,p14,p15,p16⟩=>by rw[F89];kernel_rfl
def c89 (N:Nat):Sym.Callee:=⟨f89.args,f89.ta,f89.res,f89.tr,0,F89 N⟩
theorem afs (N:Nat):bt aP 89 (c89 N):=(bF (f89.cC N) ak 89 f89.args f89.ta f89.res f89.tr 0).plain (Xm N)
namespace f52
def aO:Nat→Nat→Option (Nat×Ty):=fun c i=>match c,i with
 |0,7=>some (26,.bool)
 |0,15=>some (39,.bool)
 |0,27=>some (50,.bool)
 |0,25=>some (50,.bool)
 |0,23=>some (50,.bool)
 |0,69=>some (4,.bool)
 |0,71=>some (202,.bool)
 |0,79=>some (220,.bool)
 |0,85=>some (4,.bool)
 |_,_=>none
def bT:Nat→Nat→Option Ty:=fun c d=>match c,d with
 |0,31=>some (.int .i64)
 |0,59=>some (.int .i64)
 |0,70=>some (.int .i64)
 |0,144=>some (.int .i64)
 |0,157=>some (.int .i64)
 |0,170=>some (.int .i64)
 |0,177=>some (.int .i64)
 |0,229=>some (.int .i64)
 |_,_=>none
def args:List dJ:=[.agg [.sl ai .aJ,.sl .str .aJ,.sl aG .aJ,.str,.int .i64,.int .i64,.sl av .aJ,.sl ah .aJ,.sl aD .aJ,.sl aD .aJ],.agg [.int .u8,.int .i64,.int .i64,.int .i64]]
def ta:List Ty:=[(.sl ai),(.sl .str),(.sl aG),.str,(.int .i64),(.int .i64),(.sl av),(.sl ah),(.sl aD),(.sl aD),(.int .u8),(.int .i64),(.int .i64),(.int .i64)]
def res:List (Bool×List cG):=[(false,[.bool])]
def tr:List Ty:=[.bool]
def E0 (N:Nat):aA:=(((((aA.base aP aX aY aO cq bT).aa 81 (c81 N)).aa 85 (c85 N)).aa 87 (c87 N)).aa 88 (c88 N)).aa 89 (c89 N)
theorem cC (N:Nat):aC aP (E0 N):=(((((aQ aP aX aY aO cq bT).aa (ab3 N)).aa (Tc N)).aa (afq N)).aa (afr N)).aa (afs N)
def gm:cw:=⟨[(0,.c (.sl (.int .i64) .full)),(1,.fV 84 [.ptr 0 2 0 0 0]),(7,.c (.int .i64)),(8,.c (.int .i64))],[[],[],[]],[(0,2,.box 0 [.sl ai .aJ,.sl .str .aJ,.sl aG .aJ,.str,.int .i64,.int .i64,.sl av .aJ,.sl ah .aJ,.sl aD .aJ,.sl aD .aJ])],4,[],1,[(.sl (.int .i64)),(.int .i64),(.int .i64),(.sl ai),(.sl .str),(.sl aG),.str,(.int .i64),(.int .i64),(.sl av),(.sl ah),(.sl aD),(.sl aD)]⟩
def gp:ck:=[(.ret,⟨[(4,.c (.int .i64))],[[],[],[]],[],4,[],0,[(.int .i64)]⟩),(.exit 0,⟨[],[[],[],[]],[],4,[],0,[]⟩)]
def oR (N:Nat) (k:Nat) (x:(List (Int))×(Int)×(Int)×(List (aq))×(List (List UInt8))×(List (Func))×(List UInt8)×(Int)×(Int)×(List (Field))×(List (Instr))×(List (bD))×List (bD)):Option ((Int)⊕(Unit)):=bJ (aL (E0 N) ak 1032001006001007000 3 (bz t121 3) gm gp) k x
def ei (N:Nat):Nat→(List (Int))×(Int)×(Int)×(List (aq))×(List (List UInt8))×(List (Func))×(List UInt8)×(Int)×(Int)×(List (Field))×(List (Instr))×(List (bD))×List (bD)→Option ((Int)⊕(Unit))
 |0,_=>none
 |k+1,(v4,v5,v6,v7,v8,v9,v10,v11,v12,mJ,lU,rZ,r6)=>(bif (decide (v6<v5))
 then (Option.bind (idx v4 v6) fun Y7=>
 (Option.bind (vZ N (v7,v8,v9,v10,v11,v12,mJ,lU,rZ,r6,Y7,[(2:Int)])) fun GM=>
 (bif (!GM)
 then some (Sum.inl v6)
 else ei N k (v4,v5,(aH (v6+(1:Int))),v7,v8,v9,v10,v11,v12,mJ,lU,rZ,r6))))
 else some (Sum.inr ()))
theorem iP (N:Nat):∀ k,ei N k=oR N k
 |0=>rfl
 |k+1=>funext fun⟨v4,v5,v6,v7,v8,v9,v10,v11,v12,mJ,lU,rZ,r6⟩=>by rw[ei,iP N k];kernel_rfl
def E1 (N:Nat):aA:=(E0 N).aj N 1032001006001007000 3 gm gp
theorem gI (N:Nat):aC aP (E1 N):=(cC N).aj N 1032001006001007000 3 gm gp
def gq:cw:=⟨[(0,.c (.sl (.int .i64) .full)),(1,.fV 84 [.ptr 0 2 0 0 0]),(7,.c (.int .i64)),(8,.c (.int .i64))],[[],[],[]],[(0,2,.box 0 [.sl ai .aJ,.sl .str .aJ,.sl aG .aJ,.str,.int .i64,.int .i64,.sl av .aJ,.sl ah .aJ,.sl aD .aJ,.sl aD .aJ])],4,[],1,[(.sl (.int .i64)),(.int .i64),(.int .i64),(.sl ai),(.sl .str),(.sl aG),.str,(.int .i64),(.int .i64),(.sl av),(.sl ah),(.sl aD),(.sl aD)]⟩
def gr:ck:=[(.ret,⟨[(4,.c (.int .i64))],[[],[],[]],[],4,[],0,[(.int .i64)]⟩),(.exit 0,⟨[],[[],[],[]],[],4,[],0,[]⟩)]
def oS (N:Nat) (k:Nat) (x:(List (Int))×(Int)×(Int)×(List (aq))×(List (List UInt8))×(List (Func))×(List UInt8)×(Int)×(Int)×(List (Field))×(List (Instr))×(List (bD))×List (bD)):Option ((Int)⊕(Unit)):=bJ (aL (E1 N) ak 1060001006001007000 3 (bz t121 3) gq gr) k x
def eo (N:Nat):Nat→(List (Int))×(Int)×(Int)×(List (aq))×(List (List UInt8))×(List (Func))×(List UInt8)×(Int)×(Int)×(List (Field))×(List (Instr))×(List (bD))×List (bD)→Option ((Int)⊕(Unit))
 |0,_=>none
 |k+1,(v28,vW,v30,v31,yI,vX,s7,rN,BL,v37,Mn,KA,v40)=>(bif (decide (v30<vW))
 then (Option.bind (idx v28 v30) fun UE=>
 (Option.bind (vZ N (v31,yI,vX,s7,rN,BL,v37,Mn,KA,v40,UE,[(2:Int)])) fun y42=>
 (bif (!y42)
 then some (Sum.inl v30)
 else eo N k (v28,vW,(aH (v30+(1:Int))),v31,yI,vX,s7,rN,BL,v37,Mn,KA,v40))))
 else some (Sum.inr ()))
theorem iQ (N:Nat):∀ k,eo N k=oS N k
 |0=>rfl
 |k+1=>funext fun⟨v28,vW,v30,v31,yI,vX,s7,rN,BL,v37,Mn,KA,v40⟩=>by rw[eo,iQ N k];kernel_rfl
def E2 (N:Nat):aA:=(E1 N).aj N 1060001006001007000 3 gq gr
theorem AM (N:Nat):aC aP (E2 N):=(gI N).aj N 1060001006001007000 3 gq gr
def gu:cw:=⟨[(0,.c (.sl (.int .i64) .full)),(1,.fV 84 [.ptr 0 2 0 0 0]),(7,.c (.int .i64)),(8,.c (.int .i64))],[[],[],[]],[(0,2,.box 0 [.sl ai .aJ,.sl .str .aJ,.sl aG .aJ,.str,.int .i64,.int .i64,.sl av .aJ,.sl ah .aJ,.sl aD .aJ,.sl aD .aJ])],4,[],1,[(.sl (.int .i64)),(.int .i64),(.int .i64),(.sl ai),(.sl .str),(.sl aG),.str,(.int .i64),(.int .i64),(.sl av),(.sl ah),(.sl aD),(.sl aD)]⟩
def gv:ck:=[(.ret,⟨[(4,.c (.int .i64))],[[],[],[]],[],4,[],0,[(.int .i64)]⟩),(.exit 0,⟨[],[[],[],[]],[],4,[],0,[]⟩)]
def oT (N:Nat) (k:Nat) (x:(List (Int))×(Int)×(Int)×(List (aq))×(List (List UInt8))×(List (Func))×(List UInt8)×(Int)×(Int)×(List (Field))×(List (Instr))×(List (bD))×List (bD)):Option ((Int)⊕(Unit)):=bJ (aL (E2 N) ak 1071001006001007000 3 (bz t121 3) gu gv) k x
def ep (N:Nat):Nat→(List (Int))×(Int)×(Int)×(List (aq))×(List (List UInt8))×(List (Func))×(List UInt8)×(Int)×(Int)×(List (Field))×(List (Instr))×(List (bD))×List (bD)→Option ((Int)⊕(Unit))
 |0,_=>none
 |k+1,(UF,O2,v49,Uz,v51,O3,v53,O4,O5,O6,O7,O8,v59)=>(bif (decide (v49<O2))
 then (Option.bind (idx UF v49) fun x60=>
 (Option.bind (vZ N (Uz,v51,O3,v53,O4,O5,O6,O7,O8,v59,x60,[(2:Int)])) fun y61=>
 (bif (!y61)
 then some (Sum.inl v49)
 else ep N k (UF,O2,(aH (v49+(1:Int))),Uz,v51,O3,v53,O4,O5,O6,O7,O8,v59))))
 else some (Sum.inr ()))
theorem iR (N:Nat):∀ k,ep N k=oT N k
 |0=>rfl
 |k+1=>funext fun⟨UF,O2,v49,Uz,v51,O3,v53,O4,O5,O6,O7,O8,v59⟩=>by rw[ep,iR N k];kernel_rfl
def E3 (N:Nat):aA:=(E2 N).aj N 1071001006001007000 3 gu gv
theorem IW (N:Nat):aC aP (E3 N):=(AM N).aj N 1071001006001007000 3 gu gv
def gw:cw:=⟨[(0,.c (.sl (.int .i64) .full)),(1,.fV 84 [.ptr 0 2 0 0 0]),(7,.c (.int .i64)),(8,.c (.int .i64))],[[],[],[]],[(0,2,.box 0 [.sl ai .aJ,.sl .str .aJ,.sl aG .aJ,.str,.int .i64,.int .i64,.sl av .aJ,.sl ah .aJ,.sl aD .aJ,.sl aD .aJ])],4,[],1,[(.sl (.int .i64)),(.int .i64),(.int .i64),(.sl ai),(.sl .str),(.sl aG),.str,(.int .i64),(.int .i64),(.sl av),(.sl ah),(.sl aD),(.sl aD)]⟩
def gx:ck:=[(.ret,⟨[(4,.c (.int .i64))],[[],[],[]],[],4,[],0,[(.int .i64)]⟩),(.exit 0,⟨[],[[],[],[]],[],4,[],0,[]⟩)]
def oU (N:Nat) (k:Nat) (x:(List (Int))×(Int)×(Int)×(List (aq))×(List (List UInt8))×(List (Func))×(List UInt8)×(Int)×(Int)×(List (Field))×(List (Instr))×(List (bD))×List (bD)):Option ((Int)⊕(Unit)):=bJ (aL (E3 N) ak 1145001006001007000 3 (bz t121 3) gw gx) k x
def eu (N:Nat):Nat→(List (Int))×(Int)×(Int)×(List (aq))×(List (List UInt8))×(List (Func))×(List UInt8)×(Int)×(Int)×(List (Field))×(List (Instr))×(List (bD))×List (bD)→Option ((Int)⊕(Unit))
 |0,_=>none
 |k+1,(v75,v76,v77,v78,v79,v80,WZ,UA,S3,Y9,v85,Za,v87)=>(bif (decide (v77<v76))
 then (Option.bind (idx v75 v77) fun x88=>
 (Option.bind (vZ N (v78,v79,v80,WZ,UA,S3,Y9,v85,Za,v87,x88,[(2:Int)])) fun y89=>
 (bif (!y89)
 then some (Sum.inl v77)
 else eu N k (v75,v76,(aH (v77+(1:Int))),v78,v79,v80,WZ,UA,S3,Y9,v85,Za,v87))))
 else some (Sum.inr ()))
theorem iS (N:Nat):∀ k,eu N k=oU N k
 |0=>rfl
 |k+1=>funext fun⟨v75,v76,v77,v78,v79,v80,WZ,UA,S3,Y9,v85,Za,v87⟩=>by rw[eu,iS N k];kernel_rfl
def E4 (N:Nat):aA:=(E3 N).aj N 1145001006001007000 3 gw gx
theorem ok4 (N:Nat):aC aP (E4 N):=(IW N).aj N 1145001006001007000 3 gw gx
def gy:cw:=⟨[(0,.c (.sl (.int .i64) .full)),(1,.fV 84 [.ptr 0 2 0 0 0]),(7,.c (.int .i64)),(8,.c (.int .i64))],[[],[],[]],[(0,2,.box 0 [.sl ai .aJ,.sl .str .aJ,.sl aG .aJ,.str,.int .i64,.int .i64,.sl av .aJ,.sl ah .aJ,.sl aD .aJ,.sl aD .aJ])],4,[],1,[(.sl (.int .i64)),(.int .i64),(.int .i64),(.sl ai),(.sl .str),(.sl aG),.str,(.int .i64),(.int .i64),(.sl av),(.sl ah),(.sl aD),(.sl aD)]⟩
def gz:ck:=[(.ret,⟨[(4,.c (.int .i64))],[[],[],[]],[],4,[],0,[(.int .i64)]⟩),(.exit 0,⟨[],[[],[],[]],[],4,[],0,[]⟩)]
def oV (N:Nat) (k:Nat) (x:(List (Int))×(Int)×(Int)×(List (aq))×(List (List UInt8))×(List (Func))×(List UInt8)×(Int)×(Int)×(List (Field))×(List (Instr))×(List (bD))×List (bD)):Option ((Int)⊕(Unit)):=bJ (aL (E4 N) ak 1158001006001007000 3 (bz t121 3) gy gz) k x
def ew (N:Nat):Nat→(List (Int))×(Int)×(Int)×(List (aq))×(List (List UInt8))×(List (Func))×(List UInt8)×(Int)×(Int)×(List (Field))×(List (Instr))×(List (bD))×List (bD)→Option ((Int)⊕(Unit))
 |0,_=>none
 |k+1,(v94,v95,v96,v97,v98,v99,Xn,Xo,Xp,Xq,Xr,v105,Xs)=>(bif (decide (v96<v95))
 then (Option.bind (idx v94 v96) fun afA=>
 (Option.bind (vZ N (v97,v98,v99,Xn,Xo,Xp,Xq,Xr,v105,Xs,afA,[(2:Int)])) fun afB=>
 (bif (!afB)
 then some (Sum.inl v96)
 else ew N k (v94,v95,(aH (v96+(1:Int))),v97,v98,v99,Xn,Xo,Xp,Xq,Xr,v105,Xs))))
 else some (Sum.inr ()))
theorem iT (N:Nat):∀ k,ew N k=oV N k
 |0=>rfl
 |k+1=>funext fun⟨v94,v95,v96,v97,v98,v99,Xn,Xo,Xp,Xq,Xr,v105,Xs⟩=>by rw[ew,iT N k];kernel_rfl
def E5 (N:Nat):aA:=(E4 N).aj N 1158001006001007000 3 gy gz
theorem Y8 (N:Nat):aC aP (E5 N):=(ok4 N).aj N 1158001006001007000 3 gy gz
def gA:cw:=⟨[(0,.c (.sl (.int .i64) .full)),(1,.fV 84 [.ptr 0 2 0 0 0]),(7,.c (.int .i64)),(8,.c (.int .i64))],[[],[],[]],[(0,2,.box 0 [.sl ai .aJ,.sl .str .aJ,.sl aG .aJ,.str,.int .i64,.int .i64,.sl av .aJ,.sl ah .aJ,.sl aD .aJ,.sl aD .aJ])],4,[],1,[(.sl (.int .i64)),(.int .i64),(.int .i64),(.sl ai),(.sl .str),(.sl aG),.str,(.int .i64),(.int .i64),(.sl av),(.sl ah),(.sl aD),(.sl aD)]⟩
def gB:ck:=[(.ret,⟨[(4,.c (.int .i64))],[[],[],[]],[],4,[],0,[(.int .i64)]⟩),(.exit 0,⟨[],[[],[],[]],[],4,[],0,[]⟩)]
def oW (N:Nat) (k:Nat) (x:(List (Int))×(Int)×(Int)×(List (aq))×(List (List UInt8))×(List (Func))×(List UInt8)×(Int)×(Int)×(List (Field))×(List (Instr))×(List (bD))×List (bD)):Option ((Int)⊕(Unit)):=bJ (aL (E5 N) ak 1171001006001007000 3 (bz t121 3) gA gB) k x
def ez (N:Nat):Nat→(List (Int))×(Int)×(Int)×(List (aq))×(List (List UInt8))×(List (Func))×(List UInt8)×(Int)×(Int)×(List (Field))×(List (Instr))×(List (bD))×List (bD)→Option ((Int)⊕(Unit))
 |0,_=>none
 |k+1,(Xt,Xu,Pb,Xv,v117,Xw,Xx,Xy,Xz,XA,XB,v124,XC)=>(bif (decide (Pb<Xu))
 then (Option.bind (idx Xt Pb) fun afC=>
 (Option.bind (vZ N (Xv,v117,Xw,Xx,Xy,Xz,XA,XB,v124,XC,afC,[(2:Int)])) fun afD=>
 (bif (!afD)
 then some (Sum.inl Pb)
 else ez N k (Xt,Xu,(aH (Pb+(1:Int))),Xv,v117,Xw,Xx,Xy,Xz,XA,XB,v124,XC))))
 else some (Sum.inr ()))
theorem iU (N:Nat):∀ k,ez N k=oW N k
 |0=>rfl
 |k+1=>funext fun⟨Xt,Xu,Pb,Xv,v117,Xw,Xx,Xy,Xz,XA,XB,v124,XC⟩=>by rw[ez,iU N k];kernel_rfl
def E6 (N:Nat):aA:=(E5 N).aj N 1171001006001007000 3 gA gB
theorem ok6 (N:Nat):aC aP (E6 N):=(Y8 N).aj N 1171001006001007000 3 gA gB
def gC:cw:=⟨[(0,.c (.sl (.int .i64) .full)),(1,.fV 84 [.ptr 0 2 0 0 0]),(7,.c (.int .i64)),(8,.c (.int .i64))],[[],[],[(2,.c (.ptr 0 2 0 0 0))]],[(0,2,.box 0 [.sl ai .aJ,.sl .str .aJ,.sl aG .aJ,.str,.int .i64,.int .i64,.sl av .aJ,.sl ah .aJ,.sl aD .aJ,.sl aD .aJ])],4,[],1,[(.sl (.int .i64)),(.int .i64),(.int .i64),(.sl ai),(.sl .str),(.sl aG),.str,(.int .i64),(.int .i64),(.sl av),(.sl ah),(.sl aD),(.sl aD)]⟩
def gD:ck:=[(.ret,⟨[(4,.c (.int .i64))],[[],[],[(2,.c (.ptr 0 2 0 0 0))]],[(0,2,.box 0 [.sl ai .aJ,.sl .str .aJ,.sl aG .aJ,.str,.int .i64,.int .i64,.sl av .aJ,.sl ah .aJ,.sl aD .aJ,.sl aD .aJ])],4,[],1,[(.int .i64),(.sl ai),(.sl .str),(.sl aG),.str,(.int .i64),(.int .i64),(.sl av),(.sl ah),(.sl aD),(.sl aD)]⟩),(.exit 0,⟨[],[[],[],[(2,.c (.ptr 0 2 0 0 0))]],[(0,2,.box 0 [.sl ai .aJ,.sl .str .aJ,.sl aG .aJ,.str,.int .i64,.int .i64,.sl av .aJ,.sl ah .aJ,.sl aD .aJ,.sl aD .aJ])],4,[],1,[(.sl ai),(.sl .str),(.sl aG),.str,(.int .i64),(.int .i64),(.sl av),(.sl ah),(.sl aD),(.sl aD)]⟩)]
def oX (N:Nat) (k:Nat) (x:(List (Int))×(Int)×(Int)×(List (aq))×(List (List UInt8))×(List (Func))×(List UInt8)×(Int)×(Int)×(List (Field))×(List (Instr))×(List (bD))×List (bD)):Option (((Int)×(List (aq))×(List (List UInt8))×(List (Func))×(List UInt8)×(Int)×(Int)×(List (Field))×(List (Instr))×(List (bD))×List (bD))⊕((List (aq))×(List (List UInt8))×(List (Func))×(List UInt8)×(Int)×(Int)×(List (Field))×(List (Instr))×(List (bD))×List (bD))):=bJ (aL (E6 N) ak 1178001006001007000 3 (bz t121 3) gC gD) k x
def eA (N:Nat):Nat→(List (Int))×(Int)×(Int)×(List (aq))×(List (List UInt8))×(List (Func))×(List UInt8)×(Int)×(Int)×(List (Field))×(List (Instr))×(List (bD))×List (bD)→Option (((Int)×(List (aq))×(List (List UInt8))×(List (Func))×(List UInt8)×(Int)×(Int)×(List (Field))×(List (Instr))×(List (bD))×List (bD))⊕((List (aq))×(List (List UInt8))×(List (Func))×(List UInt8)×(Int)×(Int)×(List (Field))×(List (Instr))×(List (bD))×List (bD)))
 |0,_=>none
 |k+1,(v131,XD,Pc,Pd,Pe,Pf,Pg,v138,v139,Ph,v141,Pj,v143)=>(bif (decide (Pc<XD))
 then (Option.bind (idx v131 Pc) fun afE=>
 (Option.bind (vZ N (Pd,Pe,Pf,Pg,v138,v139,Ph,v141,Pj,v143,afE,[(2:Int)])) fun afF=>
 (bif (!afF)
 then some (Sum.inl (Pc,Pd,Pe,Pf,Pg,v138,v139,Ph,v141,Pj,v143))
 else eA N k (v131,XD,(aH (Pc+(1:Int))),Pd,Pe,Pf,Pg,v138,v139,Ph,v141,Pj,v143))))
 else some (Sum.inr (Pd,Pe,Pf,Pg,v138,v139,Ph,v141,Pj,v143)))
theorem iV (N:Nat):∀ k,eA N k=oX N k
 |0=>rfl
 |k+1=>funext fun⟨v131,XD,Pc,Pd,Pe,Pf,Pg,v138,v139,Ph,v141,Pj,v143⟩=>by rw[eA,iV N k];kernel_rfl
def E7 (N:Nat):aA:=(E6 N).aj N 1178001006001007000 3 gC gD
theorem W0 (N:Nat):aC aP (E7 N):=(ok6 N).aj N 1178001006001007000 3 gC gD
def gE:cw:=⟨[(0,.c (.sl (.int .i64) .full)),(1,.fV 84 [.ptr 0 2 0 0 0]),(7,.c (.int .i64)),(8,.c (.int .i64))],[[],[],[]],[(0,2,.box 0 [.sl ai .aJ,.sl .str .aJ,.sl aG .aJ,.str,.int .i64,.int .i64,.sl av .aJ,.sl ah .aJ,.sl aD .aJ,.sl aD .aJ])],4,[],1,[(.sl (.int .i64)),(.int .i64),(.int .i64),(.sl ai),(.sl .str),(.sl aG),.str,(.int .i64),(.int .i64),(.sl av),(.sl ah),(.sl aD),(.sl aD)]⟩
def gF:ck:=[(.ret,⟨[(4,.c (.int .i64))],[[],[],[]],[],4,[],0,[(.int .i64)]⟩),(.exit 0,⟨[],[[],[],[]],[],4,[],0,[]⟩)]
def oY (N:Nat) (k:Nat) (x:(List (Int))×(Int)×(Int)×(List (aq))×(List (List UInt8))×(List (Func))×(List UInt8)×(Int)×(Int)×(List (Field))×(List (Instr))×(List (bD))×List (bD)):Option ((Int)⊕(Unit)):=bJ (aL (E7 N) ak 1230001006001007000 3 (bz t121 3) gE gF) k x
def eB (N:Nat):Nat→(List (Int))×(Int)×(Int)×(List (aq))×(List (List UInt8))×(List (Func))×(List UInt8)×(Int)×(Int)×(List (Field))×(List (Instr))×(List (bD))×List (bD)→Option ((Int)⊕(Unit))
 |0,_=>none
 |k+1,(v159,v160,Pk,v162,XE,v164,XF,XG,v167,v168,XH,XI,v171)=>(bif (decide (Pk<v160))
 then (Option.bind (idx v159 Pk) fun afG=>
 (Option.bind (vZ N (v162,XE,v164,XF,XG,v167,v168,XH,XI,v171,afG,[(2:Int)])) fun afH=>
 (bif (!afH)
 then some (Sum.inl Pk)
 else eB N k (v159,v160,(aH (Pk+(1:Int))),v162,XE,v164,XF,XG,v167,v168,XH,XI,v171))))
 else some (Sum.inr ()))
theorem iW (N:Nat):∀ k,eB N k=oY N k
 |0=>rfl
 |k+1=>funext fun⟨v159,v160,Pk,v162,XE,v164,XF,XG,v167,v168,XH,XI,v171⟩=>by rw[eB,iW N k];kernel_rfl
def E8 (N:Nat):aA:=(E7 N).aj N 1230001006001007000 3 gE gF
theorem ok8 (N:Nat):aC aP (E8 N):=(W0 N).aj N 1230001006001007000 3 gE gF
end f52
open f52 in
def Zf (N:Nat):(List (aq))×(List (List UInt8))×(List (Func))×(List UInt8)×(Int)×(Int)×(List (Field))×(List (Instr))×(List (bD))×(List (bD))×(Int)×(Int)×(Int)×Int→Option (Bool)
 |(p0,p1,p2,p3,p4,p5,p6,p7,p8,p9,ji,tf,yK,GR)=>(Option.bind (Xg N (p0,p1,p2,p3,p4,p5,p6,p7,p8,p9,tf)) fun y0=>
 (Option.bind (Xg N (p0,p1,p2,p3,p4,p5,p6,p7,p8,p9,yK)) fun y1=>
 (Option.bind (Xg N (p0,p1,p2,p3,p4,p5,p6,p7,p8,p9,GR)) fun y2=>
 (Option.bind ((bif (ji==(1:Int))
 then some true
 else some (ji==(32:Int)))) fun b3=>
 (bif b3
 then (Option.bind (ei N N ([y0],(1:Int),(0:Int),p0,p1,p2,p3,p4,p5,p6,p7,p8,p9)) fun xG=>
 (match xG with
 |.inl a20=>some (!(decide (a20≥(0:Int))))
 |.inr b21=>some (!(decide ((-1:Int)≥(0:Int))))))
 else (bif (ji==(2:Int))
 then (Option.bind (vZ N (p0,p1,p2,p3,p4,p5,p6,p7,p8,p9,y0,[(3:Int)])) fun MV=>
 some MV)
 else (Option.bind ((bif (ji==(3:Int))
 then some true
 else some (ji==(23:Int)))) fun b23=>
 (bif b23
 then (Option.bind (vZ N (p0,p1,p2,p3,p4,p5,p6,p7,p8,p9,y0,[(1:Int)])) fun Bt=>
 some Bt)
 else (bif (ji==(5:Int))
 then some (y0==y1)
 else (Option.bind ((bif (ji==(6:Int))
 then some true
 else (Option.bind ((bif (ji==(7:Int))
 then some true
 else (Option.bind ((bif (ji==(8:Int))
 then some true
 else some (ji==(9:Int)))) fun b25=>
 some b25))) fun yJ=>
 some yJ))) fun b27=>
 (bif b27
 then (Option.bind (eo N N ([y0,y1,y2],(3:Int),(0:Int),p0,p1,p2,p3,p4,p5,p6,p7,p8,p9)) fun Y4=>
 (match Y4 with
 |.inl a44=>some (!(decide (a44≥(0:Int))))
 |.inr b45=>some (!(decide ((-1:Int)≥(0:Int))))))
 else (bif (ji==(10:Int))
 then (Option.bind (vZ N (p0,p1,p2,p3,p4,p5,p6,p7,p8,p9,y0,[(1:Int)])) fun QK=>
 (bif QK
 then (Option.bind (ep N N ([y1,y2],(2:Int),(0:Int),p0,p1,p2,p3,p4,p5,p6,p7,p8,p9)) fun KB=>
 (match KB with
 |.inl a63=>some (!(decide (a63≥(0:Int))))
 |.inr b64=>some (!(decide ((-1:Int)≥(0:Int))))))
 else some false))
 else (bif (ji==(11:Int))
 then (Option.bind (vZ N (p0,p1,p2,p3,p4,p5,p6,p7,p8,p9,y0,[(1:Int)])) fun y65=>
 (bif y65
 then (bif (y1==y2)
 then (Option.bind (vZ N (p0,p1,p2,p3,p4,p5,p6,p7,p8,p9,y1,[(2:Int),(1:Int),(4:Int)])) fun y66=>
 some y66)
 else some false)
 else some false))
 else (bif (ji==(12:Int))
 then (Option.bind (vZ N (p0,p1,p2,p3,p4,p5,p6,p7,p8,p9,y0,[(1:Int)])) fun y67=>
 (bif y67
 then (Option.bind (vZ N (p0,p1,p2,p3,p4,p5,p6,p7,p8,p9,y1,[(1:Int)])) fun y68=>
 some y68)
 else some false))
 else (bif (ji==(13:Int))
 then (Option.bind (F87 N (p0,p1,p2,p3,p4,p5,p6,p7,p8,p9,y1,GR,y0)) fun y69=>
 some y69)
 else (bif (ji==(14:Int))
 then (Option.bind (F87 N (p0,p1,p2,p3,p4,p5,p6,p7,p8,p9,y0,yK,y2)) fun y70=>
 some y70)
 else (bif (ji==(15:Int))
 then (Option.bind (vZ N (p0,p1,p2,p3,p4,p5,p6,p7,p8,p9,y0,[(4:Int)])) fun y71=>
 some y71)
 else (bif (ji==(16:Int))
 then (Option.bind (Xk N (p0,p1,p2,p3,p4,p5,p6,p7,p8,p9,y1,y0,[(4:Int)])) fun y72=>
 some y72)
 else (bif (ji==(17:Int))
 then (Option.bind (Xk N (p0,p1,p2,p3,p4,p5,p6,p7,p8,p9,y0,y1,[(4:Int)])) fun y73=>
 some y73)
 else (bif (ji==(18:Int))
 then (Option.bind (vZ N (p0,p1,p2,p3,p4,p5,p6,p7,p8,p9,y0,[(7:Int)])) fun y74=>
 (bif y74
 then (Option.bind (eu N N ([y1],(1:Int),(0:Int),p0,p1,p2,p3,p4,p5,p6,p7,p8,p9)) fun y90=>
 (match y90 with
 |.inl a91=>some (!(decide (a91≥(0:Int))))
 |.inr b92=>some (!(decide ((-1:Int)≥(0:Int))))))
 else some false))
 else (bif (ji==(19:Int))
 then (Option.bind (Xk N (p0,p1,p2,p3,p4,p5,p6,p7,p8,p9,y1,y0,[(7:Int),(6:Int)])) fun y93=>
 (bif y93
 then (Option.bind (ew N N ([y2],(1:Int),(0:Int),p0,p1,p2,p3,p4,p5,p6,p7,p8,p9)) fun afK=>
 (match afK with
 |.inl afL=>some (!(decide (afL≥(0:Int))))
 |.inr ajM=>some (!(decide ((-1:Int)≥(0:Int))))))
 else some false))
 else (bif (ji==(20:Int))
 then (Option.bind (Xk N (p0,p1,p2,p3,p4,p5,p6,p7,p8,p9,y0,y2,[(7:Int),(6:Int)])) fun afM=>
 (bif afM
 then (Option.bind (ez N N ([y1],(1:Int),(0:Int),p0,p1,p2,p3,p4,p5,p6,p7,p8,p9)) fun afN=>
 (match afN with
 |.inl afO=>some (!(decide (afO≥(0:Int))))
 |.inr ajN=>some (!(decide ((-1:Int)≥(0:Int))))))
 else some false))
 else (bif (ji==(21:Int))
 then (Option.bind (eA N N ([y0],(1:Int),(0:Int),p0,p1,p2,p3,p4,p5,p6,p7,p8,p9)) fun afP=>
 (match afP with
 |.inl AU=>(bif (!(decide (AU.1≥(0:Int))))
 then (Option.bind (vZ N (AU.2.1,AU.2.2.1,AU.2.2.2.1,AU.2.2.2.2.1,AU.2.2.2.2.2.1,AU.2.2.2.2.2.2.1,AU.2.2.2.2.2.2.2.1,AU.2.2.2.2.2.2.2.2.1,AU.2.2.2.2.2.2.2.2.2.1,AU.2.2.2.2.2.2.2.2.2.2,y1,[(3:Int),(7:Int),(6:Int)])) fun afQ=>
 some afQ)
 else some false)
 |.inr BM=>(Option.bind (vZ N (BM.1,BM.2.1,BM.2.2.1,BM.2.2.2.1,BM.2.2.2.2.1,BM.2.2.2.2.2.1,BM.2.2.2.2.2.2.1,BM.2.2.2.2.2.2.2.1,BM.2.2.2.2.2.2.2.2.1,BM.2.2.2.2.2.2.2.2.2,y1,[(3:Int),(7:Int),(6:Int)])) fun afR=>
 some afR)))
 else (bif (ji==(25:Int))
 then (Option.bind ((bif (decide (tf<(0:Int)))
 then some true
 else (Option.bind (idx p2 yK) fun afS=>
 some (afS.2.2.1==y0)))) fun afT=>
 some afT)
 else (Option.bind ((bif (ji==(26:Int))
 then some true
 else some (ji==(27:Int)))) fun afU=>
 (bif afU
 then (Option.bind (idx p2 tf) fun I8=>
 (Option.bind (F89 N (p0,p1,p2,p3,p4,p5,p6,p7,p8,p9,I8.1,I8.2.1,I8.2.2.1,I8.2.2.2.1,I8.2.2.2.2.1,I8.2.2.2.2.2.1,I8.2.2.2.2.2.2)) fun afV=>
 some afV))
 else (bif (ji==(28:Int))
 then (Option.bind (vZ N (p0,p1,p2,p3,p4,p5,p6,p7,p8,p9,y0,[(2:Int),(1:Int),(3:Int)])) fun afW=>
 some afW)
 else (Option.bind ((bif (ji==(29:Int))
 then some true
 else some (ji==(33:Int)))) fun afX=>
 (bif afX
 then (Option.bind (vZ N (p0,p1,p2,p3,p4,p5,p6,p7,p8,p9,y0,[(1:Int)])) fun afY=>
 (bif afY
 then (Option.bind (eB N N ([y1],(1:Int),(0:Int),p0,p1,p2,p3,p4,p5,p6,p7,p8,p9)) fun afZ=>
 (match afZ with
 |.inl a175=>some (!(decide (a175≥(0:Int))))
 |.inr ajO=>some (!(decide ((-1:Int)≥(0:Int))))))
 else some false))
 else (bif (ji==(34:Int))
 then (Option.bind ((bif (decide (tf<(0:Int)))
 then some true
 else some (p5==y0))) fun af0=>
 some af0)
 else some true))))))))))))))))))))))))))))))
theorem XJ (N:Nat):Zf N=bC (f52.E8 N) ak 52 f52.args f52.ta f52.res f52.tr 0:=funext fun⟨p0,p1,p2,p3,p4,p5,p6,p7,p8,p9,ji,tf,yK,GR⟩=>by rw[Zf,f52.iP N N,f52.iQ N N,f52.iR N N,f52.iS N N,f52.iT N N,f52.iU N N,f52.iV N N,f52.iW N N];kernel_rfl
def c52 (N:Nat):Sym.Callee:=⟨f52.args,f52.ta,f52.res,f52.tr,0,Zf N⟩
theorem af1 (N:Nat):bt aP 52 (c52 N):=(bF (f52.ok8 N) ak 52 f52.args f52.ta f52.res f52.tr 0).plain (XJ N)
namespace f124
end f124
def af2 (N:Nat) (x:List (Int)):Option (List (Int)):=some x
def c124 (N:Nat):Sym.Callee:=yB (.int .i64)
theorem acf (N:Nat):bt aP 124 (c124 N):=IV (by kernel_rfl)
namespace f125
def aO:Nat→Nat→Option (Nat×Ty):=fun c i=>match c,i with
 |0,1=>some (9,.bool)
 |_,_=>none
def args:List dJ:=[.c (.int .i64)]
def ta:List Ty:=[(.int .i64)]
def res:List (Bool×List cG):=[(false,[.int .i64]),(false,[.int .i64])]
def tr:List Ty:=[(.int .i64),(.int .i64)]
def E0 (N:Nat):aA:=aA.base aP aX aY aO cq bT
theorem cC (N:Nat):aC aP (E0 N):=aQ aP aX aY aO cq bT
end f125
open f125 in
def Td (N:Nat):Int→Option ((Int)×Int)
 |p0=>(Option.bind ((bif (decide (p0<(0:Int)))
 then some true
 else some (decide (p0>(1073741824:Int))))) fun b0=>
 (bif b0
 then some ((0:Int),(2:Int))
 else some ((mT .i64 (aH (p0+(7:Int))) (7:Int)),(0:Int))))
theorem Te (N:Nat):Td N=bC (f125.E0 N) ak 125 f125.args f125.ta f125.res f125.tr 0:=funext fun p0=>by rw[Td];kernel_rfl
def acg (N:Nat):Sym.Callee:=⟨f125.args,f125.ta,f125.res,f125.tr,0,Td N⟩
theorem ach (N:Nat):bt aP 125 (acg N):=(bF (f125.cC N) ak 125 f125.args f125.ta f125.res f125.tr 0).plain (Te N)
namespace f93
def args:List dJ:=[.agg [.sl ai .aJ,.sl .str .aJ,.sl aG .aJ,.str,.int .i64,.int .i64,.sl av .aJ,.sl ah .aJ,.sl aD .aJ,.sl aD .aJ],.c (.sl (.int .i64) .aJ)]
def ta:List Ty:=[(.sl ai),(.sl .str),(.sl aG),.str,(.int .i64),(.int .i64),(.sl av),(.sl ah),(.sl aD),(.sl aD),(.sl (.int .i64))]
def res:List (Bool×List cG):=[(false,[.int .i64]),(false,[.int .i64])]
def tr:List Ty:=[(.int .i64),(.int .i64)]
def E0 (N:Nat):aA:=((aA.base aP aX aY aO cq bT).aa 113 (WI N)).aa 125 (acg N)
theorem cC (N:Nat):aC aP (E0 N):=((aQ aP aX aY aO cq bT).aa (Uv N)).aa (ach N)
def mA:cw:=⟨[(2,.c (.ptr 0 2 0 0 0)),(6,.c (.int .i64)),(12,.c (.sl (.int .i64) .aJ)),(13,.c (.int .i64)),(14,.c (.int .i64))],[],[(0,2,.box 0 [.sl ai .aJ,.sl .str .aJ,.sl aG .aJ,.str,.int .i64,.int .i64,.sl av .aJ,.sl ah .aJ,.sl aD .aJ,.sl aD .aJ])],1,[],1,[(.int .i64),(.sl (.int .i64)),(.int .i64),(.int .i64),(.sl ai),(.sl .str),(.sl aG),.str,(.int .i64),(.int .i64),(.sl av),(.sl ah),(.sl aD),(.sl aD)]⟩
def mB:ck:=[(.ret,⟨[(4,.c (.int .i64)),(5,.c (.int .i64))],[],[],1,[],0,[(.int .i64),(.int .i64)]⟩),(.exit 0,⟨[(6,.c (.int .i64))],[],[],1,[],0,[(.int .i64)]⟩)]
def AN (N:Nat) (k:Nat) (x:(Int)×(List (Int))×(Int)×(Int)×(List (aq))×(List (List UInt8))×(List (Func))×(List UInt8)×(Int)×(Int)×(List (Field))×(List (Instr))×(List (bD))×List (bD)):Option (((Int)×Int)⊕(Int)):=bJ (aL (E0 N) ak 0 4 (bz t93 4) mA mB) k x
def dD (N:Nat):Nat→(Int)×(List (Int))×(Int)×(Int)×(List (aq))×(List (List UInt8))×(List (Func))×(List UInt8)×(Int)×(Int)×(List (Field))×(List (Instr))×(List (bD))×List (bD)→Option (((Int)×Int)⊕(Int))
 |0,_=>none
 |k+1,(v0,v1,v2,v3,v4,v5,v6,v7,v8,v9,v10,v11,v12,mJ)=>(bif (decide (v3<v2))
 then (Option.bind (idx v1 v3) fun Y5=>
 (Option.bind (I0 N (v4,Y5)) fun qG=>
 (bif (qG.2.2 != (0:Int))
 then some (Sum.inl ((0:Int),qG.2.2))
 else (Option.bind (Td N qG.1) fun ld=>
 (bif (ld.2 != (0:Int))
 then some (Sum.inl ((0:Int),ld.2))
 else dD N k ((aH (v0+ld.1)),v1,v2,(aH (v3+(1:Int))),v4,v5,v6,v7,v8,v9,v10,v11,v12,mJ))))))
 else some (Sum.inr v0))
theorem fC (N:Nat):∀ k,dD N k=AN N k
 |0=>rfl
 |k+1=>funext fun⟨v0,v1,v2,v3,v4,v5,v6,v7,v8,v9,v10,v11,v12,mJ⟩=>by rw[dD,fC N k];kernel_rfl
def E1 (N:Nat):aA:=(E0 N).aj N 0 4 mA mB
theorem gI (N:Nat):aC aP (E1 N):=(cC N).aj N 0 4 mA mB
end f93
open f93 in
def UG (N:Nat):(List (aq))×(List (List UInt8))×(List (Func))×(List UInt8)×(Int)×(Int)×(List (Field))×(List (Instr))×(List (bD))×(List (bD))×List (Int)→Option ((Int)×Int)
 |(p0,p1,p2,p3,p4,p5,p6,p7,p8,p9,ji)=>(Option.bind (dD N N ((0:Int),ji,(ji.length:Int),(0:Int),p0,p1,p2,p3,p4,p5,p6,p7,p8,p9)) fun yF=>
 (match yF with
 |.inl a18=>some (a18.1,a18.2)
 |.inr b19=>some (b19,(0:Int))))
theorem XK (N:Nat):UG N=bC (f93.E1 N) ak 93 f93.args f93.ta f93.res f93.tr 0:=funext fun⟨p0,p1,p2,p3,p4,p5,p6,p7,p8,p9,ji⟩=>by rw[UG,f93.fC N N];kernel_rfl
def c93 (N:Nat):Sym.Callee:=⟨f93.args,f93.ta,f93.res,f93.tr,0,UG N⟩
theorem aci (N:Nat):bt aP 93 (c93 N):=(bF (f93.gI N) ak 93 f93.args f93.ta f93.res f93.tr 0).plain (XK N)
namespace f90
def aX:Nat→Nat→Option ck:=fun c i=>match c,i with
 |0,6=>some [(.ret,⟨[(6,.c (.nil true)),(7,.c (.bool))],[],[],1,[],0,[.bool]⟩),(.normal,⟨[(2,.c (.sl (.int .i64) .d)),(3,.c (.ptr 0 3 0 0 0))],[],[(0,3,.box 0 [.sl ai .d,.sl .str .d,.sl aG .d,.str,.int .i64,.int .i64,.sl av .d,.sl ah .d,.sl aD .d,.sl aD .d])],1,[],1,[(.sl (.int .i64)),(.sl ai),(.sl .str),(.sl aG),.str,(.int .i64),(.int .i64),(.sl av),(.sl ah),(.sl aD),(.sl aD)]⟩)]
 |0,2=>some [(.normal,⟨[(2,.c (.sl (.int .i64) .d)),(3,.c (.ptr 0 3 1 0 0)),(4,.c (.ptr 0 4 2 0 0))],[],[(0,3,.box 1 [.sl ai .d,.sl .str .d,.sl aG .d,.str,.int .i64,.int .i64,.sl av .d,.sl ah .d,.sl aD .d,.sl aD .d]),(0,4,.box 2 [.int .u8,.int .i64,.int .i64,.int .i64])],1,[],3,[(.sl (.int .i64)),(.sl ai),(.sl .str),(.sl aG),.str,(.int .i64),(.int .i64),(.sl av),(.sl ah),(.sl aD),(.sl aD),(.int .u8),(.int .i64),(.int .i64),(.int .i64)]⟩)]
 |_,_=>none
def bT:Nat→Nat→Option Ty:=fun c d=>match c,d with
 |0,24=>some (.int .i64)
 |_,_=>none
def args:List dJ:=[.agg [.sl ai .d,.sl .str .d,.sl aG .d,.str,.int .i64,.int .i64,.sl av .d,.sl ah .d,.sl aD .d,.sl aD .d],.agg [.int .u8,.int .i64,.int .i64,.int .i64],.c (.sl (.int .i64) .d)]
def ta:List Ty:=[(.sl ai),(.sl .str),(.sl aG),.str,(.int .i64),(.int .i64),(.sl av),(.sl ah),(.sl aD),(.sl aD),(.int .u8),(.int .i64),(.int .i64),(.int .i64),(.sl (.int .i64))]
def res:List (Bool×List cG):=[(false,[.sl (.int .i64) .d]),(false,[.bool])]
def tr:List Ty:=[(.sl (.int .i64)),.bool]
def E0 (N:Nat):aA:=((((aA.base aP aX aY aO cq bT).aa 124 (c124 N)).aa 81 (c81 N)).aa 79 (c79 N)).aa 93 (c93 N)
theorem cC (N:Nat):aC aP (E0 N):=((((aQ aP aX aY aO cq bT).aa (acf N)).aa (ab3 N)).aa (ab2 N)).aa (aci N)
def Pm:cw:=⟨[(2,.c (.sl (.int .i64) .d)),(3,.c (.ptr 0 3 0 0 0)),(9,.c (.ptr 0 9 1 0 0)),(10,.c (.int .i64)),(45,.c (.sl (.int .i64) .d)),(46,.c (.int .i64)),(47,.c (.int .i64))],[],[(0,3,.box 0 [.sl ai .d,.sl .str .d,.sl aG .d,.str,.int .i64,.int .i64,.sl av .d,.sl ah .d,.sl aD .d,.sl aD .d]),(0,9,.box 1 [.str,.int .i64,.int .i64,.sl av .d,.sl ah .d,.sl aD .d,.sl aD .d])],1,[],2,[(.sl (.int .i64)),(.int .i64),(.sl (.int .i64)),(.int .i64),(.int .i64),(.sl ai),(.sl .str),(.sl aG),.str,(.int .i64),(.int .i64),(.sl av),(.sl ah),(.sl aD),(.sl aD),.str,(.int .i64),(.int .i64),(.sl av),(.sl ah),(.sl aD),(.sl aD)]⟩
def Pn:ck:=[(.ret,⟨[(6,.c (.nil true)),(7,.c (.bool))],[],[],1,[],0,[.bool]⟩),(.exit 0,⟨[(2,.c (.sl (.int .i64) .d)),(3,.c (.ptr 0 3 0 0 0)),(10,.c (.int .i64))],[],[(0,3,.box 0 [.sl ai .d,.sl .str .d,.sl aG .d,.str,.int .i64,.int .i64,.sl av .d,.sl ah .d,.sl aD .d,.sl aD .d])],1,[],1,[(.sl (.int .i64)),(.int .i64),(.sl ai),(.sl .str),(.sl aG),.str,(.int .i64),(.int .i64),(.sl av),(.sl ah),(.sl aD),(.sl aD)]⟩)]
def acj (N:Nat) (k:Nat) (x:(List (Int))×(Int)×(List (Int))×(Int)×(Int)×(List (aq))×(List (List UInt8))×(List (Func))×(List UInt8)×(Int)×(Int)×(List (Field))×(List (Instr))×(List (bD))×(List (bD))×(List UInt8)×(Int)×(Int)×(List (Field))×(List (Instr))×(List (bD))×List (bD)):Option ((Bool)⊕((List (Int))×(Int)×(List (aq))×(List (List UInt8))×(List (Func))×(List UInt8)×(Int)×(Int)×(List (Field))×(List (Instr))×(List (bD))×List (bD))):=bJ (aL (E0 N) ak 0 14 (bz t90 14) Pm Pn) k x
def KC (N:Nat):Nat→(List (Int))×(Int)×(List (Int))×(Int)×(Int)×(List (aq))×(List (List UInt8))×(List (Func))×(List UInt8)×(Int)×(Int)×(List (Field))×(List (Instr))×(List (bD))×(List (bD))×(List UInt8)×(Int)×(Int)×(List (Field))×(List (Instr))×(List (bD))×List (bD)→Option ((Bool)⊕((List (Int))×(Int)×(List (aq))×(List (List UInt8))×(List (Func))×(List UInt8)×(Int)×(Int)×(List (Field))×(List (Instr))×(List (bD))×List (bD)))
 |0,_=>none
 |k+1,(v5,v6,v7,v8,v9,v10,v11,v12,mJ,lU,rZ,r6,r7,vP,yG,v20,v21,v22,ya,v24,s4,Ee)=>(bif (decide (v9<v8))
 then (Option.bind (idx v7 v9) fun x27=>
 (Option.bind (idx ya v9) fun O1=>
 (bif (O1.2 != x27)
 then some (Sum.inl false)
 else KC N k (v5,v6,v7,v8,(aH (v9+(1:Int))),v10,v11,v12,mJ,lU,rZ,r6,r7,vP,yG,v20,v21,v22,ya,v24,s4,Ee))))
 else some (Sum.inr (v5,v6,v10,v11,v12,mJ,lU,rZ,r6,r7,vP,yG)))
theorem GS (N:Nat):∀ k,KC N k=acj N k
 |0=>rfl
 |k+1=>funext fun⟨v5,v6,v7,v8,v9,v10,v11,v12,mJ,lU,rZ,r6,r7,vP,yG,v20,v21,v22,ya,v24,s4,Ee⟩=>by rw[KC,GS N k];kernel_rfl
def E1 (N:Nat):aA:=(E0 N).aj N 0 14 Pm Pn
theorem gI (N:Nat):aC aP (E1 N):=(cC N).aj N 0 14 Pm Pn
end f90
open f90 in
def Zg (N:Nat):(List (aq))×(List (List UInt8))×(List (Func))×(List UInt8)×(Int)×(Int)×(List (Field))×(List (Instr))×(List (bD))×(List (bD))×(Int)×(Int)×(Int)×(Int)×List (Int)→Option ((List (Int))×Bool)
 |(p0,p1,p2,p3,p4,p5,p6,p7,p8,p9,ji,tf,yK,GR,p14)=>(Option.bind ((bif (ji==(24:Int))
 then (Option.bind (af2 N p14) fun y0=>
 (Option.bind (Xg N (p0,p1,p2,p3,p4,p5,p6,p7,p8,p9,tf)) fun y1=>
 (aZ (room (y0.length+1) 8)
 (some ((y0++[y1]),p0,p1,p2,p3,p4,p5,p6,p7,p8,p9,ji,tf,yK,GR)))))
 else some (p14,p0,p1,p2,p3,p4,p5,p6,p7,p8,p9,ji,tf,yK,GR))) fun y2=>
 (Option.bind (F79 N (y2.2.2.2.2.2.2.2.2.2.2.2.1,y2.2.2.2.2.2.2.2.2.2.2.2.2.1,y2.2.2.2.2.2.2.2.2.2.2.2.2.2.1,y2.2.2.2.2.2.2.2.2.2.2.2.2.2.2)) fun y3=>
 (Option.bind ((bif (decide (y3≥(0:Int)))
 then (Option.bind (idx y2.2.2.2.1 y3) fun x4=>
 (bif (decide ((aH ((y2.1.length:Int)-x4.2.1))<(0:Int)))
 then some (Sum.inl false)
 else (aZ (decide (0≤(aH ((y2.1.length:Int)-x4.2.1))))
 ((aZ (decide ((Int.toNat (aH ((y2.1.length:Int)-x4.2.1)))≤y2.1.length))
 ((Option.bind (KC N N (y2.1,(aH ((y2.1.length:Int)-x4.2.1)),(y2.1.drop (Int.toNat (aH ((y2.1.length:Int)-x4.2.1)))),((y2.1.drop (Int.toNat (aH ((y2.1.length:Int)-x4.2.1)))).length:Int),(0:Int),y2.2.1,y2.2.2.1,y2.2.2.2.1,y2.2.2.2.2.1,y2.2.2.2.2.2.1,y2.2.2.2.2.2.2.1,y2.2.2.2.2.2.2.2.1,y2.2.2.2.2.2.2.2.2.1,y2.2.2.2.2.2.2.2.2.2.1,y2.2.2.2.2.2.2.2.2.2.2.1,x4.1,x4.2.1,x4.2.2.1,x4.2.2.2.1,x4.2.2.2.2.1,x4.2.2.2.2.2.1,x4.2.2.2.2.2.2)) fun vS=>
 (match vS with
 |.inl a30=>some (Sum.inl a30)
 |.inr GQ=>(aZ (decide (0≤GQ.2.1))
 ((aZ (decide ((Int.toNat GQ.2.1)≤GQ.1.length))
 (some (Sum.inr ((GQ.1.take (Int.toNat GQ.2.1)),GQ.2.2.1,GQ.2.2.2.1,GQ.2.2.2.2.1,GQ.2.2.2.2.2.1,GQ.2.2.2.2.2.2.1,GQ.2.2.2.2.2.2.2.1,GQ.2.2.2.2.2.2.2.2.1,GQ.2.2.2.2.2.2.2.2.2.1,GQ.2.2.2.2.2.2.2.2.2.2.1,GQ.2.2.2.2.2.2.2.2.2.2.2))))))))))))))
 else some (Sum.inr (y2.1,y2.2.1,y2.2.2.1,y2.2.2.2.1,y2.2.2.2.2.1,y2.2.2.2.2.2.1,y2.2.2.2.2.2.2.1,y2.2.2.2.2.2.2.2.1,y2.2.2.2.2.2.2.2.2.1,y2.2.2.2.2.2.2.2.2.2.1,y2.2.2.2.2.2.2.2.2.2.2.1)))) fun SK=>
 (match SK with
 |.inl a33=>some ([],a33)
 |.inr I7=>(Option.bind (UG N (I7.2.1,I7.2.2.1,I7.2.2.2.1,I7.2.2.2.2.1,I7.2.2.2.2.2.1,I7.2.2.2.2.2.2.1,I7.2.2.2.2.2.2.2.1,I7.2.2.2.2.2.2.2.2.1,I7.2.2.2.2.2.2.2.2.2.1,I7.2.2.2.2.2.2.2.2.2.2,I7.1)) fun SN=>
 (bif (SN.2==(0:Int))
 then some (I7.1,(decide (SN.1≤(4096:Int))))
 else some (I7.1,false)))))))
theorem XL (N:Nat):Zg N=bC (f90.E1 N) ak 90 f90.args f90.ta f90.res f90.tr 0:=funext fun⟨p0,p1,p2,p3,p4,p5,p6,p7,p8,p9,ji,tf,yK,GR,p14⟩=>by rw[Zg,f90.GS N N];kernel_rfl
def c90 (N:Nat):Sym.Callee:=⟨f90.args,f90.ta,f90.res,f90.tr,0,Zg N⟩
theorem af3 (N:Nat):bt aP 90 (c90 N):=(bF (f90.gI N) ak 90 f90.args f90.ta f90.res f90.tr 0).plain (XL N)
namespace f91
def aO:Nat→Nat→Option (Nat×Ty):=fun c i=>match c,i with
 |0,5=>some (19,.bool)
 |_,_=>none
def args:List dJ:=[.c (.sl ah .aJ),.c (.int .i64)]
def ta:List Ty:=[(.sl ah),(.int .i64)]
def res:List (Bool×List cG):=[(false,[.sl (.int .i64) .d]),(false,[.int .i64])]
def tr:List Ty:=[(.sl (.int .i64)),(.int .i64)]
def E0 (N:Nat):aA:=((aA.base aP aX aY aO cq bT).aa 75 (c75 N)).aa 120 (S5 N)
theorem cC (N:Nat):aC aP (E0 N):=((aQ aP aX aY aO cq bT).aa (W6 N)).aa (Pa N)
end f91
open f91 in
def Zh (N:Nat):(List (Instr))×Int→Option ((List (Int))×Int)
 |(p0,p1)=>(Option.bind (UC N p0) fun y0=>
 (bif (y0 != (0:Int))
 then some ([],y0)
 else (Option.bind ((bif (decide (p1<(0:Int)))
 then some true
 else some (decide (p1≥(p0.length:Int))))) fun b1=>
 (bif b1
 then some ([],(2:Int))
 else (Option.bind (GO N (p0,p1)) fun y2=>
 some (y2,(0:Int)))))))
theorem XM (N:Nat):Zh N=bC (f91.E0 N) ak 91 f91.args f91.ta f91.res f91.tr 0:=funext fun⟨p0,p1⟩=>by rw[Zh];kernel_rfl
def c91 (N:Nat):Sym.Callee:=⟨f91.args,f91.ta,f91.res,f91.tr,0,Zh N⟩
theorem af4 (N:Nat):bt aP 91 (c91 N):=(bF (f91.cC N) ak 91 f91.args f91.ta f91.res f91.tr 0).plain (XM N)
namespace f92
def args:List dJ:=[.c (.sl (.int .i64) .aJ),.c (.sl (.int .i64) .aJ)]
def ta:List Ty:=[(.sl (.int .i64)),(.sl (.int .i64))]
def res:List (Bool×List cG):=[(false,[.bool])]
def tr:List Ty:=[.bool]
def E0 (N:Nat):aA:=aA.base aP aX aY aO cq bT
theorem cC (N:Nat):aC aP (E0 N):=aQ aP aX aY aO cq bT
def fG:cw:=⟨[(0,.c (.sl (.int .i64) .aJ)),(1,.c (.sl (.int .i64) .aJ)),(12,.c (.int .i64)),(13,.c (.int .i64))],[],[],1,[],0,[(.sl (.int .i64)),(.sl (.int .i64)),(.int .i64),(.int .i64)]⟩
def fH:ck:=[(.ret,⟨[(4,.c (.bool))],[],[],1,[],0,[.bool]⟩),(.exit 0,⟨[],[],[],1,[],0,[]⟩)]
def nh (N:Nat) (k:Nat) (x:(List (Int))×(List (Int))×(Int)×Int):Option ((Bool)⊕(Unit)):=bJ (aL (E0 N) ak 0 6 (bz t92 6) fG fH) k x
def cc (N:Nat):Nat→(List (Int))×(List (Int))×(Int)×Int→Option ((Bool)⊕(Unit))
 |0,_=>none
 |k+1,(v0,v1,v2,v3)=>(bif (decide (v3<v2))
 then (Option.bind (idx v0 v3) fun x4=>
 (Option.bind (idx v1 v3) fun x5=>
 (bif (x4 != x5)
 then some (Sum.inl false)
 else cc N k (v0,v1,v2,(aH (v3+(1:Int)))))))
 else some (Sum.inr ()))
theorem ct (N:Nat):∀ k,cc N k=nh N k
 |0=>rfl
 |k+1=>funext fun⟨v0,v1,v2,v3⟩=>by rw[cc,ct N k];kernel_rfl
def E1 (N:Nat):aA:=(E0 N).aj N 0 6 fG fH
theorem gI (N:Nat):aC aP (E1 N):=(cC N).aj N 0 6 fG fH
end f92
open f92 in
def Zi (N:Nat):(List (Int))×List (Int)→Option (Bool)
 |(p0,p1)=>(bif ((p0.length:Int) != (p1.length:Int))
 then some false
 else (Option.bind (cc N N (p0,p1,(p0.length:Int),(0:Int))) fun y6=>
 (match y6 with
 |.inl a7=>some a7
 |.inr b8=>some true)))
theorem XN (N:Nat):Zi N=bC (f92.E1 N) ak 92 f92.args f92.ta f92.res f92.tr 0:=funext fun⟨p0,p1⟩=>by rw[Zi,f92.ct N N];kernel_rfl
def c92 (N:Nat):Sym.Callee:=⟨f92.args,f92.ta,f92.res,f92.tr,0,Zi N⟩
theorem af5 (N:Nat):bt aP 92 (c92 N):=(bF (f92.gI N) ak 92 f92.args f92.ta f92.res f92.tr 0).plain (XN N)
namespace f53
def aO:Nat→Nat→Option (Nat×Ty):=fun c i=>match c,i with
 |0,14=>some (70,.bool)
 |_,_=>none
def bT:Nat→Nat→Option Ty:=fun c d=>match c,d with
 |0,25=>some (.sl (.int .i64))
 |0,28=>some .bool
 |0,31=>some (.int .i64)
 |0,90=>some (.int .i64)
 |0,105=>some (.int .u64)
 |_,_=>none
def args:List dJ:=[.agg [.sl ai .d,.sl .str .d,.sl aG .d,.str,.int .i64,.int .i64,.sl av .d,.sl ah .d,.sl aD .d,.sl aD .d]]
def ta:List Ty:=[(.sl ai),(.sl .str),(.sl aG),.str,(.int .i64),(.int .i64),(.sl av),(.sl ah),(.sl aD),(.sl aD)]
def res:List (Bool×List cG):=[(false,[.sl (.int .u64) .d]),(false,[.bool])]
def tr:List Ty:=[(.sl (.int .u64)),.bool]
def E0 (N:Nat):aA:=((((aA.base aP aX aY aO cq bT).aa 90 (c90 N)).aa 91 (c91 N)).aa 92 (c92 N)).aa 93 (c93 N)
theorem cC (N:Nat):aC aP (E0 N):=((((aQ aP aX aY aO cq bT).aa (af3 N)).aa (af4 N)).aa (af5 N)).aa (aci N)
def AS:cw:=⟨[(1,.c (.ptr 0 1 0 0 0)),(4,.c (.sl ah .d)),(5,.c (.ref 0 25 1 (.sl (.int .i64)))),(6,.c (.ref 0 28 2 .bool)),(7,.c (.ref 0 31 3 (.int .i64))),(9,.c (.sl (.int .i64) .d)),(71,.c (.sl (.int .i64) .d)),(72,.c (.int .i64)),(73,.c (.int .i64))],[],[(0,1,.box 0 [.sl ai .d,.sl .str .d,.sl aG .d,.str,.int .i64,.int .i64,.sl av .d,.sl ah .d,.sl aD .d,.sl aD .d]),(0,25,.row 1 (.sl (.int .i64))),(0,28,.row 2 .bool),(0,31,.row 3 (.int .i64))],1,[],4,[(.sl ah),(.sl (.int .i64)),(.sl (.int .i64)),(.int .i64),(.int .i64),(.sl ai),(.sl .str),(.sl aG),.str,(.int .i64),(.int .i64),(.sl av),(.sl ah),(.sl aD),(.sl aD),(.sl (.sl (.int .i64))),(.sl .bool),(.sl (.int .i64))]⟩
def AT:ck:=[(.ret,⟨[(2,.c (.nil true)),(3,.c (.bool))],[],[],1,[],0,[.bool]⟩),(.exit 2,⟨[(1,.c (.ptr 0 1 0 0 0)),(4,.c (.sl ah .d)),(5,.c (.ref 0 25 1 (.sl (.int .i64)))),(6,.c (.ref 0 28 2 .bool)),(7,.c (.ref 0 31 3 (.int .i64)))],[],[(0,1,.box 0 [.sl ai .d,.sl .str .d,.sl aG .d,.str,.int .i64,.int .i64,.sl av .d,.sl ah .d,.sl aD .d,.sl aD .d]),(0,25,.row 1 (.sl (.int .i64))),(0,28,.row 2 .bool),(0,31,.row 3 (.int .i64))],1,[],4,[(.sl ah),(.sl ai),(.sl .str),(.sl aG),.str,(.int .i64),(.int .i64),(.sl av),(.sl ah),(.sl aD),(.sl aD),(.sl (.sl (.int .i64))),(.sl .bool),(.sl (.int .i64))]⟩)]
def O9 (N:Nat) (k:Nat) (x:(List (Instr))×(List (Int))×(List (Int))×(Int)×(Int)×(List (aq))×(List (List UInt8))×(List (Func))×(List UInt8)×(Int)×(Int)×(List (Field))×(List (Instr))×(List (bD))×(List (bD))×(List (List (Int)))×(List (Bool))×List (Int)):Option ((Bool)⊕((List (Instr))×(List (aq))×(List (List UInt8))×(List (Func))×(List UInt8)×(Int)×(Int)×(List (Field))×(List (Instr))×(List (bD))×(List (bD))×(List (List (Int)))×(List (Bool))×List (Int))):=bJ (aL (E0 N) ak 0 19 (bz t53 19) AS AT) k x
def jB (N:Nat):Nat→(List (Instr))×(List (Int))×(List (Int))×(Int)×(Int)×(List (aq))×(List (List UInt8))×(List (Func))×(List UInt8)×(Int)×(Int)×(List (Field))×(List (Instr))×(List (bD))×(List (bD))×(List (List (Int)))×(List (Bool))×List (Int)→Option ((Bool)⊕((List (Instr))×(List (aq))×(List (List UInt8))×(List (Func))×(List UInt8)×(Int)×(Int)×(List (Field))×(List (Instr))×(List (bD))×(List (bD))×(List (List (Int)))×(List (Bool))×List (Int)))
 |0,_=>none
 |k+1,(v21,v22,ya,v24,s4,Ee,HB,v28,vW,v30,v31,yI,vX,s7,rN,BL,v37,Mn)=>(bif (decide (s4<v24))
 then (Option.bind (idx ya s4) fun MY=>
 (aZ (jq MY v37.length)
 ((Option.bind (v37[(Int.toNat MY)]?) fun x40=>
 (bif (!x40)
 then (aZ (room (Mn.length+1) 8)
 ((aZ (jq MY BL.length)
 ((Option.bind (BL[(Int.toNat MY)]?) fun UE=>
 (aZ (jq MY v37.length)
 ((Option.bind (v37[(Int.toNat MY)]?) fun Zj=>
 jB N k (v21,v22,ya,v24,(aH (s4+(1:Int))),Ee,HB,v28,vW,v30,v31,yI,vX,s7,rN,(BL.set (Int.toNat MY) v22),(v37.set (Int.toNat MY) true),(Mn++[MY]))))))))))
 else (aZ (jq MY BL.length)
 ((Option.bind (BL[(Int.toNat MY)]?) fun Bu=>
 (Option.bind (Zi N (Bu,v22)) fun UB=>
 (bif (!UB)
 then some (Sum.inl false)
 else jB N k (v21,v22,ya,v24,(aH (s4+(1:Int))),Ee,HB,v28,vW,v30,v31,yI,vX,s7,rN,BL,v37,Mn)))))))))))
 else some (Sum.inr (v21,Ee,HB,v28,vW,v30,v31,yI,vX,s7,rN,BL,v37,Mn)))
theorem qK (N:Nat):∀ k,jB N k=O9 N k
 |0=>rfl
 |k+1=>funext fun⟨v21,v22,ya,v24,s4,Ee,HB,v28,vW,v30,v31,yI,vX,s7,rN,BL,v37,Mn⟩=>by rw[jB,qK N k];kernel_rfl
def E1 (N:Nat):aA:=(E0 N).aj N 0 19 AS AT
theorem gI (N:Nat):aC aP (E1 N):=(cC N).aj N 0 19 AS AT
def fG:cw:=⟨[(1,.c (.ptr 0 1 0 0 0)),(4,.c (.sl ah .d)),(5,.c (.ref 0 25 1 (.sl (.int .i64)))),(6,.c (.ref 0 28 2 .bool)),(7,.c (.ref 0 31 3 (.int .i64)))],[],[(0,1,.box 0 [.sl ai .d,.sl .str .d,.sl aG .d,.str,.int .i64,.int .i64,.sl av .d,.sl ah .d,.sl aD .d,.sl aD .d]),(0,25,.row 1 (.sl (.int .i64))),(0,28,.row 2 .bool),(0,31,.row 3 (.int .i64))],1,[],4,[(.sl ah),(.sl ai),(.sl .str),(.sl aG),.str,(.int .i64),(.int .i64),(.sl av),(.sl ah),(.sl aD),(.sl aD),(.sl (.sl (.int .i64))),(.sl .bool),(.sl (.int .i64))]⟩
def fH:ck:=[(.ret,⟨[(2,.c (.nil true)),(3,.c (.bool))],[],[],1,[],0,[.bool]⟩),(.exit 0,⟨[(1,.c (.ptr 0 1 0 0 0)),(4,.c (.sl ah .d)),(5,.c (.ref 0 25 1 (.sl (.int .i64))))],[],[(0,1,.box 0 [.sl ai .d,.sl .str .d,.sl aG .d,.str,.int .i64,.int .i64,.sl av .d,.sl ah .d,.sl aD .d,.sl aD .d]),(0,25,.row 1 (.sl (.int .i64)))],1,[],2,[(.sl ah),(.sl ai),(.sl .str),(.sl aG),.str,(.int .i64),(.int .i64),(.sl av),(.sl ah),(.sl aD),(.sl aD),(.sl (.sl (.int .i64)))]⟩)]
def nh (N:Nat) (k:Nat) (x:(List (Instr))×(List (aq))×(List (List UInt8))×(List (Func))×(List UInt8)×(Int)×(Int)×(List (Field))×(List (Instr))×(List (bD))×(List (bD))×(List (List (Int)))×(List (Bool))×List (Int)):Option ((Bool)⊕((List (Instr))×(List (aq))×(List (List UInt8))×(List (Func))×(List UInt8)×(Int)×(Int)×(List (Field))×(List (Instr))×(List (bD))×(List (bD))×List (List (Int)))):=bJ (aL (E1 N) ak 0 6 (bz t53 6) fG fH) k x
def cc (N:Nat):Nat→(List (Instr))×(List (aq))×(List (List UInt8))×(List (Func))×(List UInt8)×(Int)×(Int)×(List (Field))×(List (Instr))×(List (bD))×(List (bD))×(List (List (Int)))×(List (Bool))×List (Int)→Option ((Bool)⊕((List (Instr))×(List (aq))×(List (List UInt8))×(List (Func))×(List UInt8)×(Int)×(Int)×(List (Field))×(List (Instr))×(List (bD))×(List (bD))×List (List (Int))))
 |0,_=>none
 |k+1,(v1,v2,v3,v4,v5,v6,v7,v8,v9,v10,v11,v12,mJ,lU)=>(bif (decide ((lU.length:Int)>(0:Int)))
 then (aZ (jq (aH ((lU.length:Int)-(1:Int))) lU.length)
 ((Option.bind (lU[(Int.toNat (aH ((lU.length:Int)-(1:Int))))]?) fun Kv=>
 (aZ (decide (0≤(aH ((lU.length:Int)-(1:Int)))))
 ((aZ (decide ((Int.toNat (aH ((lU.length:Int)-(1:Int))))≤lU.length))
 ((Option.bind (idx v1 Kv) fun Us=>
 (aZ (jq Kv v12.length)
 ((Option.bind (v12[(Int.toNat Kv)]?) fun Y7=>
 (Option.bind (Zg N (v2,v3,v4,v5,v6,v7,v8,v9,v10,v11,Us.1,Us.2.1,Us.2.2.1,Us.2.2.2,Y7)) fun GM=>
 (Option.bind (Zh N (v1,Kv)) fun xG=>
 (Option.bind ((bif (!GM.2)
 then some true
 else some (xG.2 != (0:Int)))) fun OV=>
 (bif OV
 then some (Sum.inl false)
 else (Option.bind (jB N N (v1,GM.1,xG.1,(xG.1.length:Int),(0:Int),v2,v3,v4,v5,v6,v7,v8,v9,v10,v11,v12,mJ,(lU.take (Int.toNat (aH ((lU.length:Int)-(1:Int))))))) fun OY=>
 (match OY with
 |.inl a46=>some (Sum.inl a46)
 |.inr HE=>cc N k (HE.1,HE.2.1,HE.2.2.1,HE.2.2.2.1,HE.2.2.2.2.1,HE.2.2.2.2.2.1,HE.2.2.2.2.2.2.1,HE.2.2.2.2.2.2.2.1,HE.2.2.2.2.2.2.2.2.1,HE.2.2.2.2.2.2.2.2.2.1,HE.2.2.2.2.2.2.2.2.2.2.1,HE.2.2.2.2.2.2.2.2.2.2.2.1,HE.2.2.2.2.2.2.2.2.2.2.2.2.1,HE.2.2.2.2.2.2.2.2.2.2.2.2.2))))))))))))))))))
 else some (Sum.inr (v1,v2,v3,v4,v5,v6,v7,v8,v9,v10,v11,v12)))
theorem ct (N:Nat):∀ k,cc N k=nh N k
 |0=>rfl
 |k+1=>funext fun⟨v1,v2,v3,v4,v5,v6,v7,v8,v9,v10,v11,v12,mJ,lU⟩=>by rw[cc,ct N k,qK N N];kernel_rfl
def E2 (N:Nat):aA:=(E1 N).aj N 0 6 fG fH
theorem AM (N:Nat):aC aP (E2 N):=(gI N).aj N 0 6 fG fH
def Po:cw:=⟨[(1,.c (.ptr 0 1 0 0 0)),(4,.c (.sl ah .d)),(5,.c (.ref 0 25 1 (.sl (.int .i64)))),(15,.c (.ref 0 105 2 (.int .u64))),(106,.c (.ref 0 25 1 (.sl (.int .i64)))),(107,.c (.int .i64)),(108,.c (.int .i64))],[],[(0,1,.box 0 [.sl ai .d,.sl .str .d,.sl aG .d,.str,.int .i64,.int .i64,.sl av .d,.sl ah .d,.sl aD .d,.sl aD .d]),(0,25,.row 1 (.sl (.int .i64))),(0,105,.row 2 (.int .u64))],1,[],3,[(.sl ah),(.int .i64),(.int .i64),(.sl ai),(.sl .str),(.sl aG),.str,(.int .i64),(.int .i64),(.sl av),(.sl ah),(.sl aD),(.sl aD),(.sl (.sl (.int .i64))),(.sl (.int .u64))]⟩
def Pp:ck:=[(.ret,⟨[(2,.c (.nil true)),(3,.c (.bool))],[],[],1,[],0,[.bool]⟩),(.exit 5,⟨[(4,.c (.sl ah .d)),(5,.c (.ref 0 25 0 (.sl (.int .i64)))),(15,.c (.ref 0 105 1 (.int .u64)))],[],[(0,25,.row 0 (.sl (.int .i64))),(0,105,.row 1 (.int .u64))],1,[],2,[(.sl ah),(.sl (.sl (.int .i64))),(.sl (.int .u64))]⟩)]
def ack (N:Nat) (k:Nat) (x:(List (Instr))×(Int)×(Int)×(List (aq))×(List (List UInt8))×(List (Func))×(List UInt8)×(Int)×(Int)×(List (Field))×(List (Instr))×(List (bD))×(List (bD))×(List (List (Int)))×List (Int)):Option ((Bool)⊕((List (Instr))×(List (List (Int)))×List (Int))):=bJ (aL (E2 N) ak 0 35 (bz t53 35) Po Pp) k x
def AW (N:Nat):Nat→(List (Instr))×(Int)×(Int)×(List (aq))×(List (List UInt8))×(List (Func))×(List UInt8)×(Int)×(Int)×(List (Field))×(List (Instr))×(List (bD))×(List (bD))×(List (List (Int)))×List (Int)→Option ((Bool)⊕((List (Instr))×(List (List (Int)))×List (Int)))
 |0,_=>none
 |k+1,(v51,O3,v53,O4,O5,O6,O7,O8,v59,v60,v61,v62,v63,S0,S1)=>(bif (decide (v53<O3))
 then (aZ (jq v53 S0.length)
 ((Option.bind (S0[(Int.toNat v53)]?) fun x66=>
 (Option.bind (UG N (O4,O5,O6,O7,O8,v59,v60,v61,v62,v63,x66)) fun y67=>
 (bif (y67.2 != (0:Int))
 then some (Sum.inl false)
 else (aZ (jq v53 S1.length)
 ((Option.bind (S1[(Int.toNat v53)]?) fun x68=>
 AW N k (v51,O3,(aH (v53+(1:Int))),O4,O5,O6,O7,O8,v59,v60,v61,v62,v63,S0,(S1.set (Int.toNat v53) (dn y67.1)))))))))))
 else some (Sum.inr (v51,S0,S1)))
theorem GU (N:Nat):∀ k,AW N k=ack N k
 |0=>rfl
 |k+1=>funext fun⟨v51,O3,v53,O4,O5,O6,O7,O8,v59,v60,v61,v62,v63,S0,S1⟩=>by rw[AW,GU N k];kernel_rfl
def E3 (N:Nat):aA:=(E2 N).aj N 0 35 Po Pp
theorem IW (N:Nat):aC aP (E3 N):=(AM N).aj N 0 35 Po Pp
end f53
open f53 in
def Zk (N:Nat):(List (aq))×(List (List UInt8))×(List (Func))×(List UInt8)×(Int)×(Int)×(List (Field))×(List (Instr))×(List (bD))×List (bD)→Option ((List (Int))×Bool)
 |(p0,p1,p2,p3,p4,p5,p6,p7,p8,p9)=>(aZ (decide (0≤(p7.length:Int)))
 ((aZ (decide (0≤(p7.length:Int)))
 ((aZ (decide ((Int.toNat (p7.length:Int))≤(Int.toNat (p7.length:Int)))&&room (Int.toNat (p7.length:Int)) 24)
 ((aZ (decide (0≤(p7.length:Int)))
 ((aZ (decide (0≤(p7.length:Int)))
 ((aZ (decide ((Int.toNat (p7.length:Int))≤(Int.toNat (p7.length:Int)))&&room (Int.toNat (p7.length:Int)) 1)
 ((aZ (jq (0:Int) (List.replicate (Int.toNat (p7.length:Int)) false).length)
 ((Option.bind ((List.replicate (Int.toNat (p7.length:Int)) false)[(Int.toNat (0:Int))]?) fun x0=>
 (Option.bind (cc N N (p7,p0,p1,p2,p3,p4,p5,p6,p7,p8,p9,(List.replicate (Int.toNat (p7.length:Int)) []),((List.replicate (Int.toNat (p7.length:Int)) false).set (Int.toNat (0:Int)) true),[(0:Int)])) fun y48=>
 (match y48 with
 |.inl a49=>some ([],a49)
 |.inr BK=>(aZ (decide (0≤(BK.1.length:Int)))
 ((aZ (decide (0≤(BK.1.length:Int)))
 ((aZ (decide ((Int.toNat (BK.1.length:Int))≤(Int.toNat (BK.1.length:Int)))&&room (Int.toNat (BK.1.length:Int)) 8)
 ((Option.bind (AW N N (BK.1,(BK.2.2.2.2.2.2.2.2.2.2.2.length:Int),(0:Int),BK.2.1,BK.2.2.1,BK.2.2.2.1,BK.2.2.2.2.1,BK.2.2.2.2.2.1,BK.2.2.2.2.2.2.1,BK.2.2.2.2.2.2.2.1,BK.2.2.2.2.2.2.2.2.1,BK.2.2.2.2.2.2.2.2.2.1,BK.2.2.2.2.2.2.2.2.2.2.1,BK.2.2.2.2.2.2.2.2.2.2.2,(List.replicate (Int.toNat (BK.1.length:Int)) (0:Int)))) fun y69=>
 (match y69 with
 |.inl a70=>some ([],a70)
 |.inr b71=>(aZ (jq (aH ((b71.1.length:Int)-(1:Int))) b71.2.1.length)
 ((Option.bind (b71.2.1[(Int.toNat (aH ((b71.1.length:Int)-(1:Int))))]?) fun x72=>
 some (b71.2.2,((x72.length:Int)==(0:Int)))))))))))))))))))))))))))))))
theorem XO (N:Nat):Zk N=bC (f53.E3 N) ak 53 f53.args f53.ta f53.res f53.tr 0:=funext fun⟨p0,p1,p2,p3,p4,p5,p6,p7,p8,p9⟩=>by rw[Zk,f53.ct N N,f53.GU N N];kernel_rfl
def c53 (N:Nat):Sym.Callee:=⟨f53.args,f53.ta,f53.res,f53.tr,0,Zk N⟩
theorem aga (N:Nat):bt aP 53 (c53 N):=(bF (f53.IW N) ak 53 f53.args f53.ta f53.res f53.tr 0).plain (XO N)
namespace f94
def args:List dJ:=[.c (.sl (.int .i64) .aJ)]
def ta:List Ty:=[(.sl (.int .i64))]
def res:List (Bool×List cG):=[(false,[.int .u64])]
def tr:List Ty:=[(.int .u64)]
def E0 (N:Nat):aA:=aA.base aP aX aY aO cq bT
theorem cC (N:Nat):aC aP (E0 N):=aQ aP aX aY aO cq bT
def mA:cw:=⟨[(3,.c (.int .u64)),(6,.c (.sl (.int .i64) .aJ)),(7,.c (.int .i64)),(8,.c (.int .i64))],[],[],1,[],0,[(.int .u64),(.sl (.int .i64)),(.int .i64),(.int .i64)]⟩
def mB:ck:=[(.exit 0,⟨[(3,.c (.int .u64))],[],[],1,[],0,[(.int .u64)]⟩)]
def AN (N:Nat) (k:Nat) (x:(Int)×(List (Int))×(Int)×Int):Option ((Int)):=bJ (aL (E0 N) ak 0 4 (bz t94 4) mA mB) k x
def dD (N:Nat):Nat→(Int)×(List (Int))×(Int)×Int→Option ((Int))
 |0,_=>none
 |k+1,(v0,v1,v2,v3)=>(bif (decide (v3<v2))
 then (Option.bind (idx v1 v3) fun x4=>
 (aZ (!decide (x4<0))
 (dD N k ((Gz .u64 v0 (dn ((1:Int)*(2 ^ min (Int.toNat x4) 64)))),v1,v2,(aH (v3+(1:Int)))))))
 else some v0)
theorem fC (N:Nat):∀ k,dD N k=AN N k
 |0=>rfl
 |k+1=>funext fun⟨v0,v1,v2,v3⟩=>by rw[dD,fC N k];kernel_rfl
def E1 (N:Nat):aA:=(E0 N).aj N 0 4 mA mB
theorem gI (N:Nat):aC aP (E1 N):=(cC N).aj N 0 4 mA mB
end f94
open f94 in
def XP (N:Nat):List (Int)→Option (Int)
 |p0=>(Option.bind (dD N N ((0:Int),p0,(p0.length:Int),(0:Int))) fun y5=>
 some y5)
theorem XQ (N:Nat):XP N=bC (f94.E1 N) ak 94 f94.args f94.ta f94.res f94.tr 0:=funext fun p0=>by rw[XP,f94.fC N N];kernel_rfl
def c94 (N:Nat):Sym.Callee:=⟨f94.args,f94.ta,f94.res,f94.tr,0,XP N⟩
theorem agb (N:Nat):bt aP 94 (c94 N):=(bF (f94.gI N) ak 94 f94.args f94.ta f94.res f94.tr 0).plain (XQ N)
namespace f54
def aO:Nat→Nat→Option (Nat×Ty):=fun c i=>match c,i with
 |0,5=>some (36,.bool)
 |_,_=>none
def bT:Nat→Nat→Option Ty:=fun c d=>match c,d with
 |0,39=>some (.int .u64)
 |0,74=>some (.int .u64)
 |0,77=>some .bool
 |1080000,10=>some (.int .i64)
 |1080000,39=>some (.int .i64)
 |_,_=>none
def args:List dJ:=[.c (.sl ah .aJ),.c (.int .i64),.c (.int .i64)]
def ta:List Ty:=[(.sl ah),(.int .i64),(.int .i64)]
def res:List (Bool×List cG):=[(false,[.sl (.int .u64) .d]),(false,[.int .i64])]
def tr:List Ty:=[(.sl (.int .u64)),(.int .i64)]
def E0 (N:Nat):aA:=((((aA.base aP aX aY aO cq bT).aa 75 (c75 N)).aa 55 (c55 N)).aa 94 (c94 N)).aa 120 (S5 N)
theorem cC (N:Nat):aC aP (E0 N):=((((aQ aP aX aY aO cq bT).aa (W6 N)).aa (Xa N)).aa (agb N)).aa (Pa N)
def AJ:cw:=⟨[(0,.c (.sl ah .aJ)),(2,.c (.int .i64)),(4,.c (.ptr 0 4 0 0 0)),(9,.c (.ptr 0 9 1 0 0)),(40,.c (.sl ah .aJ)),(41,.c (.int .i64)),(42,.c (.int .i64))],[],[(0,4,.box 0 [.int .i64]),(0,9,.box 1 [.ref 0 39 2 (.int .u64)]),(0,39,.row 2 (.int .u64))],1,[],3,[(.sl ah),(.int .i64),(.sl ah),(.int .i64),(.int .i64),(.int .i64),(.sl (.int .u64))]⟩
def AK:ck:=[(.ret,⟨[(6,.c (.nil true)),(7,.c (.int .i64))],[],[],1,[],0,[(.int .i64)]⟩),(.exit 0,⟨[(0,.c (.sl ah .aJ)),(4,.c (.ptr 0 4 0 0 0)),(9,.c (.ptr 0 9 1 0 0))],[],[(0,4,.box 0 [.int .i64]),(0,9,.box 1 [.ref 0 39 2 (.int .u64)]),(0,39,.row 2 (.int .u64))],1,[],3,[(.sl ah),(.int .i64),(.sl (.int .u64))]⟩)]
def OR (N:Nat) (k:Nat) (x:(List (Instr))×(Int)×(List (Instr))×(Int)×(Int)×(Int)×List (Int)):Option ((Int)⊕((List (Instr))×(Int)×List (Int))):=bJ (aL (E0 N) ak 0 11 (bz t54 11) AJ AK) k x
def jW (N:Nat):Nat→(List (Instr))×(Int)×(List (Instr))×(Int)×(Int)×(Int)×List (Int)→Option ((Int)⊕((List (Instr))×(Int)×List (Int)))
 |0,_=>none
 |k+1,(v2,v3,v4,v5,v6,v7,v8)=>(bif (decide (v6<v5))
 then (Option.bind (idx v4 v6) fun x9=>
 (Option.bind (UD N (x9.1,x9.2.1,x9.2.2.1,x9.2.2.2)) fun Mh=>
 (bif (Mh.2.2 != (0:Int))
 then some (Sum.inl Mh.2.2)
 else (Option.bind (XP N Mh.2.1) fun yE=>
 (aZ (jq v6 v8.length)
 ((Option.bind (v8[(Int.toNat v6)]?) fun x12=>
 (Option.bind (XP N Mh.1) fun GH=>
 (aZ (jq v6 (v8.set (Int.toNat v6) yE).length)
 ((Option.bind ((v8.set (Int.toNat v6) yE)[(Int.toNat v6)]?) fun Y5=>
 (aZ (!decide (v3<0))
 ((bif ((Int.fdiv (Gz .u64 GH Y5) (2 ^ min (Int.toNat v3) 64)) != (0:Int))
 then some (Sum.inl (16:Int))
 else jW N k (v2,v3,v4,v5,(aH (v6+(1:Int))),v7,(v8.set (Int.toNat v6) yE))))))))))))))))
 else some (Sum.inr (v2,v7,v8)))
theorem qE (N:Nat):∀ k,jW N k=OR N k
 |0=>rfl
 |k+1=>funext fun⟨v2,v3,v4,v5,v6,v7,v8⟩=>by rw[jW,qE N k];kernel_rfl
def E1 (N:Nat):aA:=(E0 N).aj N 0 11 AJ AK
theorem gI (N:Nat):aC aP (E1 N):=(cC N).aj N 0 11 AJ AK
def qO:cw:=⟨[(0,.c (.sl ah .aJ)),(1,.fV 95 [.ptr 0 4 0 0 0,.ptr 0 16 1 0 0,.ptr 0 15 2 0 0,.ptr 0 9 3 0 0]),(4,.c (.ref 1 10 4 (.int .i64))),(5,.c (.int .i64)),(27,.c (.sl (.int .i64) .d)),(28,.c (.int .i64)),(29,.c (.int .i64))],[[(15,.c (.ptr 0 15 2 0 0))]],[(0,4,.box 0 [.int .i64]),(0,16,.box 1 [.ref 0 77 5 .bool]),(0,77,.row 5 .bool),(0,15,.box 2 [.ref 0 74 6 (.int .u64)]),(0,74,.row 6 (.int .u64)),(0,9,.box 3 [.ref 0 39 7 (.int .u64)]),(0,39,.row 7 (.int .u64)),(1,10,.row 4 (.int .i64))],2,[],8,[(.sl ah),(.int .i64),(.sl (.int .i64)),(.int .i64),(.int .i64),(.int .i64),(.sl .bool),(.sl (.int .u64)),(.sl (.int .u64)),(.sl (.int .i64))]⟩
def qP:ck:=[(.exit 2,⟨[(0,.c (.sl ah .aJ)),(1,.fV 95 [.ptr 0 4 0 0 0,.ptr 0 16 1 0 0,.ptr 0 15 2 0 0,.ptr 0 9 3 0 0]),(4,.c (.ref 1 10 4 (.int .i64)))],[[(15,.c (.ptr 0 15 2 0 0))]],[(0,4,.box 0 [.int .i64]),(0,16,.box 1 [.ref 0 77 5 .bool]),(0,77,.row 5 .bool),(0,15,.box 2 [.ref 0 74 6 (.int .u64)]),(0,74,.row 6 (.int .u64)),(0,9,.box 3 [.ref 0 39 7 (.int .u64)]),(0,39,.row 7 (.int .u64)),(1,10,.row 4 (.int .i64))],2,[],8,[(.sl ah),(.int .i64),(.sl .bool),(.sl (.int .u64)),(.sl (.int .u64)),(.sl (.int .i64))]⟩)]
def GV (N:Nat) (k:Nat) (x:(List (Instr))×(Int)×(List (Int))×(Int)×(Int)×(Int)×(List (Bool))×(List (Int))×(List (Int))×List (Int)):Option (((List (Instr))×(Int)×(List (Bool))×(List (Int))×(List (Int))×List (Int))):=bJ (aL (E1 N) ak 1080000 11 (bz t76 11) qO qP) k x
def dS (N:Nat):Nat→(List (Instr))×(Int)×(List (Int))×(Int)×(Int)×(Int)×(List (Bool))×(List (Int))×(List (Int))×List (Int)→Option (((List (Instr))×(Int)×(List (Bool))×(List (Int))×(List (Int))×List (Int)))
 |0,_=>none
 |k+1,(v28,vW,v30,v31,yI,vX,s7,rN,BL,v37)=>(bif (decide (yI<v31))
 then (Option.bind (idx v30 yI) fun uZ=>
 (bif (decide (vW<(0:Int)))
 then (aZ (!decide (vX<0))
 ((aZ (jq uZ s7.length)
 ((Option.bind (s7[(Int.toNat uZ)]?) fun MY=>
 (aZ (jq uZ rN.length)
 ((Option.bind (rN[(Int.toNat uZ)]?) fun x40=>
 (aZ (room (v37.length+1) 8)
 (dS N k (v28,vW,v30,v31,(aH (yI+(1:Int))),vX,(s7.set (Int.toNat uZ) true),(rN.set (Int.toNat uZ) (dn ((dn ((1:Int)*(2 ^ min (Int.toNat vX) 64)))-(1:Int)))),BL,(v37++[uZ]))))))))))))
 else (aZ (jq vW rN.length)
 ((Option.bind (rN[(Int.toNat vW)]?) fun UE=>
 (aZ (jq vW BL.length)
 ((Option.bind (BL[(Int.toNat vW)]?) fun Zj=>
 (aZ (jq uZ s7.length)
 ((Option.bind (s7[(Int.toNat uZ)]?) fun Bu=>
 (bif (!Bu)
 then (aZ (jq uZ s7.length)
 ((Option.bind (s7[(Int.toNat uZ)]?) fun x44=>
 (aZ (jq uZ rN.length)
 ((Option.bind (rN[(Int.toNat uZ)]?) fun x45=>
 (aZ (room (v37.length+1) 8)
 (dS N k (v28,vW,v30,v31,(aH (yI+(1:Int))),vX,(s7.set (Int.toNat uZ) true),(rN.set (Int.toNat uZ) (Gz .u64 UE Zj)),BL,(v37++[uZ]))))))))))
 else (aZ (jq uZ rN.length)
 ((Option.bind (rN[(Int.toNat uZ)]?) fun x46=>
 (aZ (jq uZ rN.length)
 ((Option.bind (rN[(Int.toNat uZ)]?) fun x47=>
 (aZ (jq uZ rN.length)
 ((Option.bind (rN[(Int.toNat uZ)]?) fun x48=>
 (aZ (jq uZ (rN.set (Int.toNat uZ) (BH .u64 x47 (Gz .u64 UE Zj))).length)
 ((Option.bind ((rN.set (Int.toNat uZ) (BH .u64 x47 (Gz .u64 UE Zj)))[(Int.toNat uZ)]?) fun x49=>
 (bif (x49 != x46)
 then (aZ (room (v37.length+1) 8)
 (dS N k (v28,vW,v30,v31,(aH (yI+(1:Int))),vX,s7,(rN.set (Int.toNat uZ) (BH .u64 x47 (Gz .u64 UE Zj))),BL,(v37++[uZ]))))
 else dS N k (v28,vW,v30,v31,(aH (yI+(1:Int))),vX,s7,(rN.set (Int.toNat uZ) (BH .u64 x47 (Gz .u64 UE Zj))),BL,v37))))))))))))))))))))))))))
 else some (v28,vX,s7,rN,BL,v37))
theorem qQ (N:Nat):∀ k,dS N k=GV N k
 |0=>rfl
 |k+1=>funext fun⟨v28,vW,v30,v31,yI,vX,s7,rN,BL,v37⟩=>by rw[dS,qQ N k];kernel_rfl
def E2 (N:Nat):aA:=(E1 N).aj N 1080000 11 qO qP
theorem AM (N:Nat):aC aP (E2 N):=(gI N).aj N 1080000 11 qO qP
def tg:cw:=⟨[(0,.c (.sl ah .aJ)),(1,.fV 95 [.ptr 0 4 0 0 0,.ptr 0 16 1 0 0,.ptr 0 15 2 0 0,.ptr 0 9 3 0 0]),(4,.c (.ref 1 10 4 (.int .i64)))],[[(15,.c (.ptr 0 15 2 0 0))]],[(0,4,.box 0 [.int .i64]),(0,16,.box 1 [.ref 0 77 5 .bool]),(0,77,.row 5 .bool),(0,15,.box 2 [.ref 0 74 6 (.int .u64)]),(0,74,.row 6 (.int .u64)),(0,9,.box 3 [.ref 0 39 7 (.int .u64)]),(0,39,.row 7 (.int .u64)),(1,10,.row 4 (.int .i64))],2,[],8,[(.sl ah),(.int .i64),(.sl .bool),(.sl (.int .u64)),(.sl (.int .u64)),(.sl (.int .i64))]⟩
def th:ck:=[(.exit 0,⟨[],[[(15,.c (.ptr 0 15 0 0 0))]],[(0,15,.box 0 [.ref 0 74 1 (.int .u64)]),(0,74,.row 1 (.int .u64))],2,[],2,[(.sl (.int .u64))]⟩)]
def I9 (N:Nat) (k:Nat) (x:(List (Instr))×(Int)×(List (Bool))×(List (Int))×(List (Int))×List (Int)):Option ((List (Int))):=bJ (aL (E2 N) ak 1080000 3 (bz t76 3) tg th) k x
def iD (N:Nat):Nat→(List (Instr))×(Int)×(List (Bool))×(List (Int))×(List (Int))×List (Int)→Option ((List (Int)))
 |0,_=>none
 |k+1,(v20,v21,v22,ya,v24,s4)=>(bif (decide ((s4.length:Int)>(0:Int)))
 then (aZ (jq (aH ((s4.length:Int)-(1:Int))) s4.length)
 ((Option.bind (s4[(Int.toNat (aH ((s4.length:Int)-(1:Int))))]?) fun x26=>
 (aZ (decide (0≤(aH ((s4.length:Int)-(1:Int)))))
 ((aZ (decide ((Int.toNat (aH ((s4.length:Int)-(1:Int))))≤s4.length))
 ((Option.bind (GO N (v20,x26)) fun HD=>
 (Option.bind (dS N N (v20,x26,HD,(HD.length:Int),(0:Int),v21,v22,ya,v24,(s4.take (Int.toNat (aH ((s4.length:Int)-(1:Int))))))) fun Zl=>
 iD N k (Zl.1,Zl.2.1,Zl.2.2.1,Zl.2.2.2.1,Zl.2.2.2.2.1,Zl.2.2.2.2.2))))))))))
 else some ya)
theorem sj (N:Nat):∀ k,iD N k=I9 N k
 |0=>rfl
 |k+1=>funext fun⟨v20,v21,v22,ya,v24,s4⟩=>by rw[iD,sj N k,qQ N N];kernel_rfl
def E3 (N:Nat):aA:=(E2 N).aj N 1080000 3 tg th
theorem IW (N:Nat):aC aP (E3 N):=(AM N).aj N 1080000 3 tg th
end f54
open f54 in
def Tf (N:Nat):(List (Instr))×(Int)×Int→Option ((List (Int))×Int)
 |(p0,p1,p2)=>(Option.bind (UC N p0) fun y0=>
 (bif (y0 != (0:Int))
 then some ([],y0)
 else (Option.bind ((bif (decide (p2<(0:Int)))
 then some true
 else (bif (decide (p2>(16:Int)))
 then some true
 else (bif (decide (p1<(0:Int)))
 then some true
 else some (decide (p1>p2)))))) fun b1=>
 (bif b1
 then some ([],(2:Int))
 else (aZ (decide (0≤(p0.length:Int)))
 ((aZ (decide (0≤(p0.length:Int)))
 ((aZ (decide ((Int.toNat (p0.length:Int))≤(Int.toNat (p0.length:Int)))&&room (Int.toNat (p0.length:Int)) 8)
 ((Option.bind (jW N N (p0,p2,p0,(p0.length:Int),(0:Int),p1,(List.replicate (Int.toNat (p0.length:Int)) (0:Int)))) fun qG=>
 (match qG with
 |.inl a16=>some ([],a16)
 |.inr yH=>(aZ (decide (0≤(yH.1.length:Int)))
 ((aZ (decide (0≤(yH.1.length:Int)))
 ((aZ (decide ((Int.toNat (yH.1.length:Int))≤(Int.toNat (yH.1.length:Int)))&&room (Int.toNat (yH.1.length:Int)) 8)
 ((aZ (decide (0≤(yH.1.length:Int)))
 ((aZ (decide (0≤(yH.1.length:Int)))
 ((aZ (decide ((Int.toNat (yH.1.length:Int))≤(Int.toNat (yH.1.length:Int)))&&room (Int.toNat (yH.1.length:Int)) 1)
 ((aZ (!decide (yH.2.1<0))
 ((aZ (jq (0:Int) (List.replicate (Int.toNat (yH.1.length:Int)) false).length)
 ((Option.bind ((List.replicate (Int.toNat (yH.1.length:Int)) false)[(Int.toNat (0:Int))]?) fun x18=>
 (aZ (jq (0:Int) (List.replicate (Int.toNat (yH.1.length:Int)) (0:Int)).length)
 ((Option.bind ((List.replicate (Int.toNat (yH.1.length:Int)) (0:Int))[(Int.toNat (0:Int))]?) fun EB=>
 (Option.bind (iD N N (yH.1,yH.2.1,((List.replicate (Int.toNat (yH.1.length:Int)) false).set (Int.toNat (0:Int)) true),((List.replicate (Int.toNat (yH.1.length:Int)) (0:Int)).set (Int.toNat (0:Int)) (dn ((dn ((1:Int)*(2 ^ min (Int.toNat yH.2.1) 64)))-(1:Int)))),yH.2.2,[(0:Int)])) fun Zm=>
 (aZ (jq (aH ((Zm.length:Int)-(1:Int))) Zm.length)
 ((Option.bind (Zm[(Int.toNat (aH ((Zm.length:Int)-(1:Int))))]?) fun x52=>
 some ((Zm.set (Int.toNat (aH ((Zm.length:Int)-(1:Int)))) (0:Int)),(0:Int))))))))))))))))))))))))))))))))))))))
theorem XR (N:Nat):Tf N=bC (f54.E3 N) ak 54 f54.args f54.ta f54.res f54.tr 0:=funext fun⟨p0,p1,p2⟩=>by rw[Tf,f54.qE N N,f54.sj N N];kernel_rfl
def c54 (N:Nat):Sym.Callee:=⟨f54.args,f54.ta,f54.res,f54.tr,0,Tf N⟩
theorem agc (N:Nat):bt aP 54 (c54 N):=(bF (f54.IW N) ak 54 f54.args f54.ta f54.res f54.tr 0).plain (XR N)
namespace f56
def aO:Nat→Nat→Option (Nat×Ty):=fun c i=>match c,i with
 |0,13=>some (31,.bool)
 |_,_=>none
def bT:Nat→Nat→Option Ty:=fun c d=>match c,d with
 |0,39=>some aD
 |_,_=>none
def args:List dJ:=[.c (.sl (.int .u64) .aJ)]
def ta:List Ty:=[(.sl (.int .u64))]
def res:List (Bool×List cG):=[(false,[.sl aD .d]),(false,[.int .i64])]
def tr:List Ty:=[(.sl aD),(.int .i64)]
def E0 (N:Nat):aA:=(aA.base aP aX aY aO cq bT).aa 99 (c99 N)
theorem cC (N:Nat):aC aP (E0 N):=(aQ aP aX aY aO cq bT).aa (abN N)
def Ja:cw:=⟨[(0,.c (.sl (.int .u64) .aJ)),(5,.c (.sl aD (.app 0))),(14,.c (.int .i64)),(15,.c (.int .i64))],[],[],1,[0],1,[(.sl (.int .u64)),(.sl aD),(.int .i64),(.int .i64)]⟩
def Jb:ck:=[(.exit 0,⟨[(5,.c (.sl aD (.app 0)))],[],[],1,[0],1,[(.sl aD)]⟩)]
def XS (N:Nat) (k:Nat) (x:(List (Int))×(List (bD))×(Int)×Int):Option ((List (bD))):=bJ (aL (E0 N) ak 0 8 (bz t56 8) Ja Jb) k x
def rO (N:Nat):Nat→(List (Int))×(List (bD))×(Int)×Int→Option ((List (bD)))
 |0,_=>none
 |k+1,(v1,v2,v3,v4)=>(bif (decide (v4<v3))
 then (Option.bind ((bif (decide (v4>(0:Int)))
 then (Option.bind (idx v1 v4) fun x5=>
 (Option.bind (idx v1 (aH (v4-(1:Int)))) fun x6=>
 some (x5==x6)))
 else some false)) fun b7=>
 (bif b7
 then rO N k (v1,v2,v3,(aH (v4+(1:Int))))
 else (Option.bind (idx v1 v4) fun x8=>
 (aZ (room (v2.length+1) 16)
 (rO N k (v1,(v2++[(v4,x8)]),v3,(aH (v4+(1:Int)))))))))
 else some v2)
theorem u0 (N:Nat):∀ k,rO N k=XS N k
 |0=>rfl
 |k+1=>funext fun⟨v1,v2,v3,v4⟩=>by rw[rO,u0 N k];kernel_rfl
def E1 (N:Nat):aA:=(E0 N).aj N 0 8 Ja Jb
theorem gI (N:Nat):aC aP (E1 N):=(cC N).aj N 0 8 Ja Jb
end f56
open f56 in
def XT (N:Nat):List (Int)→Option ((List (bD))×Int)
 |p0=>(Option.bind (WS N (p0.length:Int)) fun y0=>
 (bif (y0 != (0:Int))
 then some ([],y0)
 else (Option.bind (rO N N (p0,[],(p0.length:Int),(0:Int))) fun y9=>
 some (y9,(0:Int)))))
theorem XU (N:Nat):XT N=bC (f56.E1 N) ak 56 f56.args f56.ta f56.res f56.tr 0:=funext fun p0=>by rw[XT,f56.u0 N N];kernel_rfl
def c56 (N:Nat):Sym.Callee:=⟨f56.args,f56.ta,f56.res,f56.tr,0,XT N⟩
theorem agd (N:Nat):bt aP 56 (c56 N):=(bF (f56.gI N) ak 56 f56.args f56.ta f56.res f56.tr 0).plain (XU N)
namespace f36
def aO:Nat→Nat→Option (Nat×Ty):=fun c i=>match c,i with
 |0,7=>some (53,.bool)
 |0,51=>some (139,.bool)
 |_,_=>none
def args:List dJ:=[.agg [.sl ai .d,.sl .str .d,.sl aG .d],.c (.int .i64)]
def ta:List Ty:=[(.sl ai),(.sl .str),(.sl aG),(.int .i64)]
def res:List (Bool×List cG):=[(true,[.sl aD .d,.sl aD .d,.int .i64,.int .i64])]
def tr:List Ty:=[(.sl aD),(.sl aD),(.int .i64),(.int .i64)]
def E0 (N:Nat):aA:=(((((((aA.base aP aX aY aO cq bT).aa 50 (c50 N)).aa 51 (c51 N)).aa 52 (c52 N)).aa 53 (c53 N)).aa 54 (c54 N)).aa 55 (c55 N)).aa 56 (c56 N)
theorem cC (N:Nat):aC aP (E0 N):=(((((((aQ aP aX aY aO cq bT).aa (afi N)).aa (afo N)).aa (af1 N)).aa (aga N)).aa (agc N)).aa (Xa N)).aa (agd N)
def Pq:cw:=⟨[(4,.c (.ptr 0 4 0 0 0)),(5,.c (.ptr 0 5 1 0 0)),(6,.c (.sl ah .d)),(7,.c (.sl .bool .d)),(55,.c (.sl ah .d)),(56,.c (.int .i64)),(57,.c (.int .i64))],[],[(0,4,.box 0 [.nil true,.nil true,.int .i64,.int .i64]),(0,5,.box 1 [.sl ai .d,.sl .str .d,.sl aG .d,.str,.int .i64,.int .i64,.sl av .d,.sl ah .d,.sl aD .d,.sl aD .d])],1,[],2,[(.sl ah),(.sl .bool),(.sl ah),(.int .i64),(.int .i64),(.int .i64),(.int .i64),(.sl ai),(.sl .str),(.sl aG),.str,(.int .i64),(.int .i64),(.sl av),(.sl ah),(.sl aD),(.sl aD)]⟩
def Pr:ck:=[(.ret,⟨[(4,.c (.ptr 0 4 0 0 0))],[],[(0,4,.box 0 [.nil true,.nil true,.int .i64,.int .i64])],1,[],1,[(.int .i64),(.int .i64)]⟩),(.exit 0,⟨[(4,.c (.ptr 0 4 0 0 0)),(5,.c (.ptr 0 5 1 0 0)),(6,.c (.sl ah .d))],[],[(0,4,.box 0 [.nil true,.nil true,.int .i64,.int .i64]),(0,5,.box 1 [.sl ai .d,.sl .str .d,.sl aG .d,.str,.int .i64,.int .i64,.sl av .d,.sl ah .d,.sl aD .d,.sl aD .d])],1,[],2,[(.sl ah),(.int .i64),(.int .i64),(.sl ai),(.sl .str),(.sl aG),.str,(.int .i64),(.int .i64),(.sl av),(.sl ah),(.sl aD),(.sl aD)]⟩)]
def acn (N:Nat) (k:Nat) (x:(List (Instr))×(List (Bool))×(List (Instr))×(Int)×(Int)×(Int)×(Int)×(List (aq))×(List (List UInt8))×(List (Func))×(List UInt8)×(Int)×(Int)×(List (Field))×(List (Instr))×(List (bD))×List (bD)):Option (((Int)×Int)⊕((List (Instr))×(Int)×(Int)×(List (aq))×(List (List UInt8))×(List (Func))×(List UInt8)×(Int)×(Int)×(List (Field))×(List (Instr))×(List (bD))×List (bD))):=bJ (aL (E0 N) ak 0 12 (bz t36 12) Pq Pr) k x
def AY (N:Nat):Nat→(List (Instr))×(List (Bool))×(List (Instr))×(Int)×(Int)×(Int)×(Int)×(List (aq))×(List (List UInt8))×(List (Func))×(List UInt8)×(Int)×(Int)×(List (Field))×(List (Instr))×(List (bD))×List (bD)→Option (((Int)×Int)⊕((List (Instr))×(Int)×(Int)×(List (aq))×(List (List UInt8))×(List (Func))×(List UInt8)×(Int)×(Int)×(List (Field))×(List (Instr))×(List (bD))×List (bD)))
 |0,_=>none
 |k+1,(v3,v4,v5,v6,v7,v8,v9,v10,v11,v12,mJ,lU,rZ,r6,r7,vP,yG)=>(bif (decide (v7<v6))
 then (Option.bind (idx v5 v7) fun Mm=>
 (Option.bind (Ze N (v10,v11,v12,mJ,lU,rZ,r6,r7,vP,yG,Mm.1,Mm.2.1,Mm.2.2.1,Mm.2.2.2)) fun EC=>
 (bif (EC != (0:Int))
 then some (Sum.inl (v7,(16:Int)))
 else (Option.bind (idx v4 v7) fun I3=>
 (bif (!I3)
 then some (Sum.inl (v7,(6:Int)))
 else (Option.bind (Zf N (v10,v11,v12,mJ,lU,rZ,r6,r7,vP,yG,Mm.1,Mm.2.1,Mm.2.2.1,Mm.2.2.2)) fun vR=>
 (bif (!vR)
 then some (Sum.inl (v7,(30:Int)))
 else AY N k (v3,v4,v5,v6,(aH (v7+(1:Int))),v8,v9,v10,v11,v12,mJ,lU,rZ,r6,r7,vP,yG))))))))
 else some (Sum.inr (v3,v8,v9,v10,v11,v12,mJ,lU,rZ,r6,r7,vP,yG)))
theorem GW (N:Nat):∀ k,AY N k=acn N k
 |0=>rfl
 |k+1=>funext fun⟨v3,v4,v5,v6,v7,v8,v9,v10,v11,v12,mJ,lU,rZ,r6,r7,vP,yG⟩=>by rw[AY,GW N k];kernel_rfl
def E1 (N:Nat):aA:=(E0 N).aj N 0 12 Pq Pr
theorem gI (N:Nat):aC aP (E1 N):=(cC N).aj N 0 12 Pq Pr
def Pt:cw:=⟨[(4,.c (.ptr 0 4 0 0 0)),(11,.c (.sl (.int .u64) .d)),(13,.c (.sl (.int .u64) .d)),(14,.c (.int .i64)),(18,.c (.int .i64)),(109,.c (.sl ah .d)),(110,.c (.int .i64)),(111,.c (.int .i64)),(122,.c (.sl (.int .i64) .d)),(123,.c (.int .i64)),(124,.c (.int .i64))],[],[(0,4,.box 0 [.nil true,.nil true,.int .i64,.int .i64])],1,[],1,[(.sl (.int .u64)),(.sl (.int .u64)),(.int .i64),(.int .i64),(.sl ah),(.int .i64),(.int .i64),(.sl (.int .i64)),(.int .i64),(.int .i64),(.int .i64),(.int .i64)]⟩
def Pu:ck:=[(.ret,⟨[(4,.c (.ptr 0 4 0 0 0))],[],[(0,4,.box 0 [.nil true,.nil true,.int .i64,.int .i64])],1,[],1,[(.int .i64),(.int .i64)]⟩),(.exit 5,⟨[(4,.c (.ptr 0 4 0 0 0)),(11,.c (.sl (.int .u64) .d)),(13,.c (.sl (.int .u64) .d)),(109,.c (.sl ah .d)),(110,.c (.int .i64)),(111,.c (.int .i64))],[],[(0,4,.box 0 [.nil true,.nil true,.int .i64,.int .i64])],1,[],1,[(.sl (.int .u64)),(.sl (.int .u64)),(.sl ah),(.int .i64),(.int .i64),(.int .i64),(.int .i64)]⟩)]
def aco (N:Nat) (k:Nat) (x:(List (Int))×(List (Int))×(Int)×(Int)×(List (Instr))×(Int)×(Int)×(List (Int))×(Int)×(Int)×(Int)×Int):Option (((Int)×Int)⊕((List (Int))×(List (Int))×(List (Instr))×(Int)×(Int)×(Int)×Int)):=bJ (aL (E1 N) ak 0 46 (bz t36 46) Pt Pu) k x
def CR (N:Nat):Nat→(List (Int))×(List (Int))×(Int)×(Int)×(List (Instr))×(Int)×(Int)×(List (Int))×(Int)×(Int)×(Int)×Int→Option (((Int)×Int)⊕((List (Int))×(List (Int))×(List (Instr))×(Int)×(Int)×(Int)×Int))
 |0,_=>none
 |k+1,(Mn,KA,v40,QL,MX,v43,v44,v45,v46,UF,O2,v49)=>(bif (decide (UF<v46))
 then (Option.bind (idx v45 UF) fun x50=>
 (Option.bind ((bif (QL != (0:Int))
 then some true
 else (Option.bind (idx KA v40) fun x51=>
 (aZ (!decide (x50<0))
 (some ((BH .u64 (Int.fdiv x51 (2 ^ min (Int.toNat x50) 64)) (1:Int))==(0:Int))))))) fun b52=>
 (bif b52
 then some (Sum.inl (v40,(38:Int)))
 else CR N k (Mn,KA,v40,QL,MX,v43,v44,v45,v46,(aH (UF+(1:Int))),O2,v49))))
 else some (Sum.inr (Mn,KA,MX,v43,v44,O2,v49)))
theorem GX (N:Nat):∀ k,CR N k=aco N k
 |0=>rfl
 |k+1=>funext fun⟨Mn,KA,v40,QL,MX,v43,v44,v45,v46,UF,O2,v49⟩=>by rw[CR,GX N k];kernel_rfl
def E2 (N:Nat):aA:=(E1 N).aj N 0 46 Pt Pu
theorem AM (N:Nat):aC aP (E2 N):=(gI N).aj N 0 46 Pt Pu
def Pv:cw:=⟨[(4,.c (.ptr 0 4 0 0 0)),(11,.c (.sl (.int .u64) .d)),(13,.c (.sl (.int .u64) .d)),(109,.c (.sl ah .d)),(110,.c (.int .i64)),(111,.c (.int .i64))],[],[(0,4,.box 0 [.nil true,.nil true,.int .i64,.int .i64])],1,[],1,[(.sl (.int .u64)),(.sl (.int .u64)),(.sl ah),(.int .i64),(.int .i64),(.int .i64),(.int .i64)]⟩
def Pw:ck:=[(.ret,⟨[(4,.c (.ptr 0 4 0 0 0))],[],[(0,4,.box 0 [.nil true,.nil true,.int .i64,.int .i64])],1,[],1,[(.int .i64),(.int .i64)]⟩),(.exit 3,⟨[(4,.c (.ptr 0 4 0 0 0)),(11,.c (.sl (.int .u64) .d)),(13,.c (.sl (.int .u64) .d))],[],[(0,4,.box 0 [.nil true,.nil true,.int .i64,.int .i64])],1,[],1,[(.sl (.int .u64)),(.sl (.int .u64)),(.int .i64),(.int .i64)]⟩)]
def acp (N:Nat) (k:Nat) (x:(List (Int))×(List (Int))×(List (Instr))×(Int)×(Int)×(Int)×Int):Option (((Int)×Int)⊕((List (Int))×(List (Int))×(Int)×Int)):=bJ (aL (E2 N) ak 0 38 (bz t36 38) Pv Pw) k x
def AZ (N:Nat):Nat→(List (Int))×(List (Int))×(List (Instr))×(Int)×(Int)×(Int)×Int→Option (((Int)×Int)⊕((List (Int))×(List (Int))×(Int)×Int))
 |0,_=>none
 |k+1,(vW,v30,v31,yI,vX,s7,rN)=>(bif (decide (vX<yI))
 then (Option.bind (idx v31 vX) fun x36=>
 (Option.bind (UD N (x36.1,x36.2.1,x36.2.2.1,x36.2.2.2)) fun GJ=>
 (Option.bind (CR N N (vW,v30,vX,GJ.2.2,v31,yI,vX,GJ.1,(GJ.1.length:Int),(0:Int),s7,rN)) fun y53=>
 (match y53 with
 |.inl a54=>some (Sum.inl (a54.1,a54.2))
 |.inr S6=>AZ N k (S6.1,S6.2.1,S6.2.2.1,S6.2.2.2.1,(aH (S6.2.2.2.2.1+(1:Int))),S6.2.2.2.2.2.1,S6.2.2.2.2.2.2)))))
 else some (Sum.inr (vW,v30,s7,rN)))
theorem GY (N:Nat):∀ k,AZ N k=acp N k
 |0=>rfl
 |k+1=>funext fun⟨vW,v30,v31,yI,vX,s7,rN⟩=>by rw[AZ,GY N k,GX N N];kernel_rfl
def E3 (N:Nat):aA:=(E2 N).aj N 0 38 Pv Pw
theorem IW (N:Nat):aC aP (E3 N):=(AM N).aj N 0 38 Pv Pw
end f36
open f36 in
def Px (N:Nat):(List (aq))×(List (List UInt8))×(List (Func))×Int→Option ((List (bD))×(List (bD))×(Int)×Int)
 |(p0,p1,p2,p3)=>(Option.bind (idx p2 p3) fun x0=>
 (Option.bind (W7 N x0.2.2.2.2.1) fun y1=>
 (bif (y1.2 != (0:Int))
 then some ([],[],(-1:Int),(12:Int))
 else (Option.bind ((bif (p3==(0:Int))
 then (bif (decide (x0.2.1>(0:Int)))
 then some true
 else some (decide (x0.2.2.1≥(0:Int))))
 else some false)) fun b2=>
 (bif b2
 then some ([],[],(-1:Int),(30:Int))
 else (Option.bind (AY N N (x0.2.2.2.2.1,y1.1,x0.2.2.2.2.1,(x0.2.2.2.2.1.length:Int),(0:Int),(0:Int),(0:Int),p0,p1,p2,x0.1,x0.2.1,x0.2.2.1,x0.2.2.2.1,x0.2.2.2.2.1,x0.2.2.2.2.2.1,x0.2.2.2.2.2.2)) fun Bt=>
 (match Bt with
 |.inl a25=>some ([],[],a25.1,a25.2)
 |.inr yJ=>(Option.bind (Zk N (yJ.2.2.2.1,yJ.2.2.2.2.1,yJ.2.2.2.2.2.1,yJ.2.2.2.2.2.2.1,yJ.2.2.2.2.2.2.2.1,yJ.2.2.2.2.2.2.2.2.1,yJ.2.2.2.2.2.2.2.2.2.1,yJ.2.2.2.2.2.2.2.2.2.2.1,yJ.2.2.2.2.2.2.2.2.2.2.2.1,yJ.2.2.2.2.2.2.2.2.2.2.2.2)) fun HD=>
 (bif (!HD.2)
 then some ([],[],(-1:Int),(36:Int))
 else (Option.bind (Tf N (yJ.1,yJ.2.2.2.2.2.2.2.1,(yJ.2.2.2.2.2.2.2.2.2.1.length:Int))) fun OW=>
 (bif (OW.2 != (0:Int))
 then some ([],[],(-1:Int),OW.2)
 else (Option.bind (AZ N N (HD.1,OW.1,yJ.1,(yJ.1.length:Int),(0:Int),yJ.2.1,yJ.2.2.1)) fun y56=>
 (match y56 with
 |.inl a57=>some ([],[],a57.1,a57.2)
 |.inr b58=>(Option.bind (XT N b58.1) fun y59=>
 (bif (y59.2==(0:Int))
 then (Option.bind (XT N b58.2.1) fun WY=>
 some (y59.1,WY.1,(0:Int),WY.2))
 else some (y59.1,[],(0:Int),y59.2))))))))))))))))
theorem XV (N:Nat):Px N=bC (f36.E3 N) ak 36 f36.args f36.ta f36.res f36.tr 0:=funext fun⟨p0,p1,p2,p3⟩=>by rw[Px,f36.GW N N,f36.GY N N];kernel_rfl
def c36 (N:Nat):Sym.Callee:=⟨f36.args,f36.ta,f36.res,f36.tr,0,Px N⟩
theorem agi (N:Nat):bt aP 36 (c36 N):=(bF (f36.IW N) ak 36 f36.args f36.ta f36.res f36.tr 0).plain (XV N)
namespace f24
def args:List dJ:=[.agg [.sl ai .d,.sl .str .d,.sl aG .d],.c (.int .i64)]
def ta:List Ty:=[(.sl ai),(.sl .str),(.sl aG),(.int .i64)]
def res:List (Bool×List cG):=[(true,[.str,.int .i64,.int .i64,.sl av .d,.sl ah .d,.sl aD .d,.sl aD .d]),(false,[.int .i64])]
def tr:List Ty:=[.str,(.int .i64),(.int .i64),(.sl av),(.sl ah),(.sl aD),(.sl aD),(.int .i64)]
def E0 (N:Nat):aA:=(((aA.base aP aX aY aO cq bT).aa 34 (c34 N)).aa 35 (c35 N)).aa 36 (c36 N)
theorem cC (N:Nat):aC aP (E0 N):=(((aQ aP aX aY aO cq bT).aa (afg N)).aa (afh N)).aa (agi N)
end f24
open f24 in
def UH (N:Nat):(List (aq))×(List (List UInt8))×(List (Func))×Int→Option ((List UInt8)×(Int)×(Int)×(List (Field))×(List (Instr))×(List (bD))×(List (bD))×Int)
 |(p0,p1,p2,p3)=>(Option.bind (W2 N (p0,p1,p2)) fun y0=>
 (bif (y0 != (0:Int))
 then some (([]:List UInt8),(0:Int),(0:Int),[],[],[],[],y0)
 else (Option.bind (Zc N (p2,p3)) fun y1=>
 (bif (!y1)
 then some (([]:List UInt8),(0:Int),(0:Int),[],[],[],[],(2:Int))
 else (Option.bind (Px N (p0,p1,p2,p3)) fun y2=>
 (bif (y2.2.2.2 != (0:Int))
 then some (([]:List UInt8),(0:Int),(0:Int),[],[],[],[],y2.2.2.2)
 else (Option.bind (idx p2 p3) fun x3=>
 (aZ (room x3.2.2.2.1.length 24)
 ((aZ (room x3.2.2.2.2.1.length 32)
 (some (x3.1,x3.2.1,x3.2.2.1,x3.2.2.2.1,x3.2.2.2.2.1,y2.1,y2.2.1,(0:Int)))))))))))))
theorem XX (N:Nat):UH N=bC (f24.E0 N) ak 24 f24.args f24.ta f24.res f24.tr 0:=funext fun⟨p0,p1,p2,p3⟩=>by rw[UH];kernel_rfl
def c24 (N:Nat):Sym.Callee:=⟨f24.args,f24.ta,f24.res,f24.tr,0,UH N⟩
theorem agj (N:Nat):bt aP 24 (c24 N):=(bF (f24.cC N) ak 24 f24.args f24.ta f24.res f24.tr 0).plain (XX N)
namespace f14
def bT:Nat→Nat→Option Ty:=fun c d=>match c,d with
 |0,11=>some aG
 |_,_=>none
def args:List dJ:=[.agg [.sl ai .d,.sl .str .d,.sl aG .d]]
def ta:List Ty:=[(.sl ai),(.sl .str),(.sl aG)]
def res:List (Bool×List cG):=[(true,[.sl ai .d,.sl .str .d,.sl aG .d]),(false,[.int .i64])]
def tr:List Ty:=[(.sl ai),(.sl .str),(.sl aG),(.int .i64)]
def E0 (N:Nat):aA:=(aA.base aP aX aY aO cq bT).aa 24 (c24 N)
theorem cC (N:Nat):aC aP (E0 N):=(aQ aP aX aY aO cq bT).aa (agj N)
def mA:cw:=⟨[(1,.c (.ptr 0 1 0 0 0)),(2,.c (.ptr 0 2 1 0 0)),(4,.c (.ref 0 11 2 aG)),(14,.c (.int .i64)),(15,.c (.int .i64))],[],[(0,1,.box 0 [.sl ai .d,.sl .str .d,.sl aG .d]),(0,2,.box 1 [.nil true,.nil true,.nil true]),(0,11,.row 2 aG)],1,[],3,[(.int .i64),(.int .i64),(.sl ai),(.sl .str),(.sl aG),(.sl aG)]⟩
def mB:ck:=[(.ret,⟨[(2,.c (.ptr 0 2 0 0 0)),(3,.c (.int .i64))],[],[(0,2,.box 0 [.nil true,.nil true,.nil true])],1,[],1,[(.int .i64)]⟩),(.exit 0,⟨[(1,.c (.ptr 0 1 0 0 0)),(2,.c (.ptr 0 2 1 0 0)),(4,.c (.ref 0 11 2 aG))],[],[(0,1,.box 0 [.sl ai .d,.sl .str .d,.sl aG .d]),(0,2,.box 1 [.nil true,.nil true,.nil true]),(0,11,.row 2 aG)],1,[],3,[(.sl ai),(.sl .str),(.sl aG),(.sl aG)]⟩)]
def AN (N:Nat) (k:Nat) (x:(Int)×(Int)×(List (aq))×(List (List UInt8))×(List (Func))×List (Func)):Option ((Int)⊕((List (aq))×(List (List UInt8))×(List (Func))×List (Func))):=bJ (aL (E0 N) ak 0 4 (bz t14 4) mA mB) k x
def dD (N:Nat):Nat→(Int)×(Int)×(List (aq))×(List (List UInt8))×(List (Func))×List (Func)→Option ((Int)⊕((List (aq))×(List (List UInt8))×(List (Func))×List (Func)))
 |0,_=>none
 |k+1,(v0,v1,v2,v3,v4,v5)=>(bif (decide (v1<v0))
 then (Option.bind (UH N (v2,v3,v4,v1)) fun y6=>
 (bif (y6.2.2.2.2.2.2.2 != (0:Int))
 then some (Sum.inl y6.2.2.2.2.2.2.2)
 else (aZ (jq v1 v5.length)
 ((Option.bind (v5[(Int.toNat v1)]?) fun x7=>
 dD N k (v0,(aH (v1+(1:Int))),v2,v3,v4,(v5.set (Int.toNat v1) (y6.1,y6.2.1,y6.2.2.1,y6.2.2.2.1,y6.2.2.2.2.1,y6.2.2.2.2.2.1,y6.2.2.2.2.2.2.1))))))))
 else some (Sum.inr (v2,v3,v4,v5)))
theorem fC (N:Nat):∀ k,dD N k=AN N k
 |0=>rfl
 |k+1=>funext fun⟨v0,v1,v2,v3,v4,v5⟩=>by rw[dD,fC N k];kernel_rfl
def E1 (N:Nat):aA:=(E0 N).aj N 0 4 mA mB
theorem gI (N:Nat):aC aP (E1 N):=(cC N).aj N 0 4 mA mB
end f14
open f14 in
def UI (N:Nat):(List (aq))×(List (List UInt8))×List (Func)→Option ((List (aq))×(List (List UInt8))×(List (Func))×Int)
 |(p0,p1,p2)=>(aZ (decide (0≤(p2.length:Int)))
 ((aZ (decide (0≤(p2.length:Int)))
 ((aZ (decide ((Int.toNat (p2.length:Int))≤(Int.toNat (p2.length:Int)))&&room (Int.toNat (p2.length:Int)) 128)
 ((Option.bind (dD N N ((p2.length:Int),(0:Int),p0,p1,p2,(List.replicate (Int.toNat (p2.length:Int)) (([]:List UInt8),(0:Int),(0:Int),[],[],[],[])))) fun y8=>
 (match y8 with
 |.inl a9=>some ([],[],[],a9)
 |.inr HC=>some (HC.1,HC.2.1,HC.2.2.2,(0:Int))))))))))
theorem XY (N:Nat):UI N=bC (f14.E1 N) ak 14 f14.args f14.ta f14.res f14.tr 0:=funext fun⟨p0,p1,p2⟩=>by rw[UI,f14.fC N N];kernel_rfl
def c14 (N:Nat):Sym.Callee:=⟨f14.args,f14.ta,f14.res,f14.tr,0,UI N⟩
theorem acq (N:Nat):bt aP 14 (c14 N):=(bF (f14.gI N) ak 14 f14.args f14.ta f14.res f14.tr 0).plain (XY N)
namespace f5
def bT:Nat→Nat→Option Ty:=fun c d=>match c,d with
 |0,36=>some av
 |0,41=>some ai
 |0,42=>some .str
 |0,59=>some aG
 |_,_=>none
def args:List dJ:=[.c (.sl (.int .i64) .aJ)]
def ta:List Ty:=[(.sl (.int .i64))]
def res:List (Bool×List cG):=[(true,[.sl ai .d,.sl .str .d,.sl aG .d]),(false,[.int .i64])]
def tr:List Ty:=[(.sl ai),(.sl .str),(.sl aG),(.int .i64)]
def E0 (N:Nat):aA:=((((aA.base aP aX aY aO cq bT).aa 12 (c12 N)).aa 13 (c13 N)).aa 15 (c15 N)).aa 14 (c14 N)
theorem cC (N:Nat):aC aP (E0 N):=((((aQ aP aX aY aO cq bT).aa (abk N)).aa (aeT N)).aa (abm N)).aa (acq N)
def mw:cw:=⟨[(2,.c (.ptr 0 2 0 0 0)),(4,.c (.ref 0 11 1 ah)),(12,.c (.sl (.int .i64) .aJ)),(13,.c (.int .i64)),(14,.c (.int .i64))],[],[(0,2,.box 0 [.nil true,.nil true,.nil true]),(0,11,.row 1 ah)],1,[],2,[(.sl (.int .i64)),(.int .i64),(.int .i64),(.sl ah)]⟩
def mz:ck:=[(.exit 0,⟨[(2,.c (.ptr 0 2 0 0 0)),(4,.c (.ref 0 11 1 ah))],[],[(0,2,.box 0 [.nil true,.nil true,.nil true]),(0,11,.row 1 ah)],1,[],2,[(.sl ah)]⟩)]
def AG (N:Nat) (k:Nat) (x:(List (Int))×(Int)×(Int)×List (Instr)):Option ((List (Instr))):=bJ (aL (E0 N) ak 0 7 (bz t5 7) mw mz) k x
def fA (N:Nat):Nat→(List (Int))×(Int)×(Int)×List (Instr)→Option ((List (Instr)))
 |0,_=>none
 |k+1,(v1,v2,v3,v4)=>(bif (decide (v3<v2))
 then (Option.bind (idx v1 v3) fun x5=>
 (Option.bind (xE N x5) fun y6=>
 (Option.bind (BJ N (y6,(v4.length:Int))) fun y7=>
 (aZ (room (v4.length+y7.length) 32)
 (fA N k (v1,v2,(aH (v3+(1:Int))),(v4++y7)))))))
 else some v4)
theorem fB (N:Nat):∀ k,fA N k=AG N k
 |0=>rfl
 |k+1=>funext fun⟨v1,v2,v3,v4⟩=>by rw[fA,fB N k];kernel_rfl
def E1 (N:Nat):aA:=(E0 N).aj N 0 7 mw mz
theorem gI (N:Nat):aC aP (E1 N):=(cC N).aj N 0 7 mw mz
end f5
open f5 in
def F5 (N:Nat):List (Int)→Option ((List (aq))×(List (List UInt8))×(List (Func))×Int)
 |p0=>(bif (decide ((p0.length:Int)>(60:Int)))
 then some ([],[],[],(4:Int))
 else (Option.bind (BJ N ([105,110,116,32,48,32,53,59,32,98,111,111,108,32,49,32,49,59,32,116,101,120,116,32,50,32,48,59,32,110,101,119,32,51,59,32,122,101,114,111,32,52,59,32,122,101,114,111,32,53,59,32,105,110,116,32,55,32,50,59,32,109,97,107,101,32,54,32,55,59,32,110,101,119,32,56],(0:Int))) fun y0=>
 (Option.bind (fA N N (p0,(p0.length:Int),(0:Int),y0)) fun y8=>
 (Option.bind (BJ N ([114,101,116,117,114,110,32,45,49],(0:Int))) fun y9=>
 (aZ (room (y8.length+y9.length) 32)
 ((Option.bind (Ma N ([109,97,105,110],[110,32,48,32,111,110,32,49,32,115,32,50,32,112,32,51,32,114,32,52,32,97,32,53,32,108,32,54,32,107,32,48,32,113,32,55],(0:Int),(-1:Int),(y8++y9))) fun Mh=>
 (Option.bind (BJ N ([105,110,116,32,49,32,49,59,32,108,101,115,115,32,50,32,48,32,49,59,32,98,114,97,110,99,104,32,50,32,56,59,32,115,117,98,32,49,32,48,32,49,59,32,97,114,103,32,49,59,32,99,97,108,108,32,49,32,49,59,32,97,100,100,32,49,32,49,32,48,59,32,114,101,116,117,114,110,32,49,59,32,114,101,116,117,114,110,32,48,59,32,114,101,116,117,114,110,32,45,49],(0:Int))) fun yE=>
 (Option.bind (Ma N ([119,111,114,107],[110,32,48,32,107,32,48,32,111,110,32,49],(1:Int),(0:Int),yE)) fun AQ=>
 (Option.bind (BJ N ([114,101,99,111,118,101,114,32,49,32,50,59,32,98,114,97,110,99,104,32,49,32,52,59,32,108,101,115,115,32,49,32,48,32,50,59,32,98,114,97,110,99,104,32,49,32,53,59,32,114,101,116,117,114,110,32,45,49,59,32,112,97,110,105,99,32,48,59,32,114,101,116,117,114,110,32,45,49],(0:Int))) fun GH=>
 (Option.bind (Ma N ([108,97,116,101],[110,32,48,32,111,110,32,49,32,107,32,48],(1:Int),(-1:Int),GH)) fun tA=>
 (Option.bind (BJ N ([121,105,101,108,100,59,32,119,97,107,101,32,49,32,48,59,32,98,114,97,110,99,104,32,49,32,52,59,32,98,108,111,99,107,32,48,59,32,114,101,116,117,114,110,32,45,49],(0:Int))) fun qG=>
 (Option.bind (Ma N ([116,97,115,107],[107,32,48,32,111,110,32,49],(1:Int),(-1:Int),qG)) fun ld=>
 (Option.bind (BJ N ([112,97,110,105,99,32,48,59,32,114,101,116,117,114,110,32,45,49],(0:Int))) fun yF=>
 (Option.bind (Ma N ([102,97,105,108],[110,32,48],(1:Int),(-1:Int),yF)) fun GM=>
 (Option.bind (BJ N ([101,120,105,116,59,32,114,101,116,117,114,110,32,45,49],(0:Int))) fun xG=>
 (Option.bind (Ma N ([108,101,97,118,101],([]:List UInt8),(0:Int),(-1:Int),xG)) fun MU=>
 (Option.bind (BJ N ([114,101,99,111,118,101,114,32,48,32,49,59,32,114,101,116,117,114,110,32,45,49],(0:Int))) fun EC=>
 (Option.bind (Ma N ([113,117,105,101,116],[111,110,32,49,32,110,32,48],(0:Int),(-1:Int),EC)) fun MV=>
 (Option.bind (BJ N ([114,101,99,111,118,101,114,32,49,32,50,59,32,112,97,110,105,99,32,48,59,32,114,101,116,117,114,110,32,45,49],(0:Int))) fun vR=>
 (Option.bind (Ma N ([97,103,97,105,110],[110,32,48,32,111,110,32,49,32,107,32,48],(1:Int),(-1:Int),vR)) fun Bt=>
 (Option.bind (UI N ([((2:Int),(0:Int),(0:Int),[]),((1:Int),(0:Int),(0:Int),[]),((3:Int),(0:Int),(0:Int),[]),((4:Int),(0:Int),(0:Int),[]),((5:Int),(0:Int),(0:Int),[([110],(0:Int)),([111,110],(1:Int)),([97,116],(3:Int))]),((6:Int),(0:Int),(3:Int),[]),((7:Int),(0:Int),(0:Int),[]),((4:Int),(4:Int),(0:Int),[])],[[108,97,116,101],[116,97,115,107],[98,111,111,109]],[Mh,AQ,tA,ld,GM,MU,MV,Bt])) fun xZ=>
 some (xZ.1,xZ.2.1,xZ.2.2.1,xZ.2.2.2)))))))))))))))))))))))
theorem acr (N:Nat):F5 N=bC (f5.E1 N) ak 5 f5.args f5.ta f5.res f5.tr 0:=funext fun p0=>by rw[F5,f5.fB N N];kernel_rfl
def c5 (N:Nat):Sym.Callee:=⟨f5.args,f5.ta,f5.res,f5.tr,0,F5 N⟩
theorem Y8 (N:Nat):bt aP 5 (c5 N):=(bF (f5.gI N) ak 5 f5.args f5.ta f5.res f5.tr 0).plain (acr N)
namespace f8
def aO:Nat→Nat→Option (Nat×Ty):=fun c i=>match c,i with
 |0,1=>some (26,.bool)
 |0,17=>some (9,.str)
 |0,20=>some (9,.str)
 |_,_=>none
def bT:Nat→Nat→Option Ty:=fun c d=>match c,d with
 |0,30=>some ai
 |0,73=>some aG
 |_,_=>none
def args:List dJ:=[.c (.sl (.int .i64) .aJ),.c (.sl .bool .aJ)]
def ta:List Ty:=[(.sl (.int .i64)),(.sl .bool)]
def res:List (Bool×List cG):=[(true,[.sl ai .d,.sl .str .d,.sl aG .d]),(false,[.int .i64])]
def tr:List Ty:=[(.sl ai),(.sl .str),(.sl aG),(.int .i64)]
def E0 (N:Nat):aA:=((((aA.base aP aX aY aO cq bT).aa 18 (c18 N)).aa 12 (c12 N)).aa 15 (c15 N)).aa 14 (c14 N)
theorem cC (N:Nat):aC aP (E0 N):=((((aQ aP aX aY aO cq bT).aa (abl N)).aa (abk N)).aa (abm N)).aa (acq N)
def mw:cw:=⟨[(0,.c (.sl (.int .i64) .aJ)),(1,.c (.sl .bool .aJ)),(4,.c (.ptr 0 4 0 0 0)),(6,.c (.ptr 0 6 1 0 0)),(32,.c (.sl (.int .i64) .aJ)),(33,.c (.int .i64)),(34,.c (.int .i64))],[],[(0,4,.box 0 [.nil true,.nil true,.nil true]),(0,6,.box 1 [.sl ai .full,.nil true,.sl aG (.app 2)])],1,[2],3,[(.sl (.int .i64)),(.sl .bool),(.sl (.int .i64)),(.int .i64),(.int .i64),(.sl ai),(.sl aG)]⟩
def mz:ck:=[(.exit 0,⟨[(4,.c (.ptr 0 4 0 0 0)),(6,.c (.ptr 0 6 1 0 0))],[],[(0,4,.box 0 [.nil true,.nil true,.nil true]),(0,6,.box 1 [.sl ai .full,.nil true,.sl aG (.app 2)])],1,[2],3,[(.sl ai),(.sl aG)]⟩)]
def AG (N:Nat) (k:Nat) (x:(List (Int))×(List (Bool))×(List (Int))×(Int)×(Int)×(List (aq))×List (Func)):Option (((List (aq))×List (Func))):=bJ (aL (E0 N) ak 0 7 (bz t8 7) mw mz) k x
def fA (N:Nat):Nat→(List (Int))×(List (Bool))×(List (Int))×(Int)×(Int)×(List (aq))×List (Func)→Option (((List (aq))×List (Func)))
 |0,_=>none
 |k+1,(v1,v2,v3,v4,v5,v6,v7)=>(bif (decide (v5<v4))
 then (Option.bind (idx v3 v5) fun x8=>
 (bif (decide (v5>(0:Int)))
 then (Option.bind (Y2 N v5) fun y9=>
 (aZ (!decide ((([102].length+y9.length:Nat):Int)>IntKind.i64.max))
 ((Option.bind (idx v2 (aH (v5-(1:Int)))) fun pH=>
 (Option.bind ((bif pH
 then some [114,101,99,111,118,101,114,32,49,32,50,59,32]
 else some ([]:List UInt8))) fun WJ=>
 (Option.bind ((bif (decide ((aH (v5+(1:Int)))<(v1.length:Int)))
 then (Option.bind (Y2 N (aH (v5+(1:Int)))) fun AQ=>
 (aZ (!decide ((([100,101,102,101,114,32].length+AQ.length:Nat):Int)>IntKind.i64.max))
 ((aZ (!decide (((([100,101,102,101,114,32]++AQ).length+[59,32].length:Nat):Int)>IntKind.i64.max))
 ((aZ (!decide (((WJ.length+(([100,101,102,101,114,32]++AQ)++[59,32]).length:Nat):Int)>IntKind.i64.max))
 (some (WJ++(([100,101,102,101,114,32]++AQ)++[59,32])))))))))
 else some WJ)) fun GI=>
 (Option.bind (Y2 N x8) fun tA=>
 (aZ (!decide ((([105,110,116,32,48,32].length+tA.length:Nat):Int)>IntKind.i64.max))
 ((aZ (!decide (((([105,110,116,32,48,32]++tA).length+[59,32,112,97,110,105,99,32,48,59,32,114,101,116,117,114,110,32,45,49].length:Nat):Int)>IntKind.i64.max))
 ((aZ (!decide (((GI.length+(([105,110,116,32,48,32]++tA)++[59,32,112,97,110,105,99,32,48,59,32,114,101,116,117,114,110,32,45,49]).length:Nat):Int)>IntKind.i64.max))
 ((Option.bind (BJ N ((GI++(([105,110,116,32,48,32]++tA)++[59,32,112,97,110,105,99,32,48,59,32,114,101,116,117,114,110,32,45,49])),(0:Int))) fun qG=>
 (Option.bind (Ma N (([102]++y9),[110,32,48,32,111,110,32,49,32,107,32,48],(0:Int),(-1:Int),qG)) fun ld=>
 (aZ (room (v7.length+1) 128)
 (fA N k (v1,v2,v3,v4,(aH (v5+(1:Int))),v6,(v7++[ld])))))))))))))))))))
 else (Option.bind ((bif (decide ((aH (v5+(1:Int)))<(v1.length:Int)))
 then (Option.bind (Y2 N (aH (v5+(1:Int)))) fun yF=>
 (aZ (!decide ((([100,101,102,101,114,32].length+yF.length:Nat):Int)>IntKind.i64.max))
 ((aZ (!decide (((([100,101,102,101,114,32]++yF).length+[59,32].length:Nat):Int)>IntKind.i64.max))
 ((aZ (!decide (((([]:List UInt8).length+(([100,101,102,101,114,32]++yF)++[59,32]).length:Nat):Int)>IntKind.i64.max))
 (some (([]:List UInt8)++(([100,101,102,101,114,32]++yF)++[59,32])))))))))
 else some ([]:List UInt8))) fun CQ=>
 (Option.bind (Y2 N x8) fun xG=>
 (aZ (!decide ((([105,110,116,32,48,32].length+xG.length:Nat):Int)>IntKind.i64.max))
 ((aZ (!decide (((([105,110,116,32,48,32]++xG).length+[59,32,112,97,110,105,99,32,48,59,32,114,101,116,117,114,110,32,45,49].length:Nat):Int)>IntKind.i64.max))
 ((aZ (!decide (((CQ.length+(([105,110,116,32,48,32]++xG)++[59,32,112,97,110,105,99,32,48,59,32,114,101,116,117,114,110,32,45,49]).length:Nat):Int)>IntKind.i64.max))
 ((Option.bind (BJ N ((CQ++(([105,110,116,32,48,32]++xG)++[59,32,112,97,110,105,99,32,48,59,32,114,101,116,117,114,110,32,45,49])),(0:Int))) fun MU=>
 (Option.bind (Ma N ([109,97,105,110],[110,32,48,32,111,110,32,49,32,107,32,48],(0:Int),(-1:Int),MU)) fun EC=>
 (aZ (room (v7.length+1) 128)
 (fA N k (v1,v2,v3,v4,(aH (v5+(1:Int))),v6,(v7++[EC]))))))))))))))))
 else some (v6,v7))
theorem fB (N:Nat):∀ k,fA N k=AG N k
 |0=>rfl
 |k+1=>funext fun⟨v1,v2,v3,v4,v5,v6,v7⟩=>by rw[fA,fB N k];kernel_rfl
def E1 (N:Nat):aA:=(E0 N).aj N 0 7 mw mz
theorem gI (N:Nat):aC aP (E1 N):=(cC N).aj N 0 7 mw mz
end f8
open f8 in
def F8 (N:Nat):(List (Int))×List (Bool)→Option ((List (aq))×(List (List UInt8))×(List (Func))×Int)
 |(p0,p1)=>(Option.bind ((bif (decide ((p0.length:Int)<(1:Int)))
 then some true
 else (bif (decide ((p0.length:Int)>(20:Int)))
 then some true
 else some ((p1.length:Int) != (aH ((p0.length:Int)-(1:Int))))))) fun b0=>
 (bif b0
 then some ([],[],[],(2:Int))
 else (Option.bind (fA N N (p0,p1,p0,(p0.length:Int),(0:Int),[((2:Int),(0:Int),(0:Int),[]),((1:Int),(0:Int),(0:Int),[])],[])) fun MV=>
 (Option.bind (UI N (MV.1,[],MV.2)) fun vR=>
 some (vR.1,vR.2.1,vR.2.2.1,vR.2.2.2)))))
theorem acs (N:Nat):F8 N=bC (f8.E1 N) ak 8 f8.args f8.ta f8.res f8.tr 0:=funext fun⟨p0,p1⟩=>by rw[F8,f8.fB N N];kernel_rfl
def c8 (N:Nat):Sym.Callee:=⟨f8.args,f8.ta,f8.res,f8.tr,0,F8 N⟩
theorem ok8 (N:Nat):bt aP 8 (c8 N):=(bF (f8.gI N) ak 8 f8.args f8.ta f8.res f8.tr 0).plain (acs N)
namespace f9
def args:List dJ:=[.c (.int .u8),.c (.int .i64),.c (.int .i64)]
def ta:List Ty:=[(.int .u8),(.int .i64),(.int .i64)]
def res:List (Bool×List cG):=[(true,[.int .u8,.int .i64,.int .i64,.int .i64])]
def tr:List Ty:=[(.int .u8),(.int .i64),(.int .i64),(.int .i64)]
def E0 (N:Nat):aA:=aA.base aP aX aY aO cq bT
theorem cC (N:Nat):aC aP (E0 N):=aQ aP aX aY aO cq bT
end f9
open f9 in
def F9 (N:Nat):(Int)×(Int)×Int→Option ((Int)×(Int)×(Int)×Int)
 |(p0,p1,p2)=>some (p0,p1,p2,(0:Int))
theorem acu (N:Nat):F9 N=bC (f9.E0 N) ak 9 f9.args f9.ta f9.res f9.tr 0:=funext fun⟨p0,p1,p2⟩=>by rw[F9];kernel_rfl
def c9 (N:Nat):Sym.Callee:=⟨f9.args,f9.ta,f9.res,f9.tr,0,F9 N⟩
theorem ok9 (N:Nat):bt aP 9 (c9 N):=(bF (f9.cC N) ak 9 f9.args f9.ta f9.res f9.tr 0).plain (acu N)
namespace f10
def args:List dJ:=[.c (.sl aD .aJ),.c (.sl aD .aJ)]
def ta:List Ty:=[(.sl aD),(.sl aD)]
def res:List (Bool×List cG):=[(false,[.bool])]
def tr:List Ty:=[.bool]
def E0 (N:Nat):aA:=aA.base aP aX aY aO cq bT
theorem cC (N:Nat):aC aP (E0 N):=aQ aP aX aY aO cq bT
def fG:cw:=⟨[(0,.c (.sl aD .aJ)),(1,.c (.sl aD .aJ)),(5,.c (.int .i64))],[],[],1,[],0,[(.sl aD),(.sl aD),(.int .i64)]⟩
def fH:ck:=[(.ret,⟨[(4,.c (.bool))],[],[],1,[],0,[.bool]⟩),(.exit 0,⟨[],[],[],1,[],0,[]⟩)]
def nh (N:Nat) (k:Nat) (x:(List (bD))×(List (bD))×Int):Option ((Bool)⊕(Unit)):=bJ (aL (E0 N) ak 0 6 (bz t10 6) fG fH) k x
def cc (N:Nat):Nat→(List (bD))×(List (bD))×Int→Option ((Bool)⊕(Unit))
 |0,_=>none
 |k+1,(v0,v1,v2)=>(bif (decide (v2<(v0.length:Int)))
 then (Option.bind (idx v0 v2) fun x3=>
 (Option.bind (idx v1 v2) fun x4=>
 (bif (!(x3.1==x4.1&&(x3.2==x4.2&&true)))
 then some (Sum.inl false)
 else cc N k (v0,v1,(aH (v2+(1:Int)))))))
 else some (Sum.inr ()))
theorem ct (N:Nat):∀ k,cc N k=nh N k
 |0=>rfl
 |k+1=>funext fun⟨v0,v1,v2⟩=>by rw[cc,ct N k];kernel_rfl
def E1 (N:Nat):aA:=(E0 N).aj N 0 6 fG fH
theorem gI (N:Nat):aC aP (E1 N):=(cC N).aj N 0 6 fG fH
end f10
open f10 in
def UJ (N:Nat):(List (bD))×List (bD)→Option (Bool)
 |(p0,p1)=>(bif ((p0.length:Int) != (p1.length:Int))
 then some false
 else (Option.bind (cc N N (p0,p1,(0:Int))) fun y5=>
 (match y5 with
 |.inl a6=>some a6
 |.inr b7=>some true)))
theorem XZ (N:Nat):UJ N=bC (f10.E1 N) ak 10 f10.args f10.ta f10.res f10.tr 0:=funext fun⟨p0,p1⟩=>by rw[UJ,f10.ct N N];kernel_rfl
def c10 (N:Nat):Sym.Callee:=⟨f10.args,f10.ta,f10.res,f10.tr,0,UJ N⟩
theorem acv (N:Nat):bt aP 10 (c10 N):=(bF (f10.gI N) ak 10 f10.args f10.ta f10.res f10.tr 0).plain (XZ N)
namespace f7
def args:List dJ:=[.c (.sl ah .aJ),.c (.sl ah .aJ)]
def ta:List Ty:=[(.sl ah),(.sl ah)]
def res:List (Bool×List cG):=[(false,[.bool])]
def tr:List Ty:=[.bool]
def E0 (N:Nat):aA:=aA.base aP aX aY aO cq bT
theorem cC (N:Nat):aC aP (E0 N):=aQ aP aX aY aO cq bT
def fG:cw:=⟨[(0,.c (.sl ah .aJ)),(1,.c (.sl ah .aJ)),(5,.c (.int .i64))],[],[],1,[],0,[(.sl ah),(.sl ah),(.int .i64)]⟩
def fH:ck:=[(.ret,⟨[(4,.c (.bool))],[],[],1,[],0,[.bool]⟩),(.exit 0,⟨[],[],[],1,[],0,[]⟩)]
def nh (N:Nat) (k:Nat) (x:(List (Instr))×(List (Instr))×Int):Option ((Bool)⊕(Unit)):=bJ (aL (E0 N) ak 0 6 (bz t7 6) fG fH) k x
def cc (N:Nat):Nat→(List (Instr))×(List (Instr))×Int→Option ((Bool)⊕(Unit))
 |0,_=>none
 |k+1,(v0,v1,v2)=>(bif (decide (v2<(v0.length:Int)))
 then (Option.bind (idx v0 v2) fun x3=>
 (Option.bind (idx v1 v2) fun x4=>
 (bif (!(x3.1==x4.1&&(x3.2.1==x4.2.1&&(x3.2.2.1==x4.2.2.1&&(x3.2.2.2==x4.2.2.2&&true)))))
 then some (Sum.inl false)
 else cc N k (v0,v1,(aH (v2+(1:Int)))))))
 else some (Sum.inr ()))
theorem ct (N:Nat):∀ k,cc N k=nh N k
 |0=>rfl
 |k+1=>funext fun⟨v0,v1,v2⟩=>by rw[cc,ct N k];kernel_rfl
def E1 (N:Nat):aA:=(E0 N).aj N 0 6 fG fH
theorem gI (N:Nat):aC aP (E1 N):=(cC N).aj N 0 6 fG fH
end f7
open f7 in
def F7 (N:Nat):(List (Instr))×List (Instr)→Option (Bool)
 |(p0,p1)=>(bif ((p0.length:Int) != (p1.length:Int))
 then some false
 else (Option.bind (cc N N (p0,p1,(0:Int))) fun y5=>
 (match y5 with
 |.inl a6=>some a6
 |.inr b7=>some true)))
theorem acw (N:Nat):F7 N=bC (f7.E1 N) ak 7 f7.args f7.ta f7.res f7.tr 0:=funext fun⟨p0,p1⟩=>by rw[F7,f7.ct N N];kernel_rfl
def c7 (N:Nat):Sym.Callee:=⟨f7.args,f7.ta,f7.res,f7.tr,0,F7 N⟩
theorem W0 (N:Nat):bt aP 7 (c7 N):=(bF (f7.gI N) ak 7 f7.args f7.ta f7.res f7.tr 0).plain (acw N)
namespace f11
def aO:Nat→Nat→Option (Nat×Ty):=fun c i=>match c,i with
 |0,1=>some (6,.bool)
 |_,_=>none
def args:List dJ:=[.agg [.sl ai .aJ,.sl .str .aJ,.sl aG .aJ],.c (.int .i64),.c (.sl ah .aJ)]
def ta:List Ty:=[(.sl ai),(.sl .str),(.sl aG),(.int .i64),(.sl ah)]
def res:List (Bool×List cG):=[(false,[.bool])]
def tr:List Ty:=[.bool]
def E0 (N:Nat):aA:=(aA.base aP aX aY aO cq bT).aa 7 (c7 N)
theorem cC (N:Nat):aC aP (E0 N):=(aQ aP aX aY aO cq bT).aa (W0 N)
end f11
open f11 in
def F11 (N:Nat):(List (aq))×(List (List UInt8))×(List (Func))×(Int)×List (Instr)→Option (Bool)
 |(p0,p1,p2,p3,p4)=>(Option.bind ((bif (decide (p3<(p2.length:Int)))
 then (Option.bind (idx p2 p3) fun x0=>
 (Option.bind (F7 N (x0.2.2.2.2.1,p4)) fun y1=>
 some y1))
 else some false)) fun b2=>
 some b2)
theorem X0 (N:Nat):F11 N=bC (f11.E0 N) ak 11 f11.args f11.ta f11.res f11.tr 0:=funext fun⟨p0,p1,p2,p3,p4⟩=>by rw[F11];kernel_rfl
def c11 (N:Nat):Sym.Callee:=⟨f11.args,f11.ta,f11.res,f11.tr,0,F11 N⟩
theorem agm (N:Nat):bt aP 11 (c11 N):=(bF (f11.cC N) ak 11 f11.args f11.ta f11.res f11.tr 0).plain (X0 N)
namespace f4
def aO:Nat→Nat→Option (Nat×Ty):=fun c i=>match c,i with
 |0,4=>some (69,.bool)
 |_,_=>none
def bT:Nat→Nat→Option Ty:=fun c d=>match c,d with
 |0,14=>some (.int .i64)
 |0,19=>some (.int .i64)
 |0,20=>some .bool
 |_,_=>none
def args:List dJ:=[]
def ta:List Ty:=[]
def res:List (Bool×List cG):=[(false,[.bool])]
def tr:List Ty:=[.bool]
def E0 (N:Nat):aA:=(((((aA.base aP aX aY aO cq bT).aa 5 (c5 N)).aa 8 (c8 N)).aa 9 (c9 N)).aa 10 (c10 N)).aa 11 (c11 N)
theorem cC (N:Nat):aC aP (E0 N):=(((((aQ aP aX aY aO cq bT).aa (Y8 N)).aa (ok8 N)).aa (ok9 N)).aa (acv N)).aa (agm N)
end f4
open f4 in
def F4 (N:Nat):Unit→Option (Bool)
 |()=>(Option.bind (F5 N []) fun y0=>
 (Option.bind (F5 N [(24:Int)]) fun y1=>
 (Option.bind (F8 N ([(1:Int),(2:Int),(3:Int)],[true,false])) fun y2=>
 (Option.bind ((bif (y0.2.2.2 != (0:Int))
 then some true
 else (bif (y1.2.2.2 != (0:Int))
 then some true
 else (bif (y2.2.2.2 != (0:Int))
 then some true
 else (bif ((y0.2.2.1.length:Int) != (8:Int))
 then some true
 else (bif ((y1.2.2.1.length:Int) != (8:Int))
 then some true
 else (bif ((y2.2.2.1.length:Int) != (3:Int))
 then some true
 else (Option.bind (idx y0.2.2.1 (0:Int)) fun x3=>
 (bif ((x3.2.2.2.2.1.length:Int) != (10:Int))
 then some true
 else (Option.bind (idx y1.2.2.1 (0:Int)) fun x4=>
 some ((x4.2.2.2.2.1.length:Int) != (12:Int)))))))))))) fun b5=>
 (bif b5
 then some false
 else (Option.bind (F9 N ((34:Int),(-1:Int),(0:Int))) fun y6=>
 (Option.bind (idx y1.2.2.1 (0:Int)) fun x7=>
 (Option.bind (idx x7.2.2.2.2.1 (9:Int)) fun x8=>
 (Option.bind (F9 N ((24:Int),(0:Int),(0:Int))) fun y9=>
 (bif (x8.1==y9.1&&(x8.2.1==y9.2.1&&(x8.2.2.1==y9.2.2.1&&(x8.2.2.2==y9.2.2.2&&true))))
 then (Option.bind (idx y1.2.2.1 (0:Int)) fun pH=>
 (Option.bind (idx pH.2.2.2.2.1 (10:Int)) fun MW=>
 (Option.bind (F9 N ((25:Int),(0:Int),(1:Int))) fun AQ=>
 (bif (MW.1==AQ.1&&(MW.2.1==AQ.2.1&&(MW.2.2.1==AQ.2.2.1&&(MW.2.2.2==AQ.2.2.2&&true))))
 then (Option.bind (idx y1.2.2.1 (0:Int)) fun Ur=>
 (Option.bind (UJ N (Ur.2.2.2.2.2.1,[((0:Int),(0:Int)),((10:Int),(8:Int)),((11:Int),(0:Int))])) fun tA=>
 (bif tA
 then (Option.bind (F9 N ((26:Int),(1:Int),(0:Int))) fun qG=>
 (Option.bind (F9 N ((1:Int),(0:Int),(1:Int))) fun ld=>
 (Option.bind (F9 N ((28:Int),(0:Int),(0:Int))) fun yF=>
 (Option.bind (F11 N (y2.1,y2.2.1,y2.2.2.1,(0:Int),[qG,ld,yF,y6])) fun GM=>
 (bif GM
 then (Option.bind (F9 N ((29:Int),(1:Int),(2:Int))) fun xG=>
 (Option.bind (F9 N ((26:Int),(2:Int),(0:Int))) fun MU=>
 (Option.bind (F9 N ((1:Int),(0:Int),(2:Int))) fun EC=>
 (Option.bind (F9 N ((28:Int),(0:Int),(0:Int))) fun MV=>
 (Option.bind (F11 N (y2.1,y2.2.1,y2.2.2.1,(1:Int),[xG,MU,EC,MV,y6])) fun vR=>
 (bif vR
 then (Option.bind (idx y2.2.2.1 (1:Int)) fun x24=>
 some (x24.1==[102,49]))
 else some false))))))
 else some false)))))
 else some false)))
 else some false))))
 else some false))))))))))
theorem acz (N:Nat):F4 N=bC (f4.E0 N) ak 4 f4.args f4.ta f4.res f4.tr 0:=funext fun ()=>by rw[F4];kernel_rfl
def c4 (N:Nat):Sym.Callee:=⟨f4.args,f4.ta,f4.res,f4.tr,0,F4 N⟩
theorem ok4 (N:Nat):bt aP 4 (c4 N):=(bF (f4.cC N) ak 4 f4.args f4.ta f4.res f4.tr 0).plain (acz N)
namespace f25
def args:List dJ:=[.c (.sl av .aJ),.c (.sl av .aJ)]
def ta:List Ty:=[(.sl av),(.sl av)]
def res:List (Bool×List cG):=[(false,[.bool])]
def tr:List Ty:=[.bool]
def E0 (N:Nat):aA:=aA.base aP aX aY aO cq bT
theorem cC (N:Nat):aC aP (E0 N):=aQ aP aX aY aO cq bT
def fG:cw:=⟨[(0,.c (.sl av .aJ)),(1,.c (.sl av .aJ)),(5,.c (.int .i64))],[],[],1,[],0,[(.sl av),(.sl av),(.int .i64)]⟩
def fH:ck:=[(.ret,⟨[(4,.c (.bool))],[],[],1,[],0,[.bool]⟩),(.exit 0,⟨[],[],[],1,[],0,[]⟩)]
def nh (N:Nat) (k:Nat) (x:(List (Field))×(List (Field))×Int):Option ((Bool)⊕(Unit)):=bJ (aL (E0 N) ak 0 6 (bz t25 6) fG fH) k x
def cc (N:Nat):Nat→(List (Field))×(List (Field))×Int→Option ((Bool)⊕(Unit))
 |0,_=>none
 |k+1,(v0,v1,v2)=>(bif (decide (v2<(v0.length:Int)))
 then (Option.bind (idx v0 v2) fun x3=>
 (Option.bind (idx v1 v2) fun x4=>
 (bif (!(x3.1==x4.1&&(x3.2==x4.2&&true)))
 then some (Sum.inl false)
 else cc N k (v0,v1,(aH (v2+(1:Int)))))))
 else some (Sum.inr ()))
theorem ct (N:Nat):∀ k,cc N k=nh N k
 |0=>rfl
 |k+1=>funext fun⟨v0,v1,v2⟩=>by rw[cc,ct N k];kernel_rfl
def E1 (N:Nat):aA:=(E0 N).aj N 0 6 fG fH
theorem gI (N:Nat):aC aP (E1 N):=(cC N).aj N 0 6 fG fH
end f25
open f25 in
def X4 (N:Nat):(List (Field))×List (Field)→Option (Bool)
 |(p0,p1)=>(bif ((p0.length:Int) != (p1.length:Int))
 then some false
 else (Option.bind (cc N N (p0,p1,(0:Int))) fun y5=>
 (match y5 with
 |.inl a6=>some a6
 |.inr b7=>some true)))
theorem X5 (N:Nat):X4 N=bC (f25.E1 N) ak 25 f25.args f25.ta f25.res f25.tr 0:=funext fun⟨p0,p1⟩=>by rw[X4,f25.ct N N];kernel_rfl
def c25 (N:Nat):Sym.Callee:=⟨f25.args,f25.ta,f25.res,f25.tr,0,X4 N⟩
theorem acA (N:Nat):bt aP 25 (c25 N):=(bF (f25.gI N) ak 25 f25.args f25.ta f25.res f25.tr 0).plain (X5 N)
namespace f16
def aO:Nat→Nat→Option (Nat×Ty):=fun c i=>match c,i with
 |0,10=>some (67,.bool)
 |_,_=>none
def args:List dJ:=[.c (.sl ai .aJ),.c (.sl ai .aJ)]
def ta:List Ty:=[(.sl ai),(.sl ai)]
def res:List (Bool×List cG):=[(false,[.bool])]
def tr:List Ty:=[.bool]
def E0 (N:Nat):aA:=(aA.base aP aX aY aO cq bT).aa 25 (c25 N)
theorem cC (N:Nat):aC aP (E0 N):=(aQ aP aX aY aO cq bT).aa (acA N)
def fG:cw:=⟨[(0,.c (.sl ai .aJ)),(1,.c (.sl ai .aJ)),(5,.c (.int .i64))],[],[],1,[],0,[(.sl ai),(.sl ai),(.int .i64)]⟩
def fH:ck:=[(.ret,⟨[(4,.c (.bool))],[],[],1,[],0,[.bool]⟩),(.exit 0,⟨[],[],[],1,[],0,[]⟩)]
def nh (N:Nat) (k:Nat) (x:(List (aq))×(List (aq))×Int):Option ((Bool)⊕(Unit)):=bJ (aL (E0 N) ak 0 6 (bz t16 6) fG fH) k x
def cc (N:Nat):Nat→(List (aq))×(List (aq))×Int→Option ((Bool)⊕(Unit))
 |0,_=>none
 |k+1,(v0,v1,v2)=>(bif (decide (v2<(v0.length:Int)))
 then (Option.bind ((Option.bind (idx v0 v2) fun x3=>
 (Option.bind (idx v1 v2) fun x4=>
 (bif (x3.1 != x4.1)
 then some true
 else (Option.bind (idx v0 v2) fun x5=>
 (Option.bind (idx v1 v2) fun x6=>
 (bif (x5.2.1 != x6.2.1)
 then some true
 else (Option.bind (idx v0 v2) fun x7=>
 (Option.bind (idx v1 v2) fun x8=>
 (bif (x7.2.2.1 != x8.2.2.1)
 then some true
 else (Option.bind (idx v0 v2) fun x9=>
 (Option.bind (idx v1 v2) fun pH=>
 (Option.bind (X4 N (x9.2.2.2,pH.2.2.2)) fun yE=>
 some (!yE)))))))))))))) fun QI=>
 (bif QI
 then some (Sum.inl false)
 else cc N k (v0,v1,(aH (v2+(1:Int))))))
 else some (Sum.inr ()))
theorem ct (N:Nat):∀ k,cc N k=nh N k
 |0=>rfl
 |k+1=>funext fun⟨v0,v1,v2⟩=>by rw[cc,ct N k];kernel_rfl
def E1 (N:Nat):aA:=(E0 N).aj N 0 6 fG fH
theorem gI (N:Nat):aC aP (E1 N):=(cC N).aj N 0 6 fG fH
end f16
open f16 in
def Zn (N:Nat):(List (aq))×List (aq)→Option (Bool)
 |(p0,p1)=>(bif ((p0.length:Int) != (p1.length:Int))
 then some false
 else (Option.bind (cc N N (p0,p1,(0:Int))) fun GH=>
 (match GH with
 |.inl a14=>some a14
 |.inr Sr=>some true)))
theorem X6 (N:Nat):Zn N=bC (f16.E1 N) ak 16 f16.args f16.ta f16.res f16.tr 0:=funext fun⟨p0,p1⟩=>by rw[Zn,f16.ct N N];kernel_rfl
def c16 (N:Nat):Sym.Callee:=⟨f16.args,f16.ta,f16.res,f16.tr,0,Zn N⟩
theorem ago (N:Nat):bt aP 16 (c16 N):=(bF (f16.gI N) ak 16 f16.args f16.ta f16.res f16.tr 0).plain (X6 N)
namespace f17
def aO:Nat→Nat→Option (Nat×Ty):=fun c i=>match c,i with
 |0,1=>some (4,.bool)
 |_,_=>none
def args:List dJ:=[.agg [.str,.int .i64,.int .i64,.sl av .aJ,.sl ah .aJ,.sl aD .aJ,.sl aD .aJ],.agg [.str,.int .i64,.int .i64,.sl av .aJ,.sl ah .aJ,.sl aD .aJ,.sl aD .aJ]]
def ta:List Ty:=[.str,(.int .i64),(.int .i64),(.sl av),(.sl ah),(.sl aD),(.sl aD),.str,(.int .i64),(.int .i64),(.sl av),(.sl ah),(.sl aD),(.sl aD)]
def res:List (Bool×List cG):=[(false,[.bool])]
def tr:List Ty:=[.bool]
def E0 (N:Nat):aA:=(((aA.base aP aX aY aO cq bT).aa 25 (c25 N)).aa 7 (c7 N)).aa 10 (c10 N)
theorem cC (N:Nat):aC aP (E0 N):=(((aQ aP aX aY aO cq bT).aa (acA N)).aa (W0 N)).aa (acv N)
end f17
open f17 in
def Zo (N:Nat):(List UInt8)×(Int)×(Int)×(List (Field))×(List (Instr))×(List (bD))×(List (bD))×(List UInt8)×(Int)×(Int)×(List (Field))×(List (Instr))×(List (bD))×List (bD)→Option (Bool)
 |(p0,p1,p2,p3,p4,p5,p6,p7,p8,p9,ji,tf,yK,GR)=>(Option.bind ((bif (p0==p7)
 then (bif (p1==p8)
 then (bif (p2==p9)
 then (Option.bind (X4 N (p3,ji)) fun y0=>
 (bif y0
 then (Option.bind (F7 N (p4,tf)) fun y1=>
 (bif y1
 then (Option.bind (UJ N (p5,yK)) fun y2=>
 (bif y2
 then (Option.bind (UJ N (p6,GR)) fun y3=>
 some y3)
 else some false))
 else some false))
 else some false))
 else some false)
 else some false)
 else some false)) fun b4=>
 some b4)
theorem X7 (N:Nat):Zo N=bC (f17.E0 N) ak 17 f17.args f17.ta f17.res f17.tr 0:=funext fun⟨p0,p1,p2,p3,p4,p5,p6,p7,p8,p9,ji,tf,yK,GR⟩=>by rw[Zo];kernel_rfl
def c17 (N:Nat):Sym.Callee:=⟨f17.args,f17.ta,f17.res,f17.tr,0,Zo N⟩
theorem agp (N:Nat):bt aP 17 (c17 N):=(bF (f17.cC N) ak 17 f17.args f17.ta f17.res f17.tr 0).plain (X7 N)
namespace f6
def aO:Nat→Nat→Option (Nat×Ty):=fun c i=>match c,i with
 |0,1=>some (30,.bool)
 |_,_=>none
def args:List dJ:=[.agg [.sl ai .aJ,.sl .str .aJ,.sl aG .aJ],.agg [.sl ai .aJ,.sl .str .aJ,.sl aG .aJ]]
def ta:List Ty:=[(.sl ai),(.sl .str),(.sl aG),(.sl ai),(.sl .str),(.sl aG)]
def res:List (Bool×List cG):=[(false,[.bool])]
def tr:List Ty:=[.bool]
def E0 (N:Nat):aA:=((aA.base aP aX aY aO cq bT).aa 16 (c16 N)).aa 17 (c17 N)
theorem cC (N:Nat):aC aP (E0 N):=((aQ aP aX aY aO cq bT).aa (ago N)).aa (agp N)
def fG:cw:=⟨[(2,.c (.ptr 0 2 0 0 0)),(3,.c (.ptr 0 3 1 0 0)),(5,.c (.int .i64))],[],[(0,2,.box 0 [.sl ai .aJ,.sl .str .aJ,.sl aG .aJ]),(0,3,.box 1 [.sl ai .aJ,.sl .str .aJ,.sl aG .aJ])],1,[],2,[(.int .i64),(.sl ai),(.sl .str),(.sl aG),(.sl ai),(.sl .str),(.sl aG)]⟩
def fH:ck:=[(.ret,⟨[(4,.c (.bool))],[],[],1,[],0,[.bool]⟩),(.exit 0,⟨[(2,.c (.ptr 0 2 0 0 0)),(3,.c (.ptr 0 3 1 0 0))],[],[(0,2,.box 0 [.sl ai .aJ,.sl .str .aJ,.sl aG .aJ]),(0,3,.box 1 [.sl ai .aJ,.sl .str .aJ,.sl aG .aJ])],1,[],2,[(.sl ai),(.sl .str),(.sl aG),(.sl ai),(.sl .str),(.sl aG)]⟩)]
def nh (N:Nat) (k:Nat) (x:(Int)×(List (aq))×(List (List UInt8))×(List (Func))×(List (aq))×(List (List UInt8))×List (Func)):Option ((Bool)⊕((List (aq))×(List (List UInt8))×(List (Func))×(List (aq))×(List (List UInt8))×List (Func))):=bJ (aL (E0 N) ak 0 6 (bz t6 6) fG fH) k x
def cc (N:Nat):Nat→(Int)×(List (aq))×(List (List UInt8))×(List (Func))×(List (aq))×(List (List UInt8))×List (Func)→Option ((Bool)⊕((List (aq))×(List (List UInt8))×(List (Func))×(List (aq))×(List (List UInt8))×List (Func)))
 |0,_=>none
 |k+1,(v2,v3,v4,v5,v6,v7,v8)=>(bif (decide (v2<(v4.length:Int)))
 then (Option.bind (idx v4 v2) fun x9=>
 (Option.bind (idx v7 v2) fun pH=>
 (bif (!(x9==pH))
 then some (Sum.inl false)
 else cc N k ((aH (v2+(1:Int))),v3,v4,v5,v6,v7,v8))))
 else some (Sum.inr (v3,v4,v5,v6,v7,v8)))
theorem ct (N:Nat):∀ k,cc N k=nh N k
 |0=>rfl
 |k+1=>funext fun⟨v2,v3,v4,v5,v6,v7,v8⟩=>by rw[cc,ct N k];kernel_rfl
def E1 (N:Nat):aA:=(E0 N).aj N 0 6 fG fH
theorem gI (N:Nat):aC aP (E1 N):=(cC N).aj N 0 6 fG fH
def Py:cw:=⟨[(2,.c (.ptr 0 2 0 0 0)),(3,.c (.ptr 0 3 1 0 0)),(6,.c (.int .i64))],[],[(0,2,.box 0 [.sl ai .aJ,.sl .str .aJ,.sl aG .aJ]),(0,3,.box 1 [.sl ai .aJ,.sl .str .aJ,.sl aG .aJ])],1,[],2,[(.int .i64),(.sl ai),(.sl .str),(.sl aG),(.sl ai),(.sl .str),(.sl aG)]⟩
def Pz:ck:=[(.ret,⟨[(4,.c (.bool))],[],[],1,[],0,[.bool]⟩),(.exit 2,⟨[],[],[],1,[],0,[]⟩)]
def acB (N:Nat) (k:Nat) (x:(Int)×(List (aq))×(List (List UInt8))×(List (Func))×(List (aq))×(List (List UInt8))×List (Func)):Option ((Bool)⊕(Unit)):=bJ (aL (E1 N) ak 0 16 (bz t6 16) Py Pz) k x
def A0 (N:Nat):Nat→(Int)×(List (aq))×(List (List UInt8))×(List (Func))×(List (aq))×(List (List UInt8))×List (Func)→Option ((Bool)⊕(Unit))
 |0,_=>none
 |k+1,(lU,rZ,r6,r7,vP,yG,v20)=>(bif (decide (lU<(r7.length:Int)))
 then (Option.bind (idx r7 lU) fun X8=>
 (Option.bind (idx v20 lU) fun I3=>
 (Option.bind (Zo N (X8.1,X8.2.1,X8.2.2.1,X8.2.2.2.1,X8.2.2.2.2.1,X8.2.2.2.2.2.1,X8.2.2.2.2.2.2,I3.1,I3.2.1,I3.2.2.1,I3.2.2.2.1,I3.2.2.2.2.1,I3.2.2.2.2.2.1,I3.2.2.2.2.2.2)) fun vR=>
 (bif (!vR)
 then some (Sum.inl false)
 else A0 N k ((aH (lU+(1:Int))),rZ,r6,r7,vP,yG,v20)))))
 else some (Sum.inr ()))
theorem GZ (N:Nat):∀ k,A0 N k=acB N k
 |0=>rfl
 |k+1=>funext fun⟨lU,rZ,r6,r7,vP,yG,v20⟩=>by rw[A0,GZ N k];kernel_rfl
def E2 (N:Nat):aA:=(E1 N).aj N 0 16 Py Pz
theorem AM (N:Nat):aC aP (E2 N):=(gI N).aj N 0 16 Py Pz
end f6
open f6 in
def F6 (N:Nat):(List (aq))×(List (List UInt8))×(List (Func))×(List (aq))×(List (List UInt8))×List (Func)→Option (Bool)
 |(p0,p1,p2,p3,p4,p5)=>(Option.bind ((Option.bind (Zn N (p0,p3)) fun y0=>
 (bif (!y0)
 then some true
 else (bif ((p1.length:Int) != (p4.length:Int))
 then some true
 else some ((p2.length:Int) != (p5.length:Int)))))) fun b1=>
 (bif b1
 then some false
 else (Option.bind (cc N N ((0:Int),p0,p1,p2,p3,p4,p5)) fun yE=>
 (match yE with
 |.inl a12=>some a12
 |.inr GI=>(Option.bind (A0 N N ((0:Int),GI.1,GI.2.1,GI.2.2.1,GI.2.2.2.1,GI.2.2.2.2.1,GI.2.2.2.2.2)) fun Bt=>
 (match Bt with
 |.inl a25=>some a25
 |.inr yJ=>some true))))))
theorem acC (N:Nat):F6 N=bC (f6.E2 N) ak 6 f6.args f6.ta f6.res f6.tr 0:=funext fun⟨p0,p1,p2,p3,p4,p5⟩=>by rw[F6,f6.ct N N,f6.GZ N N];kernel_rfl
def c6 (N:Nat):Sym.Callee:=⟨f6.args,f6.ta,f6.res,f6.tr,0,F6 N⟩
theorem ok6 (N:Nat):bt aP 6 (c6 N):=(bF (f6.AM N) ak 6 f6.args f6.ta f6.res f6.tr 0).plain (acC N)
namespace f3
def aO:Nat→Nat→Option (Nat×Ty):=fun c i=>match c,i with
 |0,12=>some (45,.bool)
 |0,20=>some (102,.bool)
 |0,24=>some (136,.bool)
 |0,28=>some (4,.bool)
 |_,_=>none
def bT:Nat→Nat→Option Ty:=fun c d=>match c,d with
 |0,16=>some (.int .i64)
 |0,27=>some (.int .i64)
 |0,141=>some aG
 |_,_=>none
def args:List dJ:=[.c (.sl (.int .i64) .d),.c (.sl (.int .i64) .d)]
def ta:List Ty:=[(.sl (.int .i64)),(.sl (.int .i64))]
def res:List (Bool×List cG):=[(false,[.bool])]
def tr:List Ty:=[.bool]
def E0 (N:Nat):aA:=((((aA.base aP aX aY aO cq bT).aa 4 (c4 N)).aa 5 (c5 N)).aa 6 (c6 N)).aa 7 (c7 N)
theorem cC (N:Nat):aC aP (E0 N):=((((aQ aP aX aY aO cq bT).aa (ok4 N)).aa (Y8 N)).aa (ok6 N)).aa (W0 N)
def Ja:cw:=⟨[(0,.c (.sl (.int .i64) .d)),(5,.c (.sl (.int .i64) (.app 0))),(6,.c (.ref 0 27 1 (.int .i64))),(7,.c (.int .i64))],[],[(0,27,.row 1 (.int .i64))],1,[0],2,[(.sl (.int .i64)),(.sl (.int .i64)),(.int .i64),(.sl (.int .i64))]⟩
def Jb:ck:=[(.ret,⟨[(4,.c (.bool))],[],[],1,[],0,[.bool]⟩),(.exit 0,⟨[(0,.c (.sl (.int .i64) .d)),(5,.c (.sl (.int .i64) (.app 0))),(6,.c (.ref 0 27 1 (.int .i64)))],[],[(0,27,.row 1 (.int .i64))],1,[0],2,[(.sl (.int .i64)),(.sl (.int .i64)),(.sl (.int .i64))]⟩)]
def XS (N:Nat) (k:Nat) (x:(List (Int))×(List (Int))×(Int)×List (Int)):Option ((Bool)⊕((List (Int))×(List (Int))×List (Int))):=bJ (aL (E0 N) ak 0 8 (bz t3 8) Ja Jb) k x
def rO (N:Nat):Nat→(List (Int))×(List (Int))×(Int)×List (Int)→Option ((Bool)⊕((List (Int))×(List (Int))×List (Int)))
 |0,_=>none
 |k+1,(v1,v2,v3,v4)=>(bif (decide (v3<(v2.length:Int)))
 then (Option.bind ((Option.bind (idx v2 v3) fun x5=>
 (bif (decide (x5<(0:Int)))
 then some true
 else (Option.bind (idx v2 v3) fun x6=>
 some (decide (x6>(1023:Int))))))) fun b7=>
 (bif b7
 then (Option.bind (F4 N ()) fun y8=>
 some (Sum.inl y8))
 else (Option.bind (idx v2 v3) fun x9=>
 (aZ (jq v3 v4.length)
 ((Option.bind (v4[(Int.toNat v3)]?) fun pH=>
 rO N k (v1,v2,(aH (v3+(1:Int))),(v4.set (Int.toNat v3) (aH (x9+(aH ((1024:Int)*v3))))))))))))
 else some (Sum.inr (v1,v2,v4)))
theorem u0 (N:Nat):∀ k,rO N k=XS N k
 |0=>rfl
 |k+1=>funext fun⟨v1,v2,v3,v4⟩=>by rw[rO,u0 N k];kernel_rfl
def E1 (N:Nat):aA:=(E0 N).aj N 0 8 Ja Jb
theorem gI (N:Nat):aC aP (E1 N):=(cC N).aj N 0 8 Ja Jb
end f3
open f3 in
def F3 (N:Nat):(List (Int))×List (Int)→Option (Bool)
 |(p0,p1)=>(aZ (room (0+p0.length) 8)
 ((aZ (room (([]++p0).length+p1.length) 8)
 ((bif (decide (((([]++p0)++p1).length:Int)>(60:Int)))
 then (Option.bind (F4 N ()) fun y0=>
 some y0)
 else (aZ (decide (0≤((([]++p0)++p1).length:Int)))
 ((aZ (decide (0≤((([]++p0)++p1).length:Int)))
 ((aZ (decide ((Int.toNat ((([]++p0)++p1).length:Int))≤(Int.toNat ((([]++p0)++p1).length:Int)))&&room (Int.toNat ((([]++p0)++p1).length:Int)) 8)
 ((Option.bind (rO N N (p0,(([]++p0)++p1),(0:Int),(List.replicate (Int.toNat ((([]++p0)++p1).length:Int)) (0:Int)))) fun yE=>
 (match yE with
 |.inl a12=>some a12
 |.inr GI=>(Option.bind (F5 N GI.1) fun tA=>
 (Option.bind (F5 N GI.2.1) fun qG=>
 (Option.bind (F5 N GI.2.2) fun ld=>
 (Option.bind ((bif (tA.2.2.2 != (0:Int))
 then some true
 else (bif (qG.2.2.2 != (0:Int))
 then some true
 else (bif (ld.2.2.2 != (0:Int))
 then some true
 else (Option.bind (F6 N (qG.1,qG.2.1,qG.2.2.1,ld.1,ld.2.1,ld.2.2.1)) fun yF=>
 (bif (!yF)
 then some true
 else (bif ((tA.2.2.1.length:Int) != (qG.2.2.1.length:Int))
 then some true
 else some (decide ((tA.2.2.1.length:Int)<(1:Int)))))))))) fun CQ=>
 (bif CQ
 then some false
 else (Option.bind (idx tA.2.2.1 (0:Int)) fun EB=>
 (Option.bind (idx qG.2.2.1 (0:Int)) fun Mm=>
 (Option.bind ((bif (decide ((EB.2.2.2.2.1.length:Int)<(1:Int)))
 then some true
 else (bif (decide ((Mm.2.2.2.2.1.length:Int)<(EB.2.2.2.2.1.length:Int)))
 then some true
 else (aZ (decide (0≤(aH ((EB.2.2.2.2.1.length:Int)-(1:Int)))))
 ((aZ (decide ((Int.toNat (aH ((EB.2.2.2.2.1.length:Int)-(1:Int))))≤EB.2.2.2.2.1.length))
 ((aZ (decide (0≤(aH ((EB.2.2.2.2.1.length:Int)-(1:Int)))))
 ((aZ (decide ((Int.toNat (aH ((EB.2.2.2.2.1.length:Int)-(1:Int))))≤Mm.2.2.2.2.1.length))
 ((Option.bind (F7 N ((EB.2.2.2.2.1.take (Int.toNat (aH ((EB.2.2.2.2.1.length:Int)-(1:Int))))),(Mm.2.2.2.2.1.take (Int.toNat (aH ((EB.2.2.2.2.1.length:Int)-(1:Int))))))) fun EC=>
 some (!EC))))))))))))) fun Kx=>
 (bif Kx
 then some false
 else (Option.bind (idx tA.2.2.1 (0:Int)) fun x23=>
 (aZ (decide (1≤qG.2.2.1.length))
 ((aZ (room (1+(qG.2.2.1.drop 1).length) 128)
 ((Option.bind ((Option.bind (F6 N (tA.1,tA.2.1,tA.2.2.1,qG.1,qG.2.1,([x23]++(qG.2.2.1.drop 1)))) fun Bt=>
 (bif Bt
 then (Option.bind (F4 N ()) fun xZ=>
 some xZ)
 else some false))) fun yJ=>
 some yJ))))))))))))))))))))))))))))
theorem acD (N:Nat):F3 N=bC (f3.E1 N) ak 3 f3.args f3.ta f3.res f3.tr 0:=funext fun⟨p0,p1⟩=>by rw[F3,f3.u0 N N];kernel_rfl
def c3 (N:Nat):Sym.Callee:=⟨f3.args,f3.ta,f3.res,f3.tr,0,F3 N⟩
theorem IW (N:Nat):bt aP 3 (c3 N):=(bF (f3.gI N) ak 3 f3.args f3.ta f3.res f3.tr 0).plain (acD N)
end
end Go.Proofs.YtokjmkblnafppaaGreatDoor
