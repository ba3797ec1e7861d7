/- What the functions compute. -/
import Derived.Test.YthphehfgekjooaaGreatDoorTab12ac
set_option linter.unusedSimpArgs false
namespace Go.Proofs.YthphehfgekjooaaGreatDoor
set_option linter.unusedVariables false
open Go Go.bq Go.Sym
noncomputable section
@[reducible] def gF:Ty:=(.prod (.int .i64) (.int .u64))
abbrev cI:Type:=(Int)×(Int)
@[reducible] def cW:Ty:=(.prod .str (.int .i64))
abbrev Field:Type:=(List UInt8)×(Int)
@[reducible] def mb:Ty:=(.prod (.int .i64) (.int .i64))
abbrev span:Type:=(Int)×(Int)
@[reducible] def cQ:Ty:=(.prod (.sl (.int .u8)) (.int .i64))
abbrev Cursor:Type:=(List (Int))×(Int)
@[reducible] def de:Ty:=(.prod cQ (.int .i64))
abbrev reader:Type:=(Cursor)×(Int)
@[reducible] def pZ:Ty:=(.prod (.int .i64) (.prod (.int .i64) (.prod .bool .bool)))
@[reducible] def aV:Ty:=(.prod (.int .u8) (.prod (.int .i64) mb))
abbrev Instr:Type:=(Int)×((Int)×(span))
@[reducible] def bT:Ty:=(.prod (.int .u8) (.prod (.int .i64) (.prod (.int .i64) (.sl cW))))
abbrev aI:Type:=(Int)×((Int)×((Int)×(List (Field))))
@[reducible] def Vh:Ty:=(.prod (.sl gF) (.prod (.sl gF) mb))
@[reducible] def dN:Ty:=(.prod .str (.prod (.int .i64) (.prod (.int .i64) (.prod (.sl cW) (.prod (.sl aV) (.prod (.sl gF) (.sl gF)))))))
abbrev Func:Type:=(List UInt8)×((Int)×((Int)×((List (Field))×((List (Instr))×((List (cI))×(List (cI)))))))
@[reducible] def bY:Ty:=(.prod (.sl bT) (.prod (.sl .str) (.sl dN)))
abbrev DJ:Type:=(List (aI))×((List (List UInt8))×(List (Func)))
@[reducible] def bf:Ty:=(.prod bY dN)
abbrev function:Type:=(DJ)×(Func)
abbrev dQ:Type:=(List (Int))×Int×Int
abbrev ff (α : Type):Type:=(List (Int))×Int×Int×α
abbrev Vi:Type:=Int×Int×Bool×Bool
abbrev Z3 (α : Type):Type:=Int×Int×Bool×Bool×α
abbrev p4:Type:=Int×Int×Int×Int
abbrev Fu (α : Type):Type:=Int×Int×Int×Int×α
abbrev Ru:Type:=Int×Int×Int×(List (Field))
abbrev Z4 (α : Type):Type:=Int×Int×Int×(List (Field))×α
abbrev ML:Type:=(List (cI))×(List (cI))×Int×Int
abbrev lK:Type:=(List UInt8)×Int×Int×(List (Field))×(List (Instr))×(List (cI))×(List (cI))
abbrev Xs (α : Type):Type:=(List UInt8)×Int×Int×(List (Field))×(List (Instr))×(List (cI))×(List (cI))×α
abbrev fR:Type:=(List (aI))×(List (List UInt8))×(List (Func))
abbrev fS (α : Type):Type:=(List (aI))×(List (List UInt8))×(List (Func))×α
abbrev dF:Type:=(List (aI))×(List (List UInt8))×(List (Func))×(List UInt8)×Int×Int×(List (Field))×(List (Instr))×(List (cI))×(List (cI))
abbrev cJ (α : Type):Type:=(List (aI))×(List (List UInt8))×(List (Func))×(List UInt8)×Int×Int×(List (Field))×(List (Instr))×(List (cI))×(List (cI))×α
def Gz (_:Nat):au:=au.base cx (lk []) (lk []) (lk []) (lkU []) (lk [])
theorem Kz (N:Nat):aF cx (Gz N):=Va ..
def F21 (N:Nat) (x:(List UInt8)×List UInt8):Option (List (List UInt8)):=rK.F x
def G21 (N:Nat):au:=(Gz N).jh 21 rK
theorem K21 (N:Nat):aF cx (G21 N):=(Kz N).jh (Ip rfl adE)
def Z5 (N:Nat) (x:List UInt8):Option (List (List UInt8)):=oH.F x
def G22 (N:Nat):au:=(G21 N).jh 22 oH
theorem K22 (N:Nat):aF cx (G22 N):=(K21 N).jh (Fo rfl adF)
def s43:dz:=sg [] [(true,[.str,.str,.str,.str,.str,.str,.str,.str,.str,.str,.str,.str,.str,.str,.str,.str,.str,.str,.str,.str,.str,.str,.str,.str,.str,.str,.str,.str,.str,.str,.str,.str,.str,.str,.str])]
def F43 (N:Nat):Unit→Option ((List UInt8)×(List UInt8)×(List UInt8)×(List UInt8)×(List UInt8)×(List UInt8)×(List UInt8)×(List UInt8)×(List UInt8)×(List UInt8)×(List UInt8)×(List UInt8)×(List UInt8)×(List UInt8)×(List UInt8)×(List UInt8)×(List UInt8)×(List UInt8)×(List UInt8)×(List UInt8)×(List UInt8)×(List UInt8)×(List UInt8)×(List UInt8)×(List UInt8)×(List UInt8)×(List UInt8)×(List UInt8)×(List UInt8)×(List UInt8)×(List UInt8)×(List UInt8)×(List UInt8)×(List UInt8)×List UInt8)
 |()=>some (([]:List UInt8),[105,110,116],[116,101,120,116],[98,111,111,108],[122,101,114,111],[99,111,112,121],[97,100,100],[115,117,98],[109,117,108],[100,105,118],[108,101,115,115],[115,97,109,101],[110,111,116],[102,105,101,108,100],[112,117,116],[110,101,119],[108,111,97,100],[115,116,111,114,101],[109,97,107,101],[97,116],[115,101,116],[108,101,110],[106,117,109,112],[98,114,97,110,99,104],[97,114,103],[99,97,108,108],[100,101,102,101,114],[103,111],[112,97,110,105,99],[114,101,99,111,118,101,114],[101,120,105,116],[121,105,101,108,100],[98,108,111,99,107],[119,97,107,101],[114,101,116,117,114,110])
def G43 (N:Nat):au:=(G22 N).put 43 s43 (F43 N)
theorem K43 (N:Nat):aF cx (G43 N):=(K22 N).put (E':=((G22 N).on s43)) ((K22 N).on s43) 43 s43 (F43 N) (funext fun ()=>by rw[F43];kernel_rfl)
def s44:dz:=sg [.c (.sl .str .bB),.c (.str)] [(false,[.int .i64])]
def Xt (N:Nat):au:=(G43 N).on s44
def f44.tS:bJ:=tm [(0,.c (.sl .str .bB)),(1,.c (.str)),(7,.c (.int .i64)),(8,.c (.int .i64))] [] [] 1 [] 0
def f44.tT:bG:=[(.ret,tm [(4,.c (.int .i64))] [] [] 1 [] 0),(.exit 0,tm [] [] [] 1 [] 0)]
def f44.lM (N:Nat):Nat→(List (List UInt8))×(List UInt8)×Int×Int→Option ((Int)⊕(Unit))
 |0,_=>none
 |k+1,(b,c,d,a)=>(cond (decide (a<d))
 ((idx b a).bind fun e=>
 (cond (c==e)
 (some (Sum.inl a))
 (f44.lM N k (b,c,d,(ah (a+1))))))
 (some (Sum.inr ())))
theorem f44.A7 (N:Nat):∀ k,f44.lM N k=lp (Xt N) 0 3 (tq 44) 3 f44.tS f44.tT k
 |0=>rfl
 |k+1=>funext fun⟨a,b,c,d⟩=>by rw[f44.lM,f44.A7 N k];kernel_rfl
def adJ (N:Nat):au:=(Xt N).af N 0 3 f44.tS f44.tT
def F44 (N:Nat):(List (List UInt8))×List UInt8→Option (Int)
 |(a,b)=>((f44.lM N N (a,b,(a.length:Int),0)).bind fun c=>
 (match c with
 |.inl d=>some d
 |.inr e=>some (-1)))
def G44 (N:Nat):au:=(G43 N).put 44 s44 (F44 N)
theorem K44 (N:Nat):aF cx (G44 N):=(K43 N).put (E':=(adJ N)) (((K43 N).on s44).af N 0 3 f44.tS f44.tT) 44 s44 (F44 N) (funext fun⟨a,b⟩=>by rw[F44,f44.A7 N N];kernel_rfl)
def s23:dz:=sg [.c (.str)] [(false,[.int .u8]),(false,[.int .i64])]
def Xu (N:Nat):List UInt8→Option (Int×Int)
 |c=>((F43 N ()).bind fun a=>
 ((F44 N ([a.2.1,a.2.2.1,a.2.2.2.1,a.2.2.2.2.1,a.2.2.2.2.2.1,a.2.2.2.2.2.2.1,a.2.2.2.2.2.2.2.1,a.2.2.2.2.2.2.2.2.1,a.2.2.2.2.2.2.2.2.2.1,a.2.2.2.2.2.2.2.2.2.2.1,a.2.2.2.2.2.2.2.2.2.2.2.1,a.2.2.2.2.2.2.2.2.2.2.2.2.1,a.2.2.2.2.2.2.2.2.2.2.2.2.2.1,a.2.2.2.2.2.2.2.2.2.2.2.2.2.2.1,a.2.2.2.2.2.2.2.2.2.2.2.2.2.2.2.1,a.2.2.2.2.2.2.2.2.2.2.2.2.2.2.2.2.1,a.2.2.2.2.2.2.2.2.2.2.2.2.2.2.2.2.2.1,a.2.2.2.2.2.2.2.2.2.2.2.2.2.2.2.2.2.2.1,a.2.2.2.2.2.2.2.2.2.2.2.2.2.2.2.2.2.2.2.1,a.2.2.2.2.2.2.2.2.2.2.2.2.2.2.2.2.2.2.2.2.1,a.2.2.2.2.2.2.2.2.2.2.2.2.2.2.2.2.2.2.2.2.2.1,a.2.2.2.2.2.2.2.2.2.2.2.2.2.2.2.2.2.2.2.2.2.2.1,a.2.2.2.2.2.2.2.2.2.2.2.2.2.2.2.2.2.2.2.2.2.2.2.1,a.2.2.2.2.2.2.2.2.2.2.2.2.2.2.2.2.2.2.2.2.2.2.2.2.1,a.2.2.2.2.2.2.2.2.2.2.2.2.2.2.2.2.2.2.2.2.2.2.2.2.2.1,a.2.2.2.2.2.2.2.2.2.2.2.2.2.2.2.2.2.2.2.2.2.2.2.2.2.2.1,a.2.2.2.2.2.2.2.2.2.2.2.2.2.2.2.2.2.2.2.2.2.2.2.2.2.2.2.1,a.2.2.2.2.2.2.2.2.2.2.2.2.2.2.2.2.2.2.2.2.2.2.2.2.2.2.2.2.1,a.2.2.2.2.2.2.2.2.2.2.2.2.2.2.2.2.2.2.2.2.2.2.2.2.2.2.2.2.2.1,a.2.2.2.2.2.2.2.2.2.2.2.2.2.2.2.2.2.2.2.2.2.2.2.2.2.2.2.2.2.2.1,a.2.2.2.2.2.2.2.2.2.2.2.2.2.2.2.2.2.2.2.2.2.2.2.2.2.2.2.2.2.2.2.1,a.2.2.2.2.2.2.2.2.2.2.2.2.2.2.2.2.2.2.2.2.2.2.2.2.2.2.2.2.2.2.2.2.1,a.2.2.2.2.2.2.2.2.2.2.2.2.2.2.2.2.2.2.2.2.2.2.2.2.2.2.2.2.2.2.2.2.2.1,a.2.2.2.2.2.2.2.2.2.2.2.2.2.2.2.2.2.2.2.2.2.2.2.2.2.2.2.2.2.2.2.2.2.2],c)).bind fun b=>
 (cond (decide (b<0))
 (some (0,6))
 (some ((JA (ah (b+1))),0)))))
def G23 (N:Nat):au:=(G44 N).put 23 s23 (Xu N)
theorem K23 (N:Nat):aF cx (G23 N):=(K44 N).put (E':=((G44 N).on s23)) ((K44 N).on s23) 23 s23 (Xu N) (funext fun a=>by rw[Xu];kernel_rfl)
def Vj (N:Nat) (x:List UInt8):Option (Int×Bool):=vq.F x
def G24 (N:Nat):au:=(G23 N).jh 24 vq
theorem K24 (N:Nat):aF cx (G24 N):=(K23 N).jh (KH rfl adG)
def s11:dz:=⟨[.c (.str),.c (.int .i64)],[(false,[.sl aV .d])],1,[(0,100029,14,(.int .i64))],[(0,16),(0,100016),(0,3),(0,100003)],[(0,4,aV),(0,5,aV),(0,67,aV)],[]⟩
def Xv (N:Nat):au:=(G24 N).on s11
def f11.kE:bJ:=tm [(1,.c (.int .i64)),(5,.c (.ref 0 5 0 aV)),(17,.c (.sl .str .d)),(18,.c (.int .i64)),(19,.c (.int .i64))] [] [(0,5,.row 0 aV)] 1 [] 1
def f11.kF:bG:=[(.exit 0,tm [(5,.c (.ref 0 5 0 aV))] [] [(0,5,.row 0 aV)] 1 [] 1)]
def f11.ct (N:Nat):Nat→Int×(List (List UInt8))×Int×Int×List (Instr)→Option ((List (Instr)))
 |0,_=>none
 |k+1,(b,e,f,d,a)=>(cond (decide (d<f))
 ((idx e d).bind fun o=>
 ((Z5 N o).bind fun c=>
 (cond (decide (0<(c.length:Int)))
 ((idx c 0).bind fun p=>
 ((Xu N p).bind fun g=>
 (cond (g.2 != 0)
 (f11.ct N k (b,e,f,(ah (d+1)),a))
 (cond (decide (1<(c.length:Int)))
 ((idx c 1).bind fun q=>
 ((Vj N q).bind fun i=>
 ((cond i.2
 (some (ah ((ah (b+(a.length:Int)))+2)))
 (some i.1)).bind fun h=>
 (cond (decide (2<(c.length:Int)))
 ((idx c 2).bind fun r=>
 ((Vj N r).bind fun j=>
 ((cond j.2
 (some (ah ((ah (b+(a.length:Int)))+2)))
 (some j.1)).bind fun l=>
 (cond (decide (3<(c.length:Int)))
 ((idx c 3).bind fun s=>
 ((Vj N s).bind fun m=>
 ((cond m.2
 (some (ah ((ah (b+(a.length:Int)))+2)))
 (some m.1)).bind fun t=>
 (cond (decide (4<(c.length:Int)))
 ((idx c 4).bind fun u=>
 ((Vj N u).bind fun n=>
 ((cond n.2
 (some (ah ((ah (b+(a.length:Int)))+2)))
 (some n.1)).bind fun v=>
 none)))
 (aM (room (a.length+1) 32)
 (f11.ct N k (b,e,f,(ah (d+1)),(a++[(g.1,h,l,t)]))))))))
 (aM (room (a.length+1) 32)
 (f11.ct N k (b,e,f,(ah (d+1)),(a++[(g.1,h,l,0)]))))))))
 (aM (room (a.length+1) 32)
 (f11.ct N k (b,e,f,(ah (d+1)),(a++[(g.1,h,0,0)]))))))))
 (aM (room (a.length+1) 32)
 (f11.ct N k (b,e,f,(ah (d+1)),(a++[(g.1,0,0,0)]))))))))
 (aM (room (a.length+1) 32)
 (f11.ct N k (b,e,f,(ah (d+1)),(a++[(0,0,0,0)])))))))
 (some a))
theorem f11.oI (N:Nat):∀ k,f11.ct N k=lp (Xv N) 0 7 (tq 11) 7 f11.kE f11.kF k
 |0=>rfl
 |k+1=>funext fun⟨a,b,c,d,e⟩=>by rw[f11.ct,f11.oI N k];kernel_rfl
def adK (N:Nat):au:=(Xv N).af N 0 7 f11.kE f11.kF
def yM (N:Nat):(List UInt8)×Int→Option (List (Instr))
 |(b,c)=>((F21 N (b,[59,32])).bind fun a=>
 ((f11.ct N N (c,a,(a.length:Int),0,([]:List ((Int)×((Int)×((Int)×(Int))))))).bind fun d=>
 some d))
def G11 (N:Nat):au:=(G24 N).put 11 s11 (yM N)
theorem K11 (N:Nat):aF cx (G11 N):=(K24 N).put (E':=(adK N)) (((K24 N).on s11).af N 0 7 f11.kE f11.kF) 11 s11 (yM N) (funext fun⟨a,b⟩=>by rw[yM,f11.oI N N];kernel_rfl)
def TM (N:Nat) (x:Int):Option (List UInt8):=pY.F x
def G15 (N:Nat):au:=(G11 N).jh 15 pY
theorem K15 (N:Nat):aF cx (G15 N):=(K11 N).jh (KI rfl adH)
def s12:dz:=⟨[.c (.int .i64)],[(false,[.str])],0,[],[],[(0,21,.str),(0,27,.str),(0,33,.str)],[]⟩
def rL (N:Nat):Int→Option (List UInt8)
 |a=>(cond ((Int.tmod (max a 0) 32)==0)
 ((TM N (Int.tmod (ah (Int.tdiv (max a 0) 32)) 32)).bind fun b=>
 (aM (!decide ((([105,110,116,32,48,32].length+b.length:Nat):Int)>IntKind.i64.max))
 (some ([105,110,116,32,48,32]++b))))
 (cond ((Int.tmod (max a 0) 32)==25)
 ((idx [[50],[52],[55]] (Int.tmod (Int.tmod (ah (Int.tdiv (max a 0) 32)) 32) 3)).bind fun c=>
 (aM (!decide ((([97,114,103,32,48,59,32,100,101,102,101,114,32].length+c.length:Nat):Int)>IntKind.i64.max))
 (some ([97,114,103,32,48,59,32,100,101,102,101,114,32]++c))))
 (cond ((Int.tmod (max a 0) 32)==26)
 ((idx [[53],[54]] (Int.tmod (Int.tmod (ah (Int.tdiv (max a 0) 32)) 32) 2)).bind fun d=>
 (aM (!decide ((([100,101,102,101,114,32].length+d.length:Nat):Int)>IntKind.i64.max))
 (some ([100,101,102,101,114,32]++d))))
 (cond ((Int.tmod (max a 0) 32)==28)
 ((idx [[119,97,107,101,32,49,32,55],[99,111,112,121,32,55,32,48],[116,101,120,116,32,50,32,49],[114,101,99,111,118,101,114,32,49,32,48]] (Int.tmod (Int.tmod (ah (Int.tdiv (max a 0) 32)) 32) 4)).bind fun e=>
 some e)
 (aM (decide (0≤(Int.tmod (max a 0) 32)))
 (cond (Nat.beq (Int.toNat (Int.tmod (max a 0) 32)) 31)
 (some [98,114,97,110,99,104,32,49,32,64,59,32,98,108,111,99,107,32,55])
 (cond (Nat.beq (Int.toNat (Int.tmod (max a 0) 32)) 30)
 (some [98,114,97,110,99,104,32,49,32,64,59,32,101,120,105,116])
 (cond (Nat.beq (Int.toNat (Int.tmod (max a 0) 32)) 29)
 (some [98,114,97,110,99,104,32,49,32,64,59,32,112,97,110,105,99,32,48])
 (cond (Nat.beq (Int.toNat (Int.tmod (max a 0) 32)) 28)
 (some ([]:List UInt8))
 (cond (Nat.beq (Int.toNat (Int.tmod (max a 0) 32)) 27)
 (some [97,114,103,32,55,59,32,103,111,32,51])
 (cond (Nat.beq (Int.toNat (Int.tmod (max a 0) 32)) 26)
 (some ([]:List UInt8))
 (cond (Nat.beq (Int.toNat (Int.tmod (max a 0) 32)) 25)
 (some ([]:List UInt8))
 (cond (Nat.beq (Int.toNat (Int.tmod (max a 0) 32)) 24)
 (some [97,114,103,32,48,59,32,99,97,108,108,32,48,32,49])
 (cond (Nat.beq (Int.toNat (Int.tmod (max a 0) 32)) 23)
 (some [108,101,110,32,55,32,54])
 (cond (Nat.beq (Int.toNat (Int.tmod (max a 0) 32)) 22)
 (some [97,116,32,48,32,53,32,55])
 (cond (Nat.beq (Int.toNat (Int.tmod (max a 0) 32)) 21)
 (some [115,101,116,32,53,32,55,32,48])
 (cond (Nat.beq (Int.toNat (Int.tmod (max a 0) 32)) 20)
 (some [97,116,32,48,32,54,32,55])
 (cond (Nat.beq (Int.toNat (Int.tmod (max a 0) 32)) 19)
 (some [115,101,116,32,54,32,55,32,48])
 (cond (Nat.beq (Int.toNat (Int.tmod (max a 0) 32)) 18)
 (some [109,97,107,101,32,54,32,55])
 (cond (Nat.beq (Int.toNat (Int.tmod (max a 0) 32)) 17)
 (some [108,111,97,100,32,52,32,56])
 (cond (Nat.beq (Int.toNat (Int.tmod (max a 0) 32)) 16)
 (some [115,116,111,114,101,32,56,32,52])
 (cond (Nat.beq (Int.toNat (Int.tmod (max a 0) 32)) 15)
 (some [110,101,119,32,56])
 (cond (Nat.beq (Int.toNat (Int.tmod (max a 0) 32)) 14)
 (some [112,117,116,32,52,32,50,32,51])
 (cond (Nat.beq (Int.toNat (Int.tmod (max a 0) 32)) 13)
 (some [102,105,101,108,100,32,55,32,52,32,48])
 (cond (Nat.beq (Int.toNat (Int.tmod (max a 0) 32)) 12)
 (some [112,117,116,32,52,32,48,32,48])
 (cond (Nat.beq (Int.toNat (Int.tmod (max a 0) 32)) 11)
 (some [122,101,114,111,32,51])
 (cond (Nat.beq (Int.toNat (Int.tmod (max a 0) 32)) 10)
 (some [110,101,119,32,51])
 (cond (Nat.beq (Int.toNat (Int.tmod (max a 0) 32)) 9)
 (some [108,111,97,100,32,48,32,51])
 (cond (Nat.beq (Int.toNat (Int.tmod (max a 0) 32)) 8)
 (some [115,116,111,114,101,32,51,32,48])
 (cond (Nat.beq (Int.toNat (Int.tmod (max a 0) 32)) 7)
 (some [115,97,109,101,32,49,32,48,32,55])
 (cond (Nat.beq (Int.toNat (Int.tmod (max a 0) 32)) 6)
 (some [110,111,116,32,49,32,49])
 (cond (Nat.beq (Int.toNat (Int.tmod (max a 0) 32)) 5)
 (some [108,101,115,115,32,49,32,48,32,55])
 (cond (Nat.beq (Int.toNat (Int.tmod (max a 0) 32)) 4)
 (some [100,105,118,32,48,32,48,32,55])
 (cond (Nat.beq (Int.toNat (Int.tmod (max a 0) 32)) 3)
 (some [109,117,108,32,48,32,48,32,55])
 (cond (Nat.beq (Int.toNat (Int.tmod (max a 0) 32)) 2)
 (some [115,117,98,32,55,32,55,32,48])
 (cond (Nat.beq (Int.toNat (Int.tmod (max a 0) 32)) 1)
 (some [97,100,100,32,48,32,48,32,55])
 (cond (Nat.beq (Int.toNat (Int.tmod (max a 0) 32)) 0)
 (some ([]:List UInt8))
 none)))))))))))))))))))))))))))))))))))))
def G12 (N:Nat):au:=(G15 N).put 12 s12 (rL N)
theorem K12 (N:Nat):aF cx (G12 N):=(K15 N).put (E':=((G15 N).on s12)) ((K15 N).on s12) 12 s12 (rL N) (funext fun a=>by rw[rL];kernel_rfl)
def s14:dz:=⟨[.c (.str),.c (.str),.c (.int .i64),.c (.int .i64),.c (.sl aV .d)],[(true,(aL dN))],0,[],[],[(0,21,gF),(0,23,gF),(0,51,cW)],[]⟩
def Xw (N:Nat):au:=(G12 N).on s14
def f14.Z6:bJ:=tm [(10,.c (.ptr 0 10 0 0 0)),(11,.c (.ptr 0 11 1 0 0)),(12,.c (.sl .str .d)),(13,.c (.int .i64))] [] [(0,10,.box 0 [.str,.int .i64,.int .i64,.nil true,.nil true,.nil true,.nil true]),(0,11,.box 1 [.str,.int .i64,.int .i64,.sl cW (.app 2),.sl aV .d,.sl gF .full,.sl gF .full])] 1 [2] 3
def f14.Z7:bG:=[(.exit 0,tm [(10,.c (.ptr 0 10 0 0 0)),(11,.c (.ptr 0 11 1 0 0))] [] [(0,10,.box 0 [.str,.int .i64,.int .i64,.nil true,.nil true,.nil true,.nil true]),(0,11,.box 1 [.str,.int .i64,.int .i64,.sl cW (.app 2),.sl aV .d,.sl gF .full,.sl gF .full])] 1 [2] 3)]
def f14.Vk (N:Nat):Nat→(List (List UInt8))×Int×(List UInt8)×Int×Int×lK→Option (((List UInt8)×Int×Int×lK))
 |0,_=>none
 |k+1,(a,b,d,e,f,g,h,i,c,j,l,m)=>(cond (decide ((ah (b+1))<(a.length:Int)))
 ((idx a (ah (b+1))).bind fun n=>
 ((Vj N n).bind fun o=>
 ((idx a b).bind fun p=>
 (aM (room (c.length+1) 24)
 (f14.Vk N k (a,(ah (b+2)),d,e,f,g,h,i,(c++[(p,o.1)]),j,l,m))))))
 (some (d,e,f,g,h,i,c,j,l,m)))
theorem f14.adL (N:Nat):∀ k,f14.Vk N k=lp (Xw N) 0 5 (tq 14) 5 f14.Z6 f14.Z7 k
 |0=>rfl
 |k+1=>funext fun⟨a,b,c,d,e,f,g,h,i,j,l,m⟩=>by rw[f14.Vk,f14.adL N k];kernel_rfl
def adM (N:Nat):au:=(Xw N).af N 0 5 f14.Z6 f14.Z7
def KL (N:Nat):(List UInt8)×(List UInt8)×Int×Int×List (Instr)→Option (lK)
 |(b,c,d,e,f)=>((Z5 N c).bind fun g=>
 ((f14.Vk N N (g,0,([]:List UInt8),0,0,b,d,e,[],f,[(0,0)],[(0,0)])).bind fun a=>
 some (a.2.2.2.1,a.2.2.2.2.1,a.2.2.2.2.2.1,a.2.2.2.2.2.2.1,a.2.2.2.2.2.2.2.1,a.2.2.2.2.2.2.2.2.1,a.2.2.2.2.2.2.2.2.2)))
def G14 (N:Nat):au:=(G12 N).put 14 s14 (KL N)
theorem K14 (N:Nat):aF cx (G14 N):=(K12 N).put (E':=(adM N)) (((K12 N).on s14).af N 0 5 f14.Z6 f14.Z7) 14 s14 (KL N) (funext fun⟨a,b,c,d,e⟩=>by rw[KL,f14.adL N N];kernel_rfl)
def Vl:dz:=⟨[.c (.int .i64),.c (.int .i64)],[(false,[.bool])],0,[(0,1,4,.bool)],[],[],[]⟩
def Fv (N:Nat):Int×Int→Option (Bool)
 |(a,b)=>((cond (decide (a≥0))
 (some (decide (a<b)))
 (some false)).bind fun c=>
 some c)
def Z8 (N:Nat):au:=(G14 N).put 142 Vl (Fv N)
theorem adN (N:Nat):aF cx (Z8 N):=(K14 N).put (E':=((G14 N).on Vl)) ((K14 N).on Vl) 142 Vl (Fv N) (funext fun⟨a,b⟩=>by rw[Fv];kernel_rfl)
def Vm:dz:=sg [.c (.int .i64)] [(false,[.bool])]
def Rv (N:Nat):Int→Option (Bool)
 |a=>some (a != 0)
def Z9 (N:Nat):au:=(Z8 N).put 169 Vm (Rv N)
theorem adO (N:Nat):aF cx (Z9 N):=(adN N).put (E':=((Z8 N).on Vm)) ((adN N).on Vm) 169 Vm (Rv N) (funext fun a=>by rw[Rv];kernel_rfl)
def Vn:dz:=sg [.c (.sl (.int .i64) .bB)] [(false,[.bool])]
def Rw (N:Nat):au:=(Z9 N).on Vn
def f143.kG:bJ:=tm [(0,.c (.sl (.int .i64) .bB)),(1,.fB 169 []),(7,.c (.int .i64)),(8,.c (.int .i64))] [[],[]] [] 3 [] 0
def f143.kH:bG:=[(.ret,tm [(4,.c (.int .i64))] [[],[]] [] 3 [] 0),(.exit 0,tm [] [[],[]] [] 3 [] 0)]
def f143.cK (N:Nat):Nat→(List (Int))×Int×Int→Option ((Int)⊕(Unit))
 |0,_=>none
 |k+1,(b,c,a)=>(cond (decide (a<c))
 ((idx b a).bind fun d=>
 ((Rv N d).bind fun e=>
 (cond e
 (some (Sum.inl a))
 (f143.cK N k (b,c,(ah (a+1)))))))
 (some (Sum.inr ())))
theorem f143.oJ (N:Nat):∀ k,f143.cK N k=lp (Rw N) 1004001007000 3 (tq 162) 3 f143.kG f143.kH k
 |0=>rfl
 |k+1=>funext fun⟨a,b,c⟩=>by rw[f143.cK,f143.oJ N k];kernel_rfl
def aaa (N:Nat):au:=(Rw N).af N 1004001007000 3 f143.kG f143.kH
def Fw (N:Nat):List (Int)→Option (Bool)
 |a=>((f143.cK N N (a,(a.length:Int),0)).bind fun b=>
 (match b with
 |.inl c=>some (!(decide (c≥0)))
 |.inr d=>some (!(decide ((-1:Int)≥0)))))
def aab (N:Nat):au:=(Z9 N).put 143 Vn (Fw N)
theorem adP (N:Nat):aF cx (aab N):=(adO N).put (E':=(aaa N)) (((adO N).on Vn).af N 1004001007000 3 f143.kG f143.kH) 143 Vn (Fw N) (funext fun a=>by rw[Fw,f143.oJ N N];kernel_rfl)
def s93:dz:=⟨[.c (.str)],[(false,[.bool])],0,[(0,1,17,.bool),(0,11,45,.bool)],[],[],[]⟩
def Xx (N:Nat):au:=(aab N).on s93
def f93.eM:bJ:=tm [(19,.c (.sl (.int .u8) .d)),(20,.c (.int .i64)),(21,.c (.int .i64))] [] [] 1 [] 0
def f93.eN:bG:=[(.ret,tm [(2,.c (.bool))] [] [] 1 [] 0),(.exit 0,tm [] [] [] 1 [] 0)]
def f93.bz (N:Nat):Nat→dQ→Option ((Bool)⊕(Unit))
 |0,_=>none
 |k+1,(c,d,b)=>(cond (decide (b<d))
 ((idx c b).bind fun a=>
 ((cond (decide ((zk .u8 a 32)<97))
 (cond (decide (a<48))
 (some true)
 (some (decide (a>57))))
 (cond (decide ((zk .u8 a 32)>122))
 (cond (decide (a<48))
 (some true)
 (some (decide (a>57))))
 (cond ((qv .u8 a 64)==0)
 (cond (decide (a<48))
 (some true)
 (some (decide (a>57))))
 (some false)))).bind fun e=>
 (cond e
 (some (Sum.inl false))
 (f93.bz N k (c,d,(ah (b+1)))))))
 (some (Sum.inr ())))
theorem f93.hU (N:Nat):∀ k,f93.bz N k=lp (Xx N) 0 6 (tq 93) 6 f93.eM f93.eN k
 |0=>rfl
 |k+1=>funext fun⟨a,b,c⟩=>by rw[f93.bz,f93.hU N k];kernel_rfl
def adQ (N:Nat):au:=(Xx N).af N 0 6 f93.eM f93.eN
def Xy (N:Nat):List UInt8→Option (Bool)
 |a=>((cond ((a.length:Int)==0)
 (some true)
 (cond (decide ((a.length:Int)>16))
 (some true)
 ((idx a 0).bind fun c0=>
 some (decide ((c0.toNat:Int)≤57))))).bind fun b=>
 (cond b
 (some false)
 ((f93.bz N N ((bx a),((bx a).length:Int),0)).bind fun c=>
 (match c with
 |.inl d=>some d
 |.inr e=>some true))))
def G93 (N:Nat):au:=(aab N).put 93 s93 (Xy N)
theorem K93 (N:Nat):aF cx (G93 N):=(adP N).put (E':=(adQ N)) (((adP N).on s93).af N 0 6 f93.eM f93.eN) 93 s93 (Xy N) (funext fun a=>by rw[Xy,f93.hU N N];kernel_rfl)
def s90:dz:=⟨[.c (.sl bT .bB),.c (.int .i64)],[(false,[.bool])],0,[(0,8,16,.bool),(0,6,16,.bool),(0,13,29,.bool)],[],[],[]⟩
def Xz (N:Nat):au:=(G93 N).on s90
def f90.Rx:bJ:=tm [(1,.c (.int .i64)),(5,.c (.ptr 0 5 0 0 0)),(6,.fB 142 []),(7,.c (.mp 0 70 1)),(72,.c (.sl cW .d)),(73,.c (.int .i64)),(74,.c (.int .i64))] [] [(0,5,.box 0 (aL bT)),(0,70,.set 1)] 1 [] 2
def f90.Ry:bG:=[(.ret,tm [(4,.c (.bool))] [] [] 1 [] 0),(.exit 1,tm [(5,.c (.ptr 0 5 0 0 0))] [] [(0,5,.box 0 (aL bT))] 1 [] 1)]
def f90.x9 (N:Nat):Nat→Int×(List (Field))×Int×Int×Z4 (List (List UInt8))→Option ((Bool)⊕(Ru))
 |0,_=>none
 |k+1,(c,d,e,b,f,g,h,i,j)=>(cond (decide (b<e))
 ((idx d b).bind fun a=>
 ((Xy N a.1).bind fun l=>
 (cond (!l)
 (some (Sum.inl false))
 (cond (hasB j a.1)
 (some (Sum.inl false))
 ((Fv N (a.2,c)).bind fun m=>
 (cond (!m)
 (some (Sum.inl false))
 (f90.x9 N k (c,d,e,(ah (b+1)),f,g,h,i,(qB j a.1)))))))))
 (some (Sum.inr (f,g,h,i))))
theorem f90.XA (N:Nat):∀ k,f90.x9 N k=lp (Xz N) 0 25 (tq 90) 25 f90.Rx f90.Ry k
 |0=>rfl
 |k+1=>funext fun⟨a,b,c,d,e,f,g,h,i⟩=>by rw[f90.x9,f90.XA N k];kernel_rfl
def adR (N:Nat):au:=(Xz N).af N 0 25 f90.Rx f90.Ry
def F90 (N:Nat):(List (aI))×Int→Option (Bool)
 |(d,c)=>((idx d c).bind fun a=>
 ((cond (a.1==1)
 (some true)
 ((cond (a.1==2)
 (some true)
 (some (a.1==3))).bind fun e=>
 some e)).bind fun f=>
 (cond f
 ((Fw N [a.2.1,a.2.2.1,(a.2.2.2.length:Int)]).bind fun g=>
 some g)
 ((cond (a.1==4)
 (some true)
 (some (a.1==7))).bind fun h=>
 (cond h
 ((Fv N (a.2.1,(d.length:Int))).bind fun i=>
 (cond i
 ((Fw N [a.2.2.1,(a.2.2.2.length:Int)]).bind fun j=>
 some j)
 (some false)))
 (cond (a.1==6)
 ((Fv N (a.2.1,c)).bind fun l=>
 (cond l
 ((Fv N ((ah (a.2.2.1-1)),16)).bind fun m=>
 (cond m
 ((Fw N [(a.2.2.2.length:Int)]).bind fun n=>
 some n)
 (some false)))
 (some false)))
 (cond (a.1==5)
 ((f90.x9 N N (c,a.2.2.2,(a.2.2.2.length:Int),0,a.1,a.2.1,a.2.2.1,a.2.2.2,([]:List (List UInt8)))).bind fun o=>
 (match o with
 |.inl p=>some p
 |.inr b=>((Fw N [b.2.1,b.2.2.1]).bind fun q=>
 (cond q
 (cond (decide ((b.2.2.2.length:Int)>0))
 (some (decide ((b.2.2.2.length:Int)≤8)))
 (some false))
 (some false)))))
 (some false))))))))
def G90 (N:Nat):au:=(G93 N).put 90 s90 (F90 N)
theorem K90 (N:Nat):aF cx (G90 N):=(K93 N).put (E':=(adR N)) (((K93 N).on s90).af N 0 25 f90.Rx f90.Ry) 90 s90 (F90 N) (funext fun⟨a,b⟩=>by rw[F90,f90.XA N N];kernel_rfl)
def s91:dz:=⟨[.c (.sl bT .bB)],[(false,[.sl (.int .i64) .d])],0,[(0,26,7,(.int .i64)),(0,23,7,(.int .i64)),(0,20,7,(.int .i64))],[],[(0,12,(.int .i64)),(0,17,(.int .i64))],[]⟩
def XB (N:Nat):au:=(G90 N).on s91
def f91.A8:bJ:=tm [(0,.c (.sl bT .bB)),(3,.c (.ref 0 3 0 (.int .i64))),(4,.c (.ref 0 17 1 (.int .i64))),(5,.c (.int .i64)),(7,.c (.int .i64)),(13,.c (.int .i64)),(18,.c (.sl bT .bB)),(19,.c (.int .i64)),(20,.c (.int .i64)),(59,.c (.sl cW .d)),(60,.c (.int .i64)),(61,.c (.int .i64))] [] [(0,3,.row 0 (.int .i64)),(0,17,.row 1 (.int .i64))] 1 [] 2
def f91.A9:bG:=[(.exit 5,tm [(0,.c (.sl bT .bB)),(3,.c (.ref 0 3 0 (.int .i64))),(4,.c (.ref 0 17 1 (.int .i64))),(5,.c (.int .i64)),(7,.c (.int .i64)),(13,.c (.int .i64)),(18,.c (.sl bT .bB)),(19,.c (.int .i64)),(20,.c (.int .i64))] [] [(0,3,.row 0 (.int .i64)),(0,17,.row 1 (.int .i64))] 1 [] 2)]
def f91.mc (N:Nat):Nat→(List (aI))×Int×Int×Int×(List (aI))×Int×Int×(List (Field))×Int×Int×(List (Int))×List (Int)→Option (((List (aI))×Int×Int×Int×(List (aI))×Int×Int×(List (Int))×List (Int)))
 |0,_=>none
 |k+1,(c,d,e,f,g,h,i,j,l,b,m,a)=>(cond (decide (b<l))
 ((idx j b).bind fun n=>
 (aM (jf n.2 a.length)
 ((a[n.2.toNat]?).bind fun o=>
 f91.mc N k (c,d,(ah (e+o)),f,g,h,i,j,l,(ah (b+1)),m,a))))
 (some (c,d,e,f,g,h,i,m,a)))
theorem f91.Iu (N:Nat):∀ k,f91.mc N k=lp (XB N) 0 30 (tq 91) 30 f91.A8 f91.A9 k
 |0=>rfl
 |k+1=>funext fun⟨a,b,c,d,e,f,g,h,i,j,l,m⟩=>by rw[f91.mc,f91.Iu N k];kernel_rfl
def XC (N:Nat):au:=(XB N).af N 0 30 f91.A8 f91.A9
def f91.rM:bJ:=tm [(0,.c (.sl bT .bB)),(3,.c (.ref 0 3 0 (.int .i64))),(4,.c (.ref 0 17 1 (.int .i64))),(13,.c (.int .i64)),(18,.c (.sl bT .bB)),(19,.c (.int .i64)),(20,.c (.int .i64))] [] [(0,3,.row 0 (.int .i64)),(0,17,.row 1 (.int .i64))] 1 [] 2
def f91.rN:bG:=[(.exit 2,tm [(0,.c (.sl bT .bB)),(4,.c (.ref 0 17 0 (.int .i64))),(13,.c (.int .i64))] [] [(0,17,.row 0 (.int .i64))] 1 [] 1)]
def f91.fM (N:Nat):Nat→(List (aI))×Int×(List (aI))×Int×Int×(List (Int))×List (Int)→Option (((List (aI))×Int×List (Int)))
 |0,_=>none
 |k+1,(f,g,h,i,d,c,e)=>(cond (decide (d<i))
 ((idx h d).bind fun b=>
 ((cond (b.1==4)
 (aM (jf b.2.1 c.length)
 ((c[b.2.1.toNat]?).bind fun j=>
 some (ah (1+j))))
 ((cond (b.1==7)
 (aM (jf b.2.1 c.length)
 ((c[b.2.1.toNat]?).bind fun l=>
 some (ah (1+(ah (16*l))))))
 ((cond (b.1==6)
 (aM (jf b.2.1 e.length)
 ((e[b.2.1.toNat]?).bind fun m=>
 some (ah (1+(ah (b.2.2.1*m))))))
 (some 1)).bind fun n=>
 some n)).bind fun o=>
 some o)).bind fun p=>
 ((f91.mc N N (f,d,p,g,h,i,d,b.2.2.2,(b.2.2.2.length:Int),0,c,e)).bind fun a=>
 (aM (jf a.2.1 a.2.2.2.2.2.2.2.2.length)
 ((a.2.2.2.2.2.2.2.2[a.2.1.toNat]?).bind fun q=>
 f91.fM N k (a.1,a.2.2.2.1,a.2.2.2.2.1,a.2.2.2.2.2.1,(ah (a.2.2.2.2.2.2.1+1)),a.2.2.2.2.2.2.2.1,(a.2.2.2.2.2.2.2.2.set a.2.1.toNat (min a.2.2.1 5001))))))))
 (some (f,g,e)))
theorem f91.ya (N:Nat):∀ k,f91.fM N k=lp (XC N) 0 11 (tq 91) 11 f91.rM f91.rN k
 |0=>rfl
 |k+1=>funext fun⟨a,b,c,d,e,f,g⟩=>by rw[f91.fM,f91.ya N k,f91.Iu N N];kernel_rfl
def XD (N:Nat):au:=(XC N).af N 0 11 f91.rM f91.rN
def f91.kI:bJ:=tm [(0,.c (.sl bT .bB)),(3,.c (.ref 0 3 0 (.int .i64))),(13,.c (.int .i64))] [] [(0,3,.row 0 (.int .i64))] 1 [] 1
def f91.kJ:bG:=[(.exit 0,tm [(3,.c (.ref 0 3 0 (.int .i64)))] [] [(0,3,.row 0 (.int .i64))] 1 [] 1)]
def f91.cB (N:Nat):Nat→(List (aI))×Int×List (Int)→Option ((List (Int)))
 |0,_=>none
 |k+1,(a,c,d)=>(cond (decide (c<4))
 (aM (decide (0≤(a.length:Int)))
 (aM (decide (0≤(a.length:Int)))
 (aM (decide ((Int.toNat (a.length:Int))≤(Int.toNat (a.length:Int)))&&room (Int.toNat (a.length:Int)) 8)
 ((f91.fM N N (a,c,a,(a.length:Int),0,d,(List.replicate (Int.toNat (a.length:Int)) (0:Int)))).bind fun b=>
 f91.cB N k (b.1,(ah (b.2.1+1)),b.2.2)))))
 (some d))
theorem f91.oK (N:Nat):∀ k,f91.cB N k=lp (XD N) 0 4 (tq 91) 4 f91.kI f91.kJ k
 |0=>rfl
 |k+1=>funext fun⟨a,b,c⟩=>by rw[f91.cB,f91.oK N k,f91.ya N N];kernel_rfl
def adS (N:Nat):au:=(XD N).af N 0 4 f91.kI f91.kJ
def F91 (N:Nat):List (aI)→Option (List (Int))
 |a=>(aM (decide (0≤(a.length:Int)))
 (aM (decide (0≤(a.length:Int)))
 (aM (decide ((Int.toNat (a.length:Int))≤(Int.toNat (a.length:Int)))&&room (Int.toNat (a.length:Int)) 8)
 ((f91.cB N N (a,0,(List.replicate (Int.toNat (a.length:Int)) (0:Int)))).bind fun b=>
 some b))))
def G91 (N:Nat):au:=(G90 N).put 91 s91 (F91 N)
theorem K91 (N:Nat):aF cx (G91 N):=(K90 N).put (E':=(adS N)) (((((K90 N).on s91).af N 0 30 f91.A8 f91.A9).af N 0 11 f91.rM f91.rN).af N 0 4 f91.kI f91.kJ) 91 s91 (F91 N) (funext fun a=>by rw[F91,f91.oK N N];kernel_rfl)
def s53:dz:=sg [.c (.sl bT .bB)] [(false,[.int .i64])]
def XE (N:Nat):au:=(G91 N).on s53
def f53.eM:bJ:=tm [(0,.c (.sl bT .bB)),(10,.c (.int .i64)),(11,.c (.int .i64))] [] [] 1 [] 0
def f53.eN:bG:=[(.ret,tm [(2,.c (.int .i64))] [] [] 1 [] 0),(.exit 0,tm [(0,.c (.sl bT .bB))] [] [] 1 [] 0)]
def f53.bz (N:Nat):Nat→(List (aI))×Int×Int→Option ((Int)⊕(List (aI)))
 |0,_=>none
 |k+1,(a,c,b)=>(cond (decide (b<c))
 ((F90 N (a,b)).bind fun d=>
 (cond (!d)
 (some (Sum.inl 8))
 (f53.bz N k (a,c,(ah (b+1))))))
 (some (Sum.inr a)))
theorem f53.hU (N:Nat):∀ k,f53.bz N k=lp (XE N) 0 6 (tq 53) 6 f53.eM f53.eN k
 |0=>rfl
 |k+1=>funext fun⟨a,b,c⟩=>by rw[f53.bz,f53.hU N k];kernel_rfl
def XF (N:Nat):au:=(XE N).af N 0 6 f53.eM f53.eN
def f53.Ba:bJ:=tm [(20,.c (.sl (.int .i64) .d)),(21,.c (.int .i64)),(22,.c (.int .i64))] [] [] 1 [] 0
def f53.Bb:bG:=[(.ret,tm [(2,.c (.int .i64))] [] [] 1 [] 0),(.exit 2,tm [] [] [] 1 [] 0)]
def f53.me (N:Nat):Nat→(List (Int))×Int×Int→Option ((Int)⊕(Unit))
 |0,_=>none
 |k+1,(b,c,a)=>(cond (decide (a<c))
 ((idx b a).bind fun d=>
 (cond (decide (d>5000))
 (some (Sum.inl 8))
 (f53.me N k (b,c,(ah (a+1))))))
 (some (Sum.inr ())))
theorem f53.Iv (N:Nat):∀ k,f53.me N k=lp (XF N) 0 17 (tq 53) 17 f53.Ba f53.Bb k
 |0=>rfl
 |k+1=>funext fun⟨a,b,c⟩=>by rw[f53.me,f53.Iv N k];kernel_rfl
def adT (N:Nat):au:=(XF N).af N 0 17 f53.Ba f53.Bb
def F53 (N:Nat):List (aI)→Option (Int)
 |a=>(cond (decide ((a.length:Int)>32))
 (some 8)
 ((f53.bz N N (a,(a.length:Int),0)).bind fun c=>
 (match c with
 |.inl d=>some d
 |.inr e=>((F91 N e).bind fun b=>
 ((f53.me N N (b,(b.length:Int),0)).bind fun f=>
 (match f with
 |.inl g=>some g
 |.inr h=>some 0))))))
def G53 (N:Nat):au:=(G91 N).put 53 s53 (F53 N)
theorem K53 (N:Nat):aF cx (G53 N):=(K91 N).put (E':=(adT N)) ((((K91 N).on s53).af N 0 6 f53.eM f53.eN).af N 0 17 f53.Ba f53.Bb) 53 s53 (F53 N) (funext fun a=>by rw[F53,f53.hU N N,f53.Iv N N];kernel_rfl)
def Vo:dz:=⟨[.c (.sl mb .bB),.c (.sl cW .bB)],[(false,[.sl (.int .i64) .d]),(true,(aL mb))],0,[],[],[(0,13,(.int .i64))],[]⟩
def Rz (N:Nat):au:=(G53 N).on Vo
def f170.kI:bJ:=tm [(0,.c (.sl mb .bB)),(5,.c (.ptr 0 5 0 0 0)),(6,.c (.ref 0 13 1 (.int .i64))),(7,.c (.ptr 0 7 2 0 0)),(15,.c (.sl cW .bB)),(16,.c (.int .i64)),(17,.c (.int .i64))] [] [(0,5,.box 0 (aL mb)),(0,13,.row 1 (.int .i64)),(0,7,.box 2 (aL mb))] 1 [] 3
def f170.kJ:bG:=[(.exit 0,tm [(5,.c (.ptr 0 5 0 0 0)),(6,.c (.ref 0 13 1 (.int .i64))),(7,.c (.ptr 0 7 2 0 0))] [] [(0,5,.box 0 (aL mb)),(0,13,.row 1 (.int .i64)),(0,7,.box 2 (aL mb))] 1 [] 3)]
def f170.cB (N:Nat):Nat→(List (span))×(List (Field))×Int×Int×Int×Int×(List (Int))×Int×Int→Option ((Int×Int×(List (Int))×Int×Int))
 |0,_=>none
 |k+1,(e,f,g,a,h,i,c,d,j)=>(cond (decide (a<g))
 ((idx f a).bind fun l=>
 ((idx e l.2).bind fun b=>
 (aM (jf a c.length)
 ((c[a.toNat]?).bind fun n=>
 (aM (jf a (c.set a.toNat (nO .i64 (ah ((ah (d+b.2))-1)) (ah (b.2-1)))).length)
 (((c.set a.toNat (nO .i64 (ah ((ah (d+b.2))-1)) (ah (b.2-1))))[a.toNat]?).bind fun m=>
 f170.cB N k (e,f,g,(ah (a+1)),h,i,(c.set a.toNat (nO .i64 (ah ((ah (d+b.2))-1)) (ah (b.2-1)))),(min 1048576 (ah (m+b.1))),(max j b.2))))))))
 (some (h,i,c,d,j)))
theorem f170.oK (N:Nat):∀ k,f170.cB N k=lp (Rz N) 0 4 (tq 170) 4 f170.kI f170.kJ k
 |0=>rfl
 |k+1=>funext fun⟨a,b,c,d,e,f,g,h,i⟩=>by rw[f170.cB,f170.oK N k];kernel_rfl
def aad (N:Nat):au:=(Rz N).af N 0 4 f170.kI f170.kJ
def KM (N:Nat):(List (span))×List (Field)→Option ((List (Int))×Int×Int)
 |(c,a)=>(aM (decide (0≤(a.length:Int)))
 (aM (decide (0≤(a.length:Int)))
 (aM (decide ((Int.toNat (a.length:Int))≤(Int.toNat (a.length:Int)))&&room (Int.toNat (a.length:Int)) 8)
 ((f170.cB N N (c,a,(a.length:Int),0,0,0,(List.replicate (Int.toNat (a.length:Int)) (0:Int)),0,1)).bind fun b=>
 some (b.2.2.1,(nO .i64 (ah ((ah (b.2.2.2.1+b.2.2.2.2))-1)) (ah (b.2.2.2.2-1))),b.2.2.2.2)))))
def aae (N:Nat):au:=(G53 N).put 170 Vo (KM N)
theorem adU (N:Nat):aF cx (aae N):=(K53 N).put (E':=(aad N)) (((K53 N).on Vo).af N 0 4 f170.kI f170.kJ) 170 Vo (KM N) (funext fun⟨a,b⟩=>by rw[KM,f170.oK N N];kernel_rfl)
def Vp:dz:=⟨[.c (.sl bT .bB)],[(false,[.sl mb .d])],0,[(0,15,25,.bool)],[],[(0,9,mb)],[]⟩
def RA (N:Nat):au:=(aae N).on Vp
def f144.kI:bJ:=tm [(3,.c (.ref 0 9 0 mb)),(10,.c (.sl bT .bB)),(11,.c (.int .i64)),(12,.c (.int .i64))] [] [(0,9,.row 0 mb)] 1 [] 1
def f144.kJ:bG:=[(.exit 0,tm [(3,.c (.ref 0 9 0 mb))] [] [(0,9,.row 0 mb)] 1 [] 1)]
def f144.cB (N:Nat):Nat→(List (aI))×Int×Int×List (span)→Option ((List (span)))
 |0,_=>none
 |k+1,(d,e,a,b)=>(cond (decide (a<e))
 ((idx d a).bind fun c=>
 (cond (c.1==1)
 (aM (jf a b.length)
 ((b[a.toNat]?).bind fun i=>
 f144.cB N k (d,e,(ah (a+1)),(b.set a.toNat (1,1)))))
 ((cond (c.1==2)
 (some true)
 (some (c.1==4))).bind fun g=>
 (cond g
 (aM (jf a b.length)
 ((b[a.toNat]?).bind fun j=>
 f144.cB N k (d,e,(ah (a+1)),(b.set a.toNat (8,8)))))
 (cond (c.1==3)
 (aM (jf a b.length)
 ((b[a.toNat]?).bind fun l=>
 f144.cB N k (d,e,(ah (a+1)),(b.set a.toNat (16,8)))))
 (cond (c.1==7)
 (aM (jf a b.length)
 ((b[a.toNat]?).bind fun m=>
 f144.cB N k (d,e,(ah (a+1)),(b.set a.toNat (24,8)))))
 (cond (c.1==6)
 (aM (jf c.2.1 b.length)
 ((b[c.2.1.toNat]?).bind fun f=>
 (aM (jf a b.length)
 ((b[a.toNat]?).bind fun n=>
 f144.cB N k (d,e,(ah (a+1)),(b.set a.toNat ((min 1048576 (ah (c.2.2.1*f.1))),f.2)))))))
 (cond (c.1==5)
 ((KM N (b,c.2.2.2)).bind fun h=>
 (aM (jf a b.length)
 ((b[a.toNat]?).bind fun o=>
 f144.cB N k (d,e,(ah (a+1)),(b.set a.toNat h.2)))))
 (f144.cB N k (d,e,(ah (a+1)),b))))))))))
 (some b))
theorem f144.oK (N:Nat):∀ k,f144.cB N k=lp (RA N) 0 4 (tq 144) 4 f144.kI f144.kJ k
 |0=>rfl
 |k+1=>funext fun⟨a,b,c,d⟩=>by rw[f144.cB,f144.oK N k];kernel_rfl
def aaf (N:Nat):au:=(RA N).af N 0 4 f144.kI f144.kJ
def Oq (N:Nat):List (aI)→Option (List (span))
 |a=>(aM (decide (0≤(a.length:Int)))
 (aM (decide (0≤(a.length:Int)))
 (aM (decide ((Int.toNat (a.length:Int))≤(Int.toNat (a.length:Int)))&&room (Int.toNat (a.length:Int)) 16)
 ((f144.cB N N (a,(a.length:Int),0,(List.replicate (Int.toNat (a.length:Int)) (0,0)))).bind fun b=>
 some b))))
def aag (N:Nat):au:=(aae N).put 144 Vp (Oq N)
theorem adV (N:Nat):aF cx (aag N):=(adU N).put (E':=(aaf N)) (((adU N).on Vp).af N 0 4 f144.kI f144.kJ) 144 Vp (Oq N) (funext fun a=>by rw[Oq,f144.oK N N];kernel_rfl)
def s92:dz:=⟨[.c (.sl bT .bB),.c (.int .i64)],[(false,[.sl mb .d]),(false,[.int .i64])],0,[(0,5,20,.bool)],[],[],[]⟩
def F92 (N:Nat):(List (aI))×Int→Option ((List (span))×Int)
 |(a,b)=>((F53 N a).bind fun c=>
 (cond (c != 0)
 (some ([],c))
 ((cond (decide (b<0))
 (some true)
 (some (decide (b≥(a.length:Int))))).bind fun e=>
 (cond e
 (some ([],2))
 ((Oq N a).bind fun d=>
 ((idx d b).bind fun f=>
 (cond (decide (f.1>256))
 (some ([],16))
 (some (d,0)))))))))
def G92 (N:Nat):au:=(aag N).put 92 s92 (F92 N)
theorem K92 (N:Nat):aF cx (G92 N):=(adV N).put (E':=((aag N).on s92)) ((adV N).on s92) 92 s92 (F92 N) (funext fun⟨a,b⟩=>by rw[F92];kernel_rfl)
def s54:dz:=sg [.c (.sl bT .bB),.c (.int .i64)] [(false,[.int .i64]),(false,[.int .i64]),(false,[.int .i64])]
def F54 (N:Nat):(List (aI))×Int→Option (Int×Int×Int)
 |(c,b)=>((F92 N (c,b)).bind fun a=>
 (cond (a.2 != 0)
 (some (0,0,a.2))
 ((idx a.1 b).bind fun d=>
 ((idx a.1 b).bind fun e=>
 some (d.1,e.2,0)))))
def G54 (N:Nat):au:=(G92 N).put 54 s54 (F54 N)
theorem K54 (N:Nat):aF cx (G54 N):=(K92 N).put (E':=((G92 N).on s54)) ((K92 N).on s54) 54 s54 (F54 N) (funext fun⟨a,b⟩=>by rw[F54];kernel_rfl)
def s94:dz:=sg [.c (.sl cW .bB)] [(false,[.bool])]
def XG (N:Nat):au:=(G54 N).on s94
def f94.kK:bJ:=tm [(0,.c (.sl cW .bB)),(1,.fB 146 [.ptr 0 4 0 0 0]),(7,.c (.int .i64)),(8,.c (.int .i64))] [[],[]] [(0,4,.box 0 (aL cW))] 3 [] 1
def f94.kL:bG:=[(.ret,tm [(4,.c (.int .i64))] [[],[]] [] 3 [] 0),(.exit 0,tm [] [[],[]] [] 3 [] 0)]
def f94.bW (N:Nat):Nat→(List (Field))×Int×Int×(List UInt8)×Int→Option ((Int)⊕(Unit))
 |0,_=>none
 |k+1,(b,c,a,d,e)=>(cond (decide (a<c))
 ((idx b a).bind fun f=>
 (cond (f.1==d)
 (some (Sum.inl a))
 (f94.bW N k (b,c,(ah (a+1)),d,e))))
 (some (Sum.inr ())))
theorem f94.oL (N:Nat):∀ k,f94.bW N k=lp (XG N) 1021001007000 3 (tq 171) 3 f94.kK f94.kL k
 |0=>rfl
 |k+1=>funext fun⟨a,b,c,d,e⟩=>by rw[f94.bW,f94.oL N k];kernel_rfl
def XH (N:Nat):au:=(XG N).af N 1021001007000 3 f94.kK f94.kL
def f94.tS:bJ:=tm [(0,.c (.sl cW .bB)),(5,.c (.sl cW .bB)),(6,.c (.int .i64)),(7,.c (.int .i64))] [] [] 1 [] 0
def f94.tT:bG:=[(.ret,tm [(2,.c (.bool))] [] [] 1 [] 0),(.exit 0,tm [] [] [] 1 [] 0)]
def f94.lM (N:Nat):Nat→(List (Field))×(List (Field))×Int×Int→Option ((Bool)⊕(Unit))
 |0,_=>none
 |k+1,(b,c,d,a)=>(cond (decide (a<d))
 ((idx c a).bind fun e=>
 ((Xy N e.1).bind fun f=>
 (cond (!f)
 (some (Sum.inl false))
 (aM (decide (0≤a))
 (aM (decide (a.toNat≤b.length))
 ((f94.bW N N ((b.take a.toNat),((b.take a.toNat).length:Int),0,e.1,e.2)).bind fun g=>
 (match g with
 |.inl h=>(cond (decide (h≥0))
 (some (Sum.inl false))
 (f94.lM N k (b,c,d,(ah (a+1)))))
 |.inr i=>f94.lM N k (b,c,d,(ah (a+1))))))))))
 (some (Sum.inr ())))
theorem f94.A7 (N:Nat):∀ k,f94.lM N k=lp (XH N) 0 3 (tq 94) 3 f94.tS f94.tT k
 |0=>rfl
 |k+1=>funext fun⟨a,b,c,d⟩=>by rw[f94.lM,f94.A7 N k,f94.oL N N];kernel_rfl
def adX (N:Nat):au:=(XH N).af N 0 3 f94.tS f94.tT
def F94 (N:Nat):List (Field)→Option (Bool)
 |a=>((f94.lM N N (a,a,(a.length:Int),0)).bind fun b=>
 (match b with
 |.inl c=>some c
 |.inr d=>some true))
def G94 (N:Nat):au:=(G54 N).put 94 s94 (F94 N)
theorem K94 (N:Nat):aF cx (G94 N):=(K54 N).put (E':=(adX N)) ((((K54 N).on s94).af N 1021001007000 3 f94.kK f94.kL).af N 0 3 f94.tS f94.tT) 94 s94 (F94 N) (funext fun a=>by rw[F94,f94.A7 N N];kernel_rfl)
def Vq:dz:=sg [] [(true,(aL pZ))]
def vu (N:Nat):Unit→Option (Vi)
 |()=>some (0,15,false,true)
def aai (N:Nat):au:=(G94 N).put 149 Vq (vu N)
theorem adY (N:Nat):aF cx (aai N):=(K94 N).put (E':=((G94 N).on Vq)) ((K94 N).on Vq) 149 Vq (vu N) (funext fun ()=>by rw[vu];kernel_rfl)
def Vr:dz:=sg [] [(true,(aL pZ))]
def RB (N:Nat):Unit→Option (Vi)
 |()=>some ((-9223372036854775808),9223372036854775807,false,false)
def aaj (N:Nat):au:=(aai N).put 150 Vr (RB N)
theorem adZ (N:Nat):aF cx (aaj N):=(adY N).put (E':=((aai N).on Vr)) ((adY N).on Vr) 150 Vr (RB N) (funext fun ()=>by rw[RB];kernel_rfl)
def Vs:dz:=sg [.c (.int .i64)] [(true,(aL pZ))]
def yN (N:Nat):Int→Option (Vi)
 |a=>some (0,(ah (a-1)),false,false)
def aak (N:Nat):au:=(aaj N).put 151 Vs (yN N)
theorem ad0 (N:Nat):aF cx (aak N):=(adZ N).put (E':=((aaj N).on Vs)) ((adZ N).on Vs) 151 Vs (yN N) (funext fun a=>by rw[yN];kernel_rfl)
def Vt:dz:=sg [] [(true,(aL pZ))]
def qw (N:Nat):Unit→Option (Vi)
 |()=>some (0,15,true,false)
def aal (N:Nat):au:=(aak N).put 152 Vt (qw N)
theorem ad1 (N:Nat):aF cx (aal N):=(ad0 N).put (E':=((aak N).on Vt)) ((ad0 N).on Vt) 152 Vt (qw N) (funext fun ()=>by rw[qw];kernel_rfl)
def s98:dz:=⟨[.c (.int .u8)],[(true,[.int .i64,.int .i64,.bool,.bool,.int .i64,.int .i64,.bool,.bool,.int .i64,.int .i64,.bool,.bool]),(false,[.int .i64])],0,[(0,24,7,.bool),(0,34,16,.bool),(0,48,19,.bool),(0,46,19,.bool),(0,44,19,.bool),(0,42,19,.bool),(0,40,19,.bool),(0,38,19,.bool),(0,60,27,.bool),(0,58,27,.bool),(0,56,27,.bool),(0,54,27,.bool),(0,52,27,.bool),(0,78,46,.bool),(0,76,46,.bool),(0,84,52,.bool)],[],[(0,62,pZ),(0,67,pZ),(0,72,pZ),(0,76,pZ),(0,91,pZ),(0,97,pZ),(0,103,pZ),(0,108,pZ),(0,112,pZ),(0,117,pZ),(0,121,pZ),(0,126,pZ),(0,132,pZ),(0,137,pZ),(0,141,pZ)],[]⟩
def RD (N:Nat):Int→Option (Z3 (Z3 (Z3 Int)))
 |a=>((cond (a==30)
 (some true)
 (some (a==31))).bind fun K=>
 (cond K
 (some (0,0,false,false,0,0,false,false,0,0,false,false,0))
 (cond (a==1)
 ((vu N ()).bind fun e=>
 ((RB N ()).bind fun f=>
 some (e.1,e.2.1,e.2.2.1,e.2.2.2,f.1,f.2.1,f.2.2.1,f.2.2.2,0,0,false,false,2)))
 (cond (a==2)
 ((vu N ()).bind fun g=>
 ((yN N 32).bind fun h=>
 some (g.1,g.2.1,g.2.2.1,g.2.2.2,h.1,h.2.1,h.2.2.1,h.2.2.2,0,0,false,false,2)))
 (cond (a==3)
 ((vu N ()).bind fun i=>
 ((yN N 2).bind fun j=>
 some (i.1,i.2.1,i.2.2.1,i.2.2.2,j.1,j.2.1,j.2.2.1,j.2.2.2,0,0,false,false,2)))
 ((cond (a==4)
 (some true)
 (some (a==15))).bind fun L=>
 (cond L
 ((vu N ()).bind fun l=>
 some (l.1,l.2.1,l.2.2.1,l.2.2.2,0,0,false,false,0,0,false,false,1))
 ((cond (a==6)
 (some true)
 ((cond (a==7)
 (some true)
 ((cond (a==8)
 (some true)
 ((cond (a==9)
 (some true)
 ((cond (a==10)
 (some true)
 ((cond (a==11)
 (some true)
 (some (a==19))).bind fun M=>
 some M)).bind fun O=>
 some O)).bind fun P=>
 some P)).bind fun Q=>
 some Q)).bind fun R=>
 some R)).bind fun S=>
 (cond S
 ((qw N ()).bind fun b=>
 ((vu N ()).bind fun c=>
 ((qw N ()).bind fun d=>
 (cond b.2.2.1
 (some (c.1,c.2.1,c.2.2.1,c.2.2.2,d.1,d.2.1,d.2.2.1,d.2.2.2,b.1,b.2.1,b.2.2.1,b.2.2.2,3))
 (some (c.1,c.2.1,c.2.2.1,c.2.2.2,d.1,d.2.1,d.2.2.1,d.2.2.2,b.1,b.2.1,b.2.2.1,b.2.2.2,2))))))
 ((cond (a==5)
 (some true)
 ((cond (a==12)
 (some true)
 ((cond (a==16)
 (some true)
 ((cond (a==18)
 (some true)
 ((cond (a==21)
 (some true)
 (some (a==33))).bind fun T=>
 some T)).bind fun U=>
 some U)).bind fun V=>
 some V)).bind fun W=>
 some W)).bind fun X=>
 (cond X
 ((vu N ()).bind fun m=>
 ((qw N ()).bind fun n=>
 some (m.1,m.2.1,m.2.2.1,m.2.2.2,n.1,n.2.1,n.2.2.1,n.2.2.2,0,0,false,false,2)))
 (cond (a==13)
 ((vu N ()).bind fun o=>
 ((qw N ()).bind fun p=>
 ((yN N 8).bind fun q=>
 some (o.1,o.2.1,o.2.2.1,o.2.2.2,p.1,p.2.1,p.2.2.1,p.2.2.2,q.1,q.2.1,q.2.2.1,q.2.2.2,3))))
 (cond (a==14)
 ((qw N ()).bind fun r=>
 ((yN N 8).bind fun s=>
 ((qw N ()).bind fun t=>
 some (r.1,r.2.1,r.2.2.1,r.2.2.2,s.1,s.2.1,s.2.2.1,s.2.2.2,t.1,t.2.1,t.2.2.1,t.2.2.2,3))))
 (cond (a==20)
 ((qw N ()).bind fun u=>
 ((qw N ()).bind fun v=>
 ((qw N ()).bind fun w=>
 some (u.1,u.2.1,u.2.2.1,u.2.2.2,v.1,v.2.1,v.2.2.1,v.2.2.2,w.1,w.2.1,w.2.2.1,w.2.2.2,3))))
 (cond (a==17)
 ((qw N ()).bind fun x=>
 ((qw N ()).bind fun y=>
 some (x.1,x.2.1,x.2.2.1,x.2.2.2,y.1,y.2.1,y.2.2.1,y.2.2.2,0,0,false,false,2)))
 (cond (a==22)
 ((yN N 200).bind fun z=>
 some (z.1,z.2.1,z.2.2.1,z.2.2.2,0,0,false,false,0,0,false,false,1))
 (cond (a==23)
 ((qw N ()).bind fun A=>
 ((yN N 200).bind fun B=>
 some (A.1,A.2.1,A.2.2.1,A.2.2.2,B.1,B.2.1,B.2.2.1,B.2.2.2,0,0,false,false,2)))
 ((cond (a==24)
 (some true)
 ((cond (a==28)
 (some true)
 (some (a==32))).bind fun Y=>
 some Y)).bind fun Z=>
 (cond Z
 ((qw N ()).bind fun C=>
 some (C.1,C.2.1,C.2.2.1,C.2.2.2,0,0,false,false,0,0,false,false,1))
 (cond (a==25)
 ((vu N ()).bind fun I=>
 ((yN N 32).bind fun D=>
 some ((-1),I.2.1,I.2.2.1,I.2.2.2,D.1,D.2.1,D.2.2.1,D.2.2.2,0,0,false,false,2)))
 ((cond (a==26)
 (some true)
 (some (a==27))).bind fun a0=>
 (cond a0
 ((yN N 32).bind fun E=>
 some (E.1,E.2.1,E.2.2.1,E.2.2.2,0,0,false,false,0,0,false,false,1))
 (cond (a==29)
 ((vu N ()).bind fun G=>
 ((vu N ()).bind fun H=>
 some (G.1,G.2.1,G.2.2.1,G.2.2.2,H.1,H.2.1,H.2.2.1,H.2.2.2,0,0,false,false,2)))
 (cond (a==34)
 ((qw N ()).bind fun J=>
 some ((-1),J.2.1,J.2.2.1,J.2.2.2,0,0,false,false,0,0,false,false,1))
 (some (0,0,false,false,0,0,false,false,0,0,false,false,(-1)))))))))))))))))))))))))))
def G98 (N:Nat):au:=(aal N).put 98 s98 (RD N)
theorem K98 (N:Nat):aF cx (G98 N):=(ad1 N).put (E':=((aal N).on s98)) ((ad1 N).on s98) 98 s98 (RD N) (funext fun a=>by rw[RD];kernel_rfl)
def s99:dz:=sg [.agg (aL aV)] [(true,[.int .i64,.int .i64,.int .i64])]
def Vu (N:Nat):p4→Option (Int×Int×Int)
 |(d,a,b,c)=>some (a,b,c)
def G99 (N:Nat):au:=(G98 N).put 99 s99 (Vu N)
theorem K99 (N:Nat):aF cx (G99 N):=(K98 N).put (E':=((G98 N).on s99)) ((K98 N).on s99) 99 s99 (Vu N) (funext fun⟨a,b,c,d⟩=>by rw[Vu];kernel_rfl)
def s95:dz:=⟨[.agg (aL aV)],[(false,[.int .i64])],0,[(0,12,34,.bool),(0,100012,34,.bool)],[(0,7),(0,100007)],[],[]⟩
def yO (N:Nat):p4→Option (Int)
 |(c,d,e,f)=>((RD N c).bind fun a=>
 (cond (decide (a.2.2.2.2.2.2.2.2.2.2.2.2<0))
 (some 8)
 ((Vu N (c,d,e,f)).bind fun b=>
 ((cond (decide (b.1<a.1))
 (some true)
 (some (decide (b.1>a.2.1)))).bind fun g=>
 (cond g
 (some 8)
 ((cond (decide (b.2.1<a.2.2.2.2.1))
 (some true)
 (some (decide (b.2.1>a.2.2.2.2.2.1)))).bind fun h=>
 (cond h
 (some 8)
 ((cond (decide (b.2.2<a.2.2.2.2.2.2.2.2.1))
 (some true)
 (some (decide (b.2.2>a.2.2.2.2.2.2.2.2.2.1)))).bind fun i=>
 (cond i
 (some 8)
 (some 0))))))))))
def G95 (N:Nat):au:=(G99 N).put 95 s95 (yO N)
theorem K95 (N:Nat):aF cx (G95 N):=(K99 N).put (E':=((G99 N).on s95)) ((K99 N).on s95) 95 s95 (yO N) (funext fun⟨a,b,c,d⟩=>by rw[yO];kernel_rfl)
def Vv:dz:=⟨[.c (.int .i64)],[(false,[.int .i64])],0,[(0,1,8,.bool)],[],[],[]⟩
def Fy (N:Nat):Int→Option (Int)
 |a=>((cond (decide (a<1))
 (some true)
 (some (decide (a>200)))).bind fun b=>
 (cond b
 (some 2)
 (some 0)))
def aam (N:Nat):au:=(G95 N).put 136 Vv (Fy N)
theorem ad2 (N:Nat):aF cx (aam N):=(K95 N).put (E':=((G95 N).on Vv)) ((K95 N).on Vv) 136 Vv (Fy N) (funext fun a=>by rw[Fy];kernel_rfl)
def Vw:dz:=⟨[.c (.sl gF .bB),.c (.int .i64)],[(false,[.bool])],0,[(0,1,28,.bool)],[],[],[]⟩
def RF (N:Nat):au:=(aam N).on Vw
def f147.kE:bJ:=tm [(5,.c (.ptr 0 5 0 0 0)),(33,.c (.sl gF .bB)),(34,.c (.int .i64)),(35,.c (.int .i64))] [] [(0,5,.box 0 (aL gF))] 1 [] 1
def f147.kF:bG:=[(.ret,tm [(4,.c (.bool))] [] [] 1 [] 0),(.exit 0,tm [] [] [] 1 [] 0)]
def f147.ct (N:Nat):Nat→(List (cI))×Int×Int×Int×Int→Option ((Bool)⊕(Unit))
 |0,_=>none
 |k+1,(c,d,b,e,f)=>(cond (decide (b<d))
 ((idx c b).bind fun a=>
 (cond (decide (a.1≤e))
 (some (Sum.inl false))
 (cond (a.1==a.1&&(a.2==f&&true))
 (some (Sum.inl false))
 (f147.ct N k (c,d,(ah (b+1)),a.1,a.2)))))
 (some (Sum.inr ())))
theorem f147.oI (N:Nat):∀ k,f147.ct N k=lp (RF N) 0 7 (tq 147) 7 f147.kE f147.kF k
 |0=>rfl
 |k+1=>funext fun⟨a,b,c,d,e⟩=>by rw[f147.ct,f147.oI N k];kernel_rfl
def aan (N:Nat):au:=(RF N).af N 0 7 f147.kE f147.kF
def KN (N:Nat):(List (cI))×Int→Option (Bool)
 |(a,c)=>((cond ((a.length:Int)==0)
 (some true)
 ((idx a 0).bind fun d=>
 (cond (d.1 != 0)
 (some true)
 ((idx a (ah ((a.length:Int)-1))).bind fun e=>
 some (decide (e.1≥c)))))).bind fun f=>
 (cond f
 (some false)
 ((idx a 0).bind fun b=>
 (aM (decide (1≤a.length))
 ((f147.ct N N ((a.drop 1),((a.drop 1).length:Int),0,b.1,b.2)).bind fun g=>
 (match g with
 |.inl h=>some h
 |.inr i=>some true))))))
def aao (N:Nat):au:=(aam N).put 147 Vw (KN N)
theorem ad3 (N:Nat):aF cx (aao N):=(ad2 N).put (E':=(aan N)) (((ad2 N).on Vw).af N 0 7 f147.kE f147.kF) 147 Vw (KN N) (funext fun⟨a,b⟩=>by rw[KN,f147.oI N N];kernel_rfl)
def s96:dz:=sg [.c (.sl gF .bB),.c (.int .i64)] [(false,[.int .i64])]
def XI (N:Nat):(List (cI))×Int→Option (Int)
 |(c,a)=>((Fy N a).bind fun b=>
 (cond (b != 0)
 (some b)
 ((KN N (c,a)).bind fun d=>
 (cond (!d)
 (some 8)
 (some 0)))))
def G96 (N:Nat):au:=(aao N).put 96 s96 (XI N)
theorem K96 (N:Nat):aF cx (G96 N):=(ad3 N).put (E':=((aao N).on s96)) ((ad3 N).on s96) 96 s96 (XI N) (funext fun⟨a,b⟩=>by rw[XI];kernel_rfl)
def s55:dz:=⟨[.c (.sl bT .bB),.agg (kg dN)],[(false,[.bool])],0,[(0,1,49,.bool),(0,11,66,.bool),(0,26,4,.bool)],[],[],[]⟩
def XJ (N:Nat):au:=(G96 N).on s55
def f55.eM:bJ:=tm [(0,.c (.sl bT .bB)),(3,.c (.ptr 0 3 0 0 0)),(51,.c (.sl cW .bB)),(52,.c (.int .i64)),(53,.c (.int .i64))] [] [(0,3,.box 0 (kg dN))] 1 [] 1
def f55.eN:bG:=[(.ret,tm [(4,.c (.bool))] [] [] 1 [] 0),(.exit 0,tm [(3,.c (.ptr 0 3 0 0 0))] [] [(0,3,.box 0 (kg dN))] 1 [] 1)]
def f55.bz (N:Nat):Nat→(List (aI))×(List (Field))×Int×Int×lK→Option ((Bool)⊕(lK))
 |0,_=>none
 |k+1,(b,c,d,a,e,f,g,h,i,j,l)=>(cond (decide (a<d))
 ((idx c a).bind fun m=>
 ((cond (decide (m.2<0))
 (some true)
 (some (decide (m.2≥(b.length:Int))))).bind fun n=>
 (cond n
 (some (Sum.inl false))
 (f55.bz N k (b,c,d,(ah (a+1)),e,f,g,h,i,j,l)))))
 (some (Sum.inr (e,f,g,h,i,j,l))))
theorem f55.hU (N:Nat):∀ k,f55.bz N k=lp (XJ N) 0 6 (tq 55) 6 f55.eM f55.eN k
 |0=>rfl
 |k+1=>funext fun⟨a,b,c,d,e,f,g,h,i,j,l⟩=>by rw[f55.bz,f55.hU N k];kernel_rfl
def XK (N:Nat):au:=(XJ N).af N 0 6 f55.eM f55.eN
def f55.Ba:bJ:=tm [(3,.c (.ptr 0 3 0 0 0)),(69,.c (.sl aV .bB)),(70,.c (.int .i64)),(71,.c (.int .i64))] [] [(0,3,.box 0 (kg dN))] 1 [] 1
def f55.Bb:bG:=[(.ret,tm [(4,.c (.bool))] [] [] 1 [] 0),(.exit 2,tm [(3,.c (.ptr 0 3 0 0 0))] [] [(0,3,.box 0 (kg dN))] 1 [] 1)]
def f55.me (N:Nat):Nat→(List (Instr))×Int×Int×lK→Option ((Bool)⊕(lK))
 |0,_=>none
 |k+1,(c,d,b,e,f,g,h,i,j,l)=>(cond (decide (b<d))
 ((idx c b).bind fun a=>
 ((yO N (a.1,a.2.1,a.2.2.1,a.2.2.2)).bind fun m=>
 (cond (m != 0)
 (some (Sum.inl false))
 (f55.me N k (c,d,(ah (b+1)),e,f,g,h,i,j,l)))))
 (some (Sum.inr (e,f,g,h,i,j,l))))
theorem f55.Iv (N:Nat):∀ k,f55.me N k=lp (XK N) 0 17 (tq 55) 17 f55.Ba f55.Bb k
 |0=>rfl
 |k+1=>funext fun⟨a,b,c,d,e,f,g,h,i,j⟩=>by rw[f55.me,f55.Iv N k];kernel_rfl
def ad4 (N:Nat):au:=(XK N).af N 0 17 f55.Ba f55.Bb
def F55 (N:Nat):(List (aI))×lK→Option (Bool)
 |(f,g,d,e,b,h,i,j)=>(((Xy N g).bind fun l=>
 (cond (!l)
 (some true)
 (cond (decide ((b.length:Int)>16))
 (some true)
 ((F94 N b).bind fun m=>
 (cond (!m)
 (some true)
 (cond (decide (d<0))
 (some true)
 (cond (decide (d>(b.length:Int)))
 (some true)
 (cond (decide (e<(-1)))
 (some true)
 (some (decide (e≥(f.length:Int)))))))))))).bind fun n=>
 (cond n
 (some false)
 ((f55.bz N N (f,b,(b.length:Int),0,g,d,e,b,h,i,j)).bind fun o=>
 (match o with
 |.inl p=>some p
 |.inr a=>((f55.me N N (a.2.2.2.2.1,(a.2.2.2.2.1.length:Int),0,a.1,a.2.1,a.2.2.1,a.2.2.2.1,a.2.2.2.2.1,a.2.2.2.2.2.1,a.2.2.2.2.2.2)).bind fun q=>
 (match q with
 |.inl r=>some r
 |.inr c=>(((XI N (c.2.2.2.2.2.1,(c.2.2.2.2.1.length:Int))).bind fun s=>
 (cond (s==0)
 ((XI N (c.2.2.2.2.2.2,(c.2.2.2.2.1.length:Int))).bind fun t=>
 some (t==0))
 (some false))).bind fun u=>
 some u)))))))
def G55 (N:Nat):au:=(G96 N).put 55 s55 (F55 N)
theorem K55 (N:Nat):aF cx (G55 N):=(K96 N).put (E':=(ad4 N)) ((((K96 N).on s55).af N 0 6 f55.eM f55.eN).af N 0 17 f55.Ba f55.Bb) 55 s55 (F55 N) (funext fun⟨a,b,c,d,e,f,g,h⟩=>by rw[F55,f55.hU N N,f55.Iv N N];kernel_rfl)
def s28:dz:=⟨[.agg (kg bY)],[(false,[.bool])],0,[(0,1,33,.bool)],[],[],[]⟩
def XL (N:Nat):au:=(G55 N).on s28
def f28.eM:bJ:=tm [(1,.c (.ptr 0 1 0 0 0)),(36,.c (.int .i64)),(37,.c (.int .i64))] [] [(0,1,.box 0 (kg bY))] 1 [] 1
def f28.eN:bG:=[(.ret,tm [(2,.c (.bool))] [] [] 1 [] 0),(.exit 0,tm [(1,.c (.ptr 0 1 0 0 0))] [] [(0,1,.box 0 (kg bY))] 1 [] 1)]
def f28.bz (N:Nat):Nat→Int×Int×fR→Option ((Bool)⊕(fR))
 |0,_=>none
 |k+1,(c,a,b,d,e)=>(cond (decide (a<c))
 ((F54 N (b,a)).bind fun f=>
 (cond (f.2.2 != 0)
 (some (Sum.inl false))
 (f28.bz N k (c,(ah (a+1)),b,d,e))))
 (some (Sum.inr (b,d,e))))
theorem f28.hU (N:Nat):∀ k,f28.bz N k=lp (XL N) 0 6 (tq 28) 6 f28.eM f28.eN k
 |0=>rfl
 |k+1=>funext fun⟨a,b,c,d,e⟩=>by rw[f28.bz,f28.hU N k];kernel_rfl
def XM (N:Nat):au:=(XL N).af N 0 6 f28.eM f28.eN
def f28.Bc:bJ:=tm [(1,.c (.ptr 0 1 0 0 0)),(52,.c (.sl .str .bB)),(53,.c (.int .i64)),(54,.c (.int .i64))] [] [(0,1,.box 0 (kg bY))] 1 [] 1
def f28.Bd:bG:=[(.ret,tm [(2,.c (.bool))] [] [] 1 [] 0),(.exit 2,tm [(1,.c (.ptr 0 1 0 0 0))] [] [(0,1,.box 0 (kg bY))] 1 [] 1)]
def f28.mg (N:Nat):Nat→(List (List UInt8))×Int×Int×fR→Option ((Bool)⊕(fR))
 |0,_=>none
 |k+1,(b,c,a,d,e,f)=>(cond (decide (a<c))
 ((idx b a).bind fun g=>
 (cond (decide ((g.length:Int)>64))
 (some (Sum.inl false))
 (f28.mg N k (b,c,(ah (a+1)),d,e,f))))
 (some (Sum.inr (d,e,f))))
theorem f28.Iw (N:Nat):∀ k,f28.mg N k=lp (XM N) 0 18 (tq 28) 18 f28.Bc f28.Bd k
 |0=>rfl
 |k+1=>funext fun⟨a,b,c,d,e,f⟩=>by rw[f28.mg,f28.Iw N k];kernel_rfl
def XN (N:Nat):au:=(XM N).af N 0 18 f28.Bc f28.Bd
def f28.A8:bJ:=tm [(1,.c (.ptr 0 1 0 0 0)),(9,.c (.mp 0 62 1)),(64,.c (.sl dN .bB)),(65,.c (.int .i64)),(66,.c (.int .i64))] [] [(0,1,.box 0 (kg bY)),(0,62,.set 1)] 1 [] 2
def f28.A9:bG:=[(.ret,tm [(2,.c (.bool))] [] [] 1 [] 0),(.exit 4,tm [] [] [] 1 [] 0)]
def f28.mc (N:Nat):Nat→(List (Func))×Int×Int×fS (List (List UInt8))→Option ((Bool)⊕(Unit))
 |0,_=>none
 |k+1,(c,d,b,e,g,h,f)=>(cond (decide (b<d))
 ((idx c b).bind fun a=>
 (cond (hasB f a.1)
 (some (Sum.inl false))
 ((F55 N (e,a.1,a.2.1,a.2.2.1,a.2.2.2.1,a.2.2.2.2.1,a.2.2.2.2.2.1,a.2.2.2.2.2.2)).bind fun i=>
 (cond (!i)
 (some (Sum.inl false))
 (f28.mc N k (c,d,(ah (b+1)),e,g,h,(qB f a.1)))))))
 (some (Sum.inr ())))
theorem f28.Iu (N:Nat):∀ k,f28.mc N k=lp (XN N) 0 30 (tq 28) 30 f28.A8 f28.A9 k
 |0=>rfl
 |k+1=>funext fun⟨a,b,c,d,e,f,g⟩=>by rw[f28.mc,f28.Iu N k];kernel_rfl
def ad5 (N:Nat):au:=(XN N).af N 0 30 f28.A8 f28.A9
def TN (N:Nat):fR→Option (Bool)
 |(c,e,d)=>(((F53 N c).bind fun f=>
 (cond (f != 0)
 (some true)
 (cond (decide ((e.length:Int)>32))
 (some true)
 (cond ((d.length:Int)==0)
 (some true)
 (some (decide ((d.length:Int)>32))))))).bind fun g=>
 (cond g
 (some false)
 ((f28.bz N N ((c.length:Int),0,c,e,d)).bind fun h=>
 (match h with
 |.inl i=>some i
 |.inr a=>((f28.mg N N (a.2.1,(a.2.1.length:Int),0,a.1,a.2.1,a.2.2)).bind fun j=>
 (match j with
 |.inl l=>some l
 |.inr b=>((f28.mc N N (b.2.2,(b.2.2.length:Int),0,b.1,b.2.1,b.2.2,([]:List (List UInt8)))).bind fun m=>
 (match m with
 |.inl n=>some n
 |.inr o=>some true))))))))
def G28 (N:Nat):au:=(G55 N).put 28 s28 (TN N)
theorem K28 (N:Nat):aF cx (G28 N):=(K55 N).put (E':=(ad5 N)) (((((K55 N).on s28).af N 0 6 f28.eM f28.eN).af N 0 18 f28.Bc f28.Bd).af N 0 30 f28.A8 f28.A9) 28 s28 (TN N) (funext fun⟨a,b,c⟩=>by rw[TN,f28.hU N N,f28.Iw N N,f28.Iu N N];kernel_rfl)
def s57:dz:=⟨[.c (.int .u64)],[(false,[.sl (.int .u8) .d])],1,[],[(0,4)],[(0,2,(.int .u8)),(1014000,5,(.int .u8)),(1018000,5,(.int .u8))],[]⟩
def XO (N:Nat):au:=(G28 N).on s57
def f57.wQ:bJ:=tm [(0,.c (.int .u64)),(3,.c (.ptr 0 3 0 0 0)),(4,.fB 97 [.ptr 0 3 0 0 0])] [] [(0,3,.box 0 [.ref 0 1097006 1 (.int .u8)]),(0,1097006,.row 1 (.int .u8))] 1 [] 2
def f57.wS:bG:=[(.exit 0,tm [(0,.c (.int .u64)),(3,.c (.ptr 0 3 0 0 0)),(4,.fB 97 [.ptr 0 3 0 0 0])] [] [(0,3,.box 0 [.ref 0 1097006 1 (.int .u8)]),(0,1097006,.row 1 (.int .u8))] 1 [] 2)]
def f57.kM (N:Nat):Nat→Int×List (Int)→Option ((Int×List (Int)))
 |0,_=>none
 |k+1,(a,b)=>(cond (decide (a≥128))
 (aM (room (b.length+1) 1)
 (f57.kM N k ((Int.fdiv a 128),(b++[(zk .u8 (JA a) 128)]))))
 (some (a,b)))
theorem f57.DK (N:Nat):∀ k,f57.kM N k=lp (XO N) 0 100004 (tq 57) 4 f57.wQ f57.wS k
 |0=>rfl
 |k+1=>funext fun⟨a,b⟩=>by rw[f57.kM,f57.DK N k];kernel_rfl
def ad6 (N:Nat):au:=(XO N).af N 0 100004 f57.wQ f57.wS
def oM (N:Nat):Int→Option (List (Int))
 |a=>(cond (decide (a≥128))
 (aM (room 1 1)
 ((f57.kM N N ((Int.fdiv a 128),[(zk .u8 (JA a) 128)])).bind fun b=>
 (aM (room (b.2.length+1) 1)
 (some (b.2++[(JA b.1)])))))
 (aM (room 1 1)
 (some [(JA a)])))
def G57 (N:Nat):au:=(G28 N).put 57 s57 (oM N)
theorem K57 (N:Nat):aF cx (G57 N):=(K28 N).put (E':=(ad6 N)) (((K28 N).on s57).af N 0 100004 f57.wQ f57.wS) 57 s57 (oM N) (funext fun a=>by rw[oM,f57.DK N N];kernel_rfl)
def s58:dz:=sg [.c (.int .i64)] [(false,[.sl (.int .u8) .d])]
def DL (N:Nat):Int→Option (List (Int))
 |a=>((oM N (Ir .u64 (cg ((cg a)*2)) (cg (Int.fdiv a 9223372036854775808)))).bind fun b=>
 some b)
def G58 (N:Nat):au:=(G57 N).put 58 s58 (DL N)
theorem K58 (N:Nat):aF cx (G58 N):=(K57 N).put (E':=((G57 N).on s58)) ((K57 N).on s58) 58 s58 (DL N) (funext fun a=>by rw[DL];kernel_rfl)
def s59:dz:=⟨[.agg (aL aV)],[(false,[.sl (.int .u8) .d]),(false,[.int .i64])],0,[(0,100017,39,.bool),(0,17,39,.bool)],[(0,9),(0,100009)],[(0,23,(.int .u8))],[]⟩
def F59 (N:Nat):p4→Option ((List (Int))×Int)
 |(a,m,n,o)=>((yO N (a,m,n,o)).bind fun p=>
 (cond (p != 0)
 (some ([],p))
 ((RD N a).bind fun b=>
 ((Vu N (a,m,n,o)).bind fun c=>
 (cond (decide (0≥b.2.2.2.2.2.2.2.2.2.2.2.2))
 (cond (decide (1≥b.2.2.2.2.2.2.2.2.2.2.2.2))
 (cond (decide (2≥b.2.2.2.2.2.2.2.2.2.2.2.2))
 (some ([a],0))
 (cond (decide (b.2.2.2.2.2.2.2.2.1<0))
 ((DL N c.2.2).bind fun q=>
 (aM (room (1+q.length) 1)
 (some (([a]++q),0))))
 ((oM N (cg c.2.2)).bind fun r=>
 (aM (room (1+r.length) 1)
 (some (([a]++r),0))))))
 (cond (decide (b.2.2.2.2.1<0))
 ((DL N c.2.1).bind fun f=>
 (aM (room (1+f.length) 1)
 (cond (decide (2≥b.2.2.2.2.2.2.2.2.2.2.2.2))
 (some (([a]++f),0))
 (cond (decide (b.2.2.2.2.2.2.2.2.1<0))
 ((DL N c.2.2).bind fun s=>
 (aM (room (([a]++f).length+s.length) 1)
 (some ((([a]++f)++s),0))))
 ((oM N (cg c.2.2)).bind fun t=>
 (aM (room (([a]++f).length+t.length) 1)
 (some ((([a]++f)++t),0))))))))
 ((oM N (cg c.2.1)).bind fun g=>
 (aM (room (1+g.length) 1)
 (cond (decide (2≥b.2.2.2.2.2.2.2.2.2.2.2.2))
 (some (([a]++g),0))
 (cond (decide (b.2.2.2.2.2.2.2.2.1<0))
 ((DL N c.2.2).bind fun u=>
 (aM (room (([a]++g).length+u.length) 1)
 (some ((([a]++g)++u),0))))
 ((oM N (cg c.2.2)).bind fun v=>
 (aM (room (([a]++g).length+v.length) 1)
 (some ((([a]++g)++v),0))))))))))
 (cond (decide (b.1<0))
 ((DL N c.1).bind fun d=>
 (aM (room (1+d.length) 1)
 (cond (decide (1≥b.2.2.2.2.2.2.2.2.2.2.2.2))
 (cond (decide (2≥b.2.2.2.2.2.2.2.2.2.2.2.2))
 (some (([a]++d),0))
 (cond (decide (b.2.2.2.2.2.2.2.2.1<0))
 ((DL N c.2.2).bind fun w=>
 (aM (room (([a]++d).length+w.length) 1)
 (some ((([a]++d)++w),0))))
 ((oM N (cg c.2.2)).bind fun x=>
 (aM (room (([a]++d).length+x.length) 1)
 (some ((([a]++d)++x),0))))))
 (cond (decide (b.2.2.2.2.1<0))
 ((DL N c.2.1).bind fun h=>
 (aM (room (([a]++d).length+h.length) 1)
 (cond (decide (2≥b.2.2.2.2.2.2.2.2.2.2.2.2))
 (some ((([a]++d)++h),0))
 (cond (decide (b.2.2.2.2.2.2.2.2.1<0))
 ((DL N c.2.2).bind fun y=>
 (aM (room ((([a]++d)++h).length+y.length) 1)
 (some (((([a]++d)++h)++y),0))))
 ((oM N (cg c.2.2)).bind fun z=>
 (aM (room ((([a]++d)++h).length+z.length) 1)
 (some (((([a]++d)++h)++z),0))))))))
 ((oM N (cg c.2.1)).bind fun i=>
 (aM (room (([a]++d).length+i.length) 1)
 (cond (decide (2≥b.2.2.2.2.2.2.2.2.2.2.2.2))
 (some ((([a]++d)++i),0))
 (cond (decide (b.2.2.2.2.2.2.2.2.1<0))
 ((DL N c.2.2).bind fun A=>
 (aM (room ((([a]++d)++i).length+A.length) 1)
 (some (((([a]++d)++i)++A),0))))
 ((oM N (cg c.2.2)).bind fun B=>
 (aM (room ((([a]++d)++i).length+B.length) 1)
 (some (((([a]++d)++i)++B),0))))))))))))
 ((oM N (cg c.1)).bind fun e=>
 (aM (room (1+e.length) 1)
 (cond (decide (1≥b.2.2.2.2.2.2.2.2.2.2.2.2))
 (cond (decide (2≥b.2.2.2.2.2.2.2.2.2.2.2.2))
 (some (([a]++e),0))
 (cond (decide (b.2.2.2.2.2.2.2.2.1<0))
 ((DL N c.2.2).bind fun C=>
 (aM (room (([a]++e).length+C.length) 1)
 (some ((([a]++e)++C),0))))
 ((oM N (cg c.2.2)).bind fun D=>
 (aM (room (([a]++e).length+D.length) 1)
 (some ((([a]++e)++D),0))))))
 (cond (decide (b.2.2.2.2.1<0))
 ((DL N c.2.1).bind fun j=>
 (aM (room (([a]++e).length+j.length) 1)
 (cond (decide (2≥b.2.2.2.2.2.2.2.2.2.2.2.2))
 (some ((([a]++e)++j),0))
 (cond (decide (b.2.2.2.2.2.2.2.2.1<0))
 ((DL N c.2.2).bind fun E=>
 (aM (room ((([a]++e)++j).length+E.length) 1)
 (some (((([a]++e)++j)++E),0))))
 ((oM N (cg c.2.2)).bind fun G=>
 (aM (room ((([a]++e)++j).length+G.length) 1)
 (some (((([a]++e)++j)++G),0))))))))
 ((oM N (cg c.2.1)).bind fun l=>
 (aM (room (([a]++e).length+l.length) 1)
 (cond (decide (2≥b.2.2.2.2.2.2.2.2.2.2.2.2))
 (some ((([a]++e)++l),0))
 (cond (decide (b.2.2.2.2.2.2.2.2.1<0))
 ((DL N c.2.2).bind fun H=>
 (aM (room ((([a]++e)++l).length+H.length) 1)
 (some (((([a]++e)++l)++H),0))))
 ((oM N (cg c.2.2)).bind fun I=>
 (aM (room ((([a]++e)++l).length+I.length) 1)
 (some (((([a]++e)++l)++I),0))))))))))))))))))
def G59 (N:Nat):au:=(G58 N).put 59 s59 (F59 N)
theorem K59 (N:Nat):aF cx (G59 N):=(K58 N).put (E':=((G58 N).on s59)) ((K58 N).on s59) 59 s59 (F59 N) (funext fun⟨a,b,c,d⟩=>by rw[F59];kernel_rfl)
def s60:dz:=sg [.c (.sl gF .bB),.c (.int .i64)] [(false,[.sl (.int .u8) .d]),(false,[.int .i64])]
def XP (N:Nat):au:=(G59 N).on s60
def f60.KO:bJ:=tm [(7,.c (.ref 0 20 0 (.int .u8))),(8,.c (.int .i64)),(21,.c (.sl gF .bB)),(22,.c (.int .i64)),(23,.c (.int .i64))] [] [(0,20,.row 0 (.int .u8))] 1 [] 1
def f60.KP:bG:=[(.exit 0,tm [(7,.c (.ref 0 20 0 (.int .u8)))] [] [(0,20,.row 0 (.int .u8))] 1 [] 1)]
def f60.sR (N:Nat):Nat→Int×(List (cI))×Int×Int×List (Int)→Option ((List (Int)))
 |0,_=>none
 |k+1,(h,e,f,b,a)=>(cond (decide (b<f))
 ((idx e b).bind fun c=>
 ((oM N (cg (ah (c.1-h)))).bind fun d=>
 (aM (room (a.length+d.length) 1)
 ((oM N c.2).bind fun g=>
 (aM (room ((a++d).length+g.length) 1)
 (f60.sR N k (c.1,e,f,(ah (b+1)),((a++d)++g))))))))
 (some a))
theorem f60.RG (N:Nat):∀ k,f60.sR N k=lp (XP N) 0 9 (tq 60) 9 f60.KO f60.KP k
 |0=>rfl
 |k+1=>funext fun⟨a,b,c,d,e⟩=>by rw[f60.sR,f60.RG N k];kernel_rfl
def ad7 (N:Nat):au:=(XP N).af N 0 9 f60.KO f60.KP
def F60 (N:Nat):(List (cI))×Int→Option ((List (Int))×Int)
 |(a,c)=>((XI N (a,c)).bind fun b=>
 (cond (b != 0)
 (some ([],b))
 ((oM N (cg (a.length:Int))).bind fun d=>
 ((f60.sR N N (0,a,(a.length:Int),0,d)).bind fun e=>
 some (e,0)))))
def G60 (N:Nat):au:=(G59 N).put 60 s60 (F60 N)
theorem K60 (N:Nat):aF cx (G60 N):=(K59 N).put (E':=(ad7 N)) (((K59 N).on s60).af N 0 9 f60.KO f60.KP) 60 s60 (F60 N) (funext fun⟨a,b⟩=>by rw[F60,f60.RG N N];kernel_rfl)
def s16:dz:=⟨[.agg (kg bY)],[(false,[.sl (.int .u8) .d]),(false,[.int .i64])],0,[(1015000,12,29,.bool)],[],[(1015000,23,(.int .u8)),(1042000,70,(.sl gF))],[]⟩
def XQ (N:Nat):au:=(G60 N).on s16
def f16.kN:bJ:=tm [(0,.c (.ptr 0 4 0 0 0)),(10,.c (.sl cW .d)),(11,.c (.int .i64)),(12,.c (.int .i64))] [[(0,.c (.ptr 0 4 0 0 0))],[(1,.c (.ptr 0 1 1 0 0)),(4,.c (.ptr 0 4 0 0 0))]] [(0,4,.box 0 [.sl (.int .u8) (.app 2)]),(0,1,.box 1 (kg bY))] 3 [2] 3
def f16.kO:bG:=[(.exit 0,tm [] [[(0,.c (.ptr 0 4 0 0 0))],[(1,.c (.ptr 0 1 1 0 0)),(4,.c (.ptr 0 4 0 0 0))]] [(0,4,.box 0 [.sl (.int .u8) (.app 2)]),(0,1,.box 1 (kg bY))] 3 [2] 3)]
def f16.cL (N:Nat):Nat→(List (Field))×Int×Int×(List (Int))×fR→Option (((List (Int))×fR))
 |0,_=>none
 |k+1,(e,f,d,a,g,h,i)=>(cond (decide (d<f))
 ((idx e d).bind fun b=>
 ((oM N (cg (b.1.length:Int))).bind fun c=>
 (aM (room (a.length+c.length) 1)
 (aM (room ((a++c).length+(bx b.1).length) 1)
 ((oM N (cg b.2)).bind fun j=>
 (aM (room (((a++c)++(bx b.1)).length+j.length) 1)
 (f16.cL N k (e,f,(ah (d+1)),(((a++c)++(bx b.1))++j),g,h,i))))))))
 (some (a,g,h,i)))
theorem f16.oN (N:Nat):∀ k,f16.cL N k=lp (XQ N) 1015001051000 3 (tq 56) 3 f16.kN f16.kO k
 |0=>rfl
 |k+1=>funext fun⟨a,b,c,d,e,f,g⟩=>by rw[f16.cL,f16.oN N k];kernel_rfl
def XR (N:Nat):au:=(XQ N).af N 1015001051000 3 f16.kN f16.kO
def f16.tU:bJ:=tm [(0,.c (.ptr 0 4 0 0 0)),(10,.c (.sl bT .bB)),(11,.c (.int .i64)),(12,.c (.int .i64))] [[(1,.c (.ptr 0 1 1 0 0)),(4,.c (.ptr 0 4 0 0 0))]] [(0,4,.box 0 [.sl (.int .u8) (.app 2)]),(0,1,.box 1 (kg bY))] 2 [2] 3
def f16.tV:bG:=[(.exit 0,tm [] [[(1,.c (.ptr 0 1 0 0 0)),(4,.c (.ptr 0 4 1 0 0))]] [(0,1,.box 0 (kg bY)),(0,4,.box 1 [.sl (.int .u8) (.app 2)])] 2 [2] 3)]
def f16.eO (N:Nat):Nat→(List (aI))×Int×Int×(List (Int))×fR→Option ((fS (List (Int))))
 |0,_=>none
 |k+1,(d,e,c,b,f,g,h)=>(cond (decide (c<e))
 ((idx d c).bind fun a=>
 (aM (room (b.length+1) 1)
 ((cond (a.1==4)
 (some true)
 (some (a.1==7))).bind fun o=>
 (cond o
 ((oM N (cg a.2.1)).bind fun l=>
 (aM (room ((b++[a.1]).length+l.length) 1)
 (f16.eO N k (d,e,(ah (c+1)),((b++[a.1])++l),f,g,h))))
 (cond (a.1==6)
 ((oM N (cg a.2.1)).bind fun j=>
 (aM (room ((b++[a.1]).length+j.length) 1)
 ((oM N (cg a.2.2.1)).bind fun m=>
 (aM (room (((b++[a.1])++j).length+m.length) 1)
 (f16.eO N k (d,e,(ah (c+1)),(((b++[a.1])++j)++m),f,g,h))))))
 (cond (a.1==5)
 ((oM N (cg (a.2.2.2.length:Int))).bind fun n=>
 (aM (room ((b++[a.1]).length+n.length) 1)
 ((f16.cL N N (a.2.2.2,(a.2.2.2.length:Int),0,((b++[a.1])++n),f,g,h)).bind fun i=>
 f16.eO N k (d,e,(ah (c+1)),i.1,i.2.1,i.2.2.1,i.2.2.2))))
 (f16.eO N k (d,e,(ah (c+1)),(b++[a.1]),f,g,h))))))))
 (some (f,g,h,b)))
theorem f16.Be (N:Nat):∀ k,f16.eO N k=lp (XR N) 1015000 3 (tq 29) 3 f16.tU f16.tV k
 |0=>rfl
 |k+1=>funext fun⟨a,b,c,d,e,f,g⟩=>by rw[f16.eO,f16.Be N k,f16.oN N N];kernel_rfl
def XS (N:Nat):au:=(XR N).af N 1015000 3 f16.tU f16.tV
def f16.KO:bJ:=tm [(1,.c (.ptr 0 1 0 0 0)),(4,.c (.ptr 0 4 1 0 0)),(21,.c (.sl .str .bB)),(22,.c (.int .i64)),(23,.c (.int .i64))] [] [(0,1,.box 0 (kg bY)),(0,4,.box 1 [.sl (.int .u8) (.app 2)])] 1 [2] 3
def f16.KP:bG:=[(.exit 0,tm [(1,.c (.ptr 0 1 0 0 0)),(4,.c (.ptr 0 4 1 0 0))] [] [(0,1,.box 0 (kg bY)),(0,4,.box 1 [.sl (.int .u8) (.app 2)])] 1 [2] 3)]
def f16.sR (N:Nat):Nat→(List (List UInt8))×Int×Int×fS (List (Int))→Option ((fS (List (Int))))
 |0,_=>none
 |k+1,(e,f,b,g,h,i,a)=>(cond (decide (b<f))
 ((idx e b).bind fun c=>
 ((oM N (cg (c.length:Int))).bind fun d=>
 (aM (room (a.length+d.length) 1)
 (aM (room ((a++d).length+(bx c).length) 1)
 (f16.sR N k (e,f,(ah (b+1)),g,h,i,((a++d)++(bx c))))))))
 (some (g,h,i,a)))
theorem f16.RG (N:Nat):∀ k,f16.sR N k=lp (XS N) 0 9 (tq 16) 9 f16.KO f16.KP k
 |0=>rfl
 |k+1=>funext fun⟨a,b,c,d,e,f,g⟩=>by rw[f16.sR,f16.RG N k];kernel_rfl
def XT (N:Nat):au:=(XS N).af N 0 9 f16.KO f16.KP
def f16.kP:bJ:=tm [(0,.c (.ptr 0 4 0 0 0)),(10,.c (.sl cW .d)),(11,.c (.int .i64)),(12,.c (.int .i64))] [[(0,.c (.ptr 0 4 0 0 0)),(3,.c (.ptr 1 3 1 0 0))],[(4,.c (.ptr 0 4 0 0 0))]] [(0,4,.box 0 [.sl (.int .u8) (.app 2)]),(1,3,.box 1 (aL dN))] 3 [2] 3
def f16.kQ:bG:=[(.exit 0,tm [] [[(0,.c (.ptr 0 4 0 0 0)),(3,.c (.ptr 1 3 1 0 0))],[(4,.c (.ptr 0 4 0 0 0))]] [(0,4,.box 0 [.sl (.int .u8) (.app 2)]),(1,3,.box 1 (aL dN))] 3 [2] 3)]
def f16.cM (N:Nat):Nat→(List (Field))×Int×Int×(List (Int))×lK→Option (((List (Int))×lK))
 |0,_=>none
 |k+1,(e,f,d,a,g,h,i,j,l,m,n)=>(cond (decide (d<f))
 ((idx e d).bind fun b=>
 ((oM N (cg (b.1.length:Int))).bind fun c=>
 (aM (room (a.length+c.length) 1)
 (aM (room ((a++c).length+(bx b.1).length) 1)
 ((oM N (cg b.2)).bind fun o=>
 (aM (room (((a++c)++(bx b.1)).length+o.length) 1)
 (f16.cM N k (e,f,(ah (d+1)),(((a++c)++(bx b.1))++o),g,h,i,j,l,m,n))))))))
 (some (a,g,h,i,j,l,m,n)))
theorem f16.oO (N:Nat):∀ k,f16.cM N k=lp (XT N) 1042001035000 3 (tq 56) 3 f16.kP f16.kQ k
 |0=>rfl
 |k+1=>funext fun⟨a,b,c,d,e,f,g,h,i,j,l⟩=>by rw[f16.cM,f16.oO N k];kernel_rfl
def XU (N:Nat):au:=(XT N).af N 1042001035000 3 f16.kP f16.kQ
def f16.tW:bJ:=tm [(0,.c (.ptr 0 4 0 0 0)),(3,.c (.ptr 1 3 1 0 0)),(42,.c (.sl aV .d)),(43,.c (.int .i64)),(44,.c (.int .i64))] [[(4,.c (.ptr 0 4 0 0 0))]] [(0,4,.box 0 [.sl (.int .u8) (.app 2)]),(1,3,.box 1 (aL dN))] 2 [2] 3
def f16.tX:bG:=[(.ret,tm [(4,.c (.int .i64))] [[(4,.c (.ptr 0 4 0 0 0))]] [(0,4,.box 0 [.sl (.int .u8) (.app 1)])] 2 [1] 2),(.exit 0,tm [(0,.c (.ptr 0 4 0 0 0)),(3,.c (.ptr 1 3 1 0 0))] [[(4,.c (.ptr 0 4 0 0 0))]] [(0,4,.box 0 [.sl (.int .u8) (.app 2)]),(1,3,.box 1 (aL dN))] 2 [2] 3)]
def f16.ia (N:Nat):Nat→(List (Instr))×Int×Int×(List (Int))×lK→Option ((Int×List (Int))⊕((List (Int))×lK))
 |0,_=>none
 |k+1,(e,f,d,a,g,h,i,j,l,m,n)=>(cond (decide (d<f))
 ((idx e d).bind fun b=>
 ((F59 N (b.1,b.2.1,b.2.2.1,b.2.2.2)).bind fun c=>
 (cond (c.2 != 0)
 (some (Sum.inl (c.2,a)))
 (aM (room (a.length+c.1.length) 1)
 (f16.ia N k (e,f,(ah (d+1)),(a++c.1),g,h,i,j,l,m,n))))))
 (some (Sum.inr (a,g,h,i,j,l,m,n))))
theorem f16.Bf (N:Nat):∀ k,f16.ia N k=lp (XU N) 1042000 8 (tq 32) 8 f16.tW f16.tX k
 |0=>rfl
 |k+1=>funext fun⟨a,b,c,d,e,f,g,h,i,j,l⟩=>by rw[f16.ia,f16.Bf N k];kernel_rfl
def XV (N:Nat):au:=(XU N).af N 1042000 8 f16.tW f16.tX
def f16.rO:bJ:=tm [(0,.c (.ptr 0 4 0 0 0)),(3,.c (.ptr 1 3 1 0 0)),(70,.c (.sl (.sl gF) .full)),(71,.c (.int .i64)),(72,.c (.int .i64))] [[(4,.c (.ptr 0 4 0 0 0))]] [(0,4,.box 0 [.sl (.int .u8) (.app 2)]),(1,3,.box 1 (aL dN))] 2 [2] 3
def f16.rP:bG:=[(.ret,tm [(4,.c (.int .i64))] [[(4,.c (.ptr 0 4 0 0 0))]] [(0,4,.box 0 [.sl (.int .u8) (.app 1)])] 2 [1] 2),(.exit 2,tm [] [[(4,.c (.ptr 0 4 0 0 0))]] [(0,4,.box 0 [.sl (.int .u8) (.app 1)])] 2 [1] 2)]
def f16.ez (N:Nat):Nat→(List (List (cI)))×Int×Int×(List (Int))×lK→Option ((Int×List (Int))⊕(List (Int)))
 |0,_=>none
 |k+1,(d,e,c,a,g,h,i,j,f,l,m)=>(cond (decide (c<e))
 ((idx d c).bind fun n=>
 ((F60 N (n,(f.length:Int))).bind fun b=>
 (cond (b.2 != 0)
 (some (Sum.inl (b.2,a)))
 (aM (room (a.length+b.1.length) 1)
 (f16.ez N k (d,e,(ah (c+1)),(a++b.1),g,h,i,j,f,l,m))))))
 (some (Sum.inr a)))
theorem f16.yb (N:Nat):∀ k,f16.ez N k=lp (XV N) 1042000 21 (tq 32) 21 f16.rO f16.rP k
 |0=>rfl
 |k+1=>funext fun⟨a,b,c,d,e,f,g,h,i,j,l⟩=>by rw[f16.ez,f16.yb N k];kernel_rfl
def XX (N:Nat):au:=(XV N).af N 1042000 21 f16.rO f16.rP
def f16.Bg:bJ:=tm [(4,.c (.ptr 0 4 0 0 0)),(35,.c (.sl dN .bB)),(36,.c (.int .i64)),(37,.c (.int .i64))] [] [(0,4,.box 0 [.sl (.int .u8) (.app 1)])] 1 [1] 2
def f16.Bh:bG:=[(.ret,tm [(2,.c (.nil true)),(3,.c (.int .i64))] [] [] 1 [] 0),(.exit 2,tm [(4,.c (.ptr 0 4 0 0 0))] [] [(0,4,.box 0 [.sl (.int .u8) (.app 1)])] 1 [1] 2)]
def f16.iV (N:Nat):Nat→(List (Func))×Int×Int×List (Int)→Option ((Int)⊕(List (Int)))
 |0,_=>none
 |k+1,(g,h,f,d)=>(cond (decide (f<h))
 ((idx g f).bind fun a=>
 ((oM N (cg (a.1.length:Int))).bind fun e=>
 (aM (room (d.length+e.length) 1)
 (aM (room ((d++e).length+(bx a.1).length) 1)
 ((oM N (cg a.2.1)).bind fun i=>
 (aM (room (((d++e)++(bx a.1)).length+i.length) 1)
 ((DL N a.2.2.1).bind fun j=>
 (aM (room ((((d++e)++(bx a.1))++i).length+j.length) 1)
 ((oM N (cg (a.2.2.2.1.length:Int))).bind fun n=>
 (aM (room (((((d++e)++(bx a.1))++i)++j).length+n.length) 1)
 ((f16.cM N N (a.2.2.2.1,(a.2.2.2.1.length:Int),0,(((((d++e)++(bx a.1))++i)++j)++n),a.1,a.2.1,a.2.2.1,a.2.2.2.1,a.2.2.2.2.1,a.2.2.2.2.2.1,a.2.2.2.2.2.2)).bind fun b=>
 ((oM N (cg (b.2.2.2.2.2.1.length:Int))).bind fun o=>
 (aM (room (b.1.length+o.length) 1)
 ((f16.ia N N (b.2.2.2.2.2.1,(b.2.2.2.2.2.1.length:Int),0,(b.1++o),b.2.1,b.2.2.1,b.2.2.2.1,b.2.2.2.2.1,b.2.2.2.2.2.1,b.2.2.2.2.2.2.1,b.2.2.2.2.2.2.2)).bind fun p=>
 (match p with
 |.inl l=>(cond (l.1 != 0)
 (some (Sum.inl l.1))
 (f16.iV N k (g,h,(ah (f+1)),l.2)))
 |.inr c=>((f16.ez N N ([c.2.2.2.2.2.2.1,c.2.2.2.2.2.2.2],2,0,c.1,c.2.1,c.2.2.1,c.2.2.2.1,c.2.2.2.2.1,c.2.2.2.2.2.1,c.2.2.2.2.2.2.1,c.2.2.2.2.2.2.2)).bind fun q=>
 (match q with
 |.inl m=>(cond (m.1 != 0)
 (some (Sum.inl m.1))
 (f16.iV N k (g,h,(ah (f+1)),m.2)))
 |.inr r=>f16.iV N k (g,h,(ah (f+1)),r))))))))))))))))))
 (some (Sum.inr d)))
theorem f16.Ix (N:Nat):∀ k,f16.iV N k=lp (XX N) 0 19 (tq 16) 19 f16.Bg f16.Bh k
 |0=>rfl
 |k+1=>funext fun⟨a,b,c,d⟩=>by rw[f16.iV,f16.Ix N k,f16.oO N N,f16.Bf N N,f16.yb N N];kernel_rfl
def ad8 (N:Nat):au:=(XX N).af N 0 19 f16.Bg f16.Bh
def F16 (N:Nat):fR→Option ((List (Int))×Int)
 |(b,d,e)=>((TN N (b,d,e)).bind fun j=>
 (cond (!j)
 (some ([],8))
 ((oM N (cg (b.length:Int))).bind fun f=>
 (aM (room f.length 1)
 ((f16.eO N N (b,(b.length:Int),0,f,b,d,e)).bind fun a=>
 ((oM N (cg (a.2.1.length:Int))).bind fun g=>
 (aM (room (a.2.2.2.length+g.length) 1)
 ((f16.sR N N (a.2.1,(a.2.1.length:Int),0,a.1,a.2.1,a.2.2.1,(a.2.2.2++g))).bind fun c=>
 ((oM N (cg (c.2.2.1.length:Int))).bind fun h=>
 (aM (room (c.2.2.2.length+h.length) 1)
 ((f16.iV N N (c.2.2.1,(c.2.2.1.length:Int),0,(c.2.2.2++h))).bind fun l=>
 (match l with
 |.inl m=>some ([],m)
 |.inr i=>(cond (decide ((i.length:Int)>20000))
 (some ([],4))
 (some (i,0)))))))))))))))
def G16 (N:Nat):au:=(G60 N).put 16 s16 (F16 N)
theorem K16 (N:Nat):aF cx (G16 N):=(K60 N).put (E':=(ad8 N)) (((((((((K60 N).on s16).af N 1015001051000 3 f16.kN f16.kO).af N 1015000 3 f16.tU f16.tV).af N 0 9 f16.KO f16.KP).af N 1042001035000 3 f16.kP f16.kQ).af N 1042000 8 f16.tW f16.tX).af N 1042000 21 f16.rO f16.rP).af N 0 19 f16.Bg f16.Bh) 16 s16 (F16 N) (funext fun⟨a,b,c⟩=>by rw[F16,f16.Be N N,f16.RG N N,f16.Ix N N];kernel_rfl)
def s47:dz:=sg [.agg (kg bY)] [(false,[.int .i64])]
def RH (N:Nat):fR→Option (Int)
 |(a,b,c)=>((F16 N (a,b,c)).bind fun d=>
 some d.2)
def G47 (N:Nat):au:=(G16 N).put 47 s47 (RH N)
theorem K47 (N:Nat):aF cx (G47 N):=(K16 N).put (E':=((G16 N).on s47)) ((K16 N).on s47) 47 s47 (RH N) (funext fun⟨a,b,c⟩=>by rw[RH];kernel_rfl)
def s48:dz:=⟨[.c (.sl dN .bB),.c (.int .i64)],[(false,[.bool])],0,[(0,1,4,.bool)],[],[],[]⟩
def F48 (N:Nat):(List (Func))×Int→Option (Bool)
 |(b,a)=>((cond (decide (a≥0))
 (some (decide (a<(b.length:Int))))
 (some false)).bind fun c=>
 some c)
def G48 (N:Nat):au:=(G47 N).put 48 s48 (F48 N)
theorem K48 (N:Nat):aF cx (G48 N):=(K47 N).put (E':=((G47 N).on s48)) ((K47 N).on s48) 48 s48 (F48 N) (funext fun⟨a,b⟩=>by rw[F48];kernel_rfl)
def Vx:dz:=⟨[.c (.sl aV .bB)],[(false,[.int .i64])],0,[(0,15,51,.bool)],[],[],[]⟩
def RJ (N:Nat):au:=(G48 N).on Vx
def f115.kE:bJ:=tm [(3,.c (.int .i64)),(23,.c (.sl aV .bB)),(24,.c (.int .i64)),(25,.c (.int .i64))] [] [] 1 [] 0
def f115.kF:bG:=[(.ret,tm [(2,.c (.int .i64))] [] [] 1 [] 0),(.exit 0,tm [] [] [] 1 [] 0)]
def f115.ct (N:Nat):Nat→Int×(List (Instr))×Int×Int→Option ((Int)⊕(Unit))
 |0,_=>none
 |k+1,(b,d,e,c)=>(cond (decide (c<e))
 ((idx d c).bind fun a=>
 ((yO N (a.1,a.2.1,a.2.2.1,a.2.2.2)).bind fun f=>
 (cond (f != 0)
 (some (Sum.inl 8))
 ((cond (a.1==22)
 (cond (decide (a.2.1≥b))
 (some true)
 (cond (a.1==23)
 (some (decide (a.2.2.1≥b)))
 (some false)))
 (cond (a.1==23)
 (some (decide (a.2.2.1≥b)))
 (some false))).bind fun g=>
 (cond g
 (some (Sum.inl 8))
 (f115.ct N k (b,d,e,(ah (c+1)))))))))
 (some (Sum.inr ())))
theorem f115.oI (N:Nat):∀ k,f115.ct N k=lp (RJ N) 0 7 (tq 115) 7 f115.kE f115.kF k
 |0=>rfl
 |k+1=>funext fun⟨a,b,c,d⟩=>by rw[f115.ct,f115.oI N k];kernel_rfl
def aaq (N:Nat):au:=(RJ N).af N 0 7 f115.kE f115.kF
def Iy (N:Nat):List (Instr)→Option (Int)
 |a=>(cond ((a.length:Int)==0)
 (some 8)
 (cond (decide ((a.length:Int)>200))
 (some 8)
 ((idx a (ah ((a.length:Int)-1))).bind fun b=>
 (cond (!(b.1==34&&(b.2.1==(-1)&&(b.2.2.1==0&&(b.2.2.2==0&&true)))))
 (some 8)
 ((f115.ct N N ((a.length:Int),a,(a.length:Int),0)).bind fun c=>
 (match c with
 |.inl d=>some d
 |.inr e=>some 0))))))
def aar (N:Nat):au:=(G48 N).put 115 Vx (Iy N)
theorem ad9 (N:Nat):aF cx (aar N):=(K48 N).put (E':=(aaq N)) (((K48 N).on Vx).af N 0 7 f115.kE f115.kF) 115 Vx (Iy N) (funext fun a=>by rw[Iy,f115.oI N N];kernel_rfl)
def Vy:dz:=⟨[.c (.sl aV .bB),.c (.int .i64)],[(false,[.sl (.int .i64) .d])],0,[(0,7,13,.bool),(0,5,13,.bool)],[],[(0,21,(.int .i64)),(0,28,(.int .i64)),(0,35,(.int .i64))],[]⟩
def Iz (N:Nat):(List (Instr))×Int→Option (List (Int))
 |(c,b)=>((idx c b).bind fun a=>
 ((cond (a.1==34)
 (some true)
 ((cond (a.1==28)
 (some true)
 (some (a.1==30))).bind fun d=>
 some d)).bind fun e=>
 (cond e
 (some [])
 (cond (a.1==22)
 (some [a.2.1])
 (cond (a.1==23)
 (aM (decide ([(ah (b+1)),a.2.2.1].length<4611686018427387904))
 (aM (decide ((jm [(ah (b+1)),a.2.2.1]).length<4611686018427387904))
 (some (gH (jm [(ah (b+1)),a.2.2.1])))))
 (some [(ah (b+1))]))))))
def aas (N:Nat):au:=(aar N).put 161 Vy (Iz N)
theorem aea (N:Nat):aF cx (aas N):=(ad9 N).put (E':=((aar N).on Vy)) ((ad9 N).on Vy) 161 Vy (Iz N) (funext fun⟨a,b⟩=>by rw[Iz];kernel_rfl)
def s79:dz:=⟨[.c (.sl aV .bB)],[(false,[.sl .bool .d]),(false,[.int .i64])],0,[],[],[(0,13,.bool),(1016000,10,(.int .i64)),(1016000,39,(.int .i64))],[]⟩
def XY (N:Nat):au:=(aas N).on s79
def f79.rQ:bJ:=tm [(0,.c (.sl aV .bB)),(1,.fB 117 [.ptr 0 5 0 0 0]),(4,.c (.ref 1 10 1 (.int .i64))),(5,.c (.int .i64)),(27,.c (.sl (.int .i64) .d)),(28,.c (.int .i64)),(29,.c (.int .i64))] [[(5,.c (.ptr 0 5 0 0 0))]] [(0,5,.box 0 [.ref 0 13 2 .bool]),(0,13,.row 2 .bool),(1,10,.row 1 (.int .i64))] 2 [] 3
def f79.rR:bG:=[(.exit 2,tm [(0,.c (.sl aV .bB)),(1,.fB 117 [.ptr 0 5 0 0 0]),(4,.c (.ref 1 10 1 (.int .i64)))] [[(5,.c (.ptr 0 5 0 0 0))]] [(0,5,.box 0 [.ref 0 13 2 .bool]),(0,13,.row 2 .bool),(1,10,.row 1 (.int .i64))] 2 [] 3)]
def f79.fh (N:Nat):Nat→(List (Instr))×Int×(List (Int))×Int×Int×(List (Bool))×List (Int)→Option (((List (Instr))×(List (Bool))×List (Int)))
 |0,_=>none
 |k+1,(e,h,f,g,c,a,d)=>(cond (decide (c<g))
 ((idx f c).bind fun b=>
 (aM (jf b a.length)
 ((a[b.toNat]?).bind fun i=>
 (aM (jf b a.length)
 ((a[b.toNat]?).bind fun j=>
 (cond (!i)
 (aM (room (d.length+1) 8)
 (f79.fh N k (e,h,f,g,(ah (c+1)),(a.set b.toNat true),(d++[b]))))
 (f79.fh N k (e,h,f,g,(ah (c+1)),(a.set b.toNat true),d))))))))
 (some (e,a,d)))
theorem f79.yc (N:Nat):∀ k,f79.fh N k=lp (XY N) 1016000 11 (tq 116) 11 f79.rQ f79.rR k
 |0=>rfl
 |k+1=>funext fun⟨a,b,c,d,e,f,g⟩=>by rw[f79.fh,f79.yc N k];kernel_rfl
def XZ (N:Nat):au:=(XY N).af N 1016000 11 f79.rQ f79.rR
def f79.tY:bJ:=tm [(0,.c (.sl aV .bB)),(1,.fB 117 [.ptr 0 5 0 0 0]),(4,.c (.ref 1 10 1 (.int .i64)))] [[(5,.c (.ptr 0 5 0 0 0))]] [(0,5,.box 0 [.ref 0 13 2 .bool]),(0,13,.row 2 .bool),(1,10,.row 1 (.int .i64))] 2 [] 3
def f79.tZ:bG:=[(.exit 0,tm [] [[(5,.c (.ptr 0 5 0 0 0))]] [(0,5,.box 0 [.ref 0 13 1 .bool]),(0,13,.row 1 .bool)] 2 [] 2)]
def f79.ic (N:Nat):Nat→(List (Instr))×(List (Bool))×List (Int)→Option ((List (Bool)))
 |0,_=>none
 |k+1,(c,d,a)=>(cond (decide ((a.length:Int)>0))
 (aM (jf (ah ((a.length:Int)-1)) a.length)
 ((a[(Int.toNat (ah ((a.length:Int)-1)))]?).bind fun e=>
 (aM (decide (0≤(ah ((a.length:Int)-1))))
 (aM (decide ((Int.toNat (ah ((a.length:Int)-1)))≤a.length))
 ((Iz N (c,e)).bind fun f=>
 ((f79.fh N N (c,e,f,(f.length:Int),0,d,(a.take (Int.toNat (ah ((a.length:Int)-1)))))).bind fun b=>
 f79.ic N k (b.1,b.2.1,b.2.2)))))))
 (some d))
theorem f79.Bi (N:Nat):∀ k,f79.ic N k=lp (XZ N) 1016000 3 (tq 116) 3 f79.tY f79.tZ k
 |0=>rfl
 |k+1=>funext fun⟨a,b,c⟩=>by rw[f79.ic,f79.Bi N k,f79.yc N N];kernel_rfl
def aeb (N:Nat):au:=(XZ N).af N 1016000 3 f79.tY f79.tZ
def F79 (N:Nat):List (Instr)→Option ((List (Bool))×Int)
 |a=>((Iy N a).bind fun c=>
 (cond (c != 0)
 (some ([],c))
 (aM (decide (0≤(a.length:Int)))
 (aM (decide (0≤(a.length:Int)))
 (aM (decide ((Int.toNat (a.length:Int))≤(Int.toNat (a.length:Int)))&&room (Int.toNat (a.length:Int)) 1)
 (aM (jf 0 (List.replicate (Int.toNat (a.length:Int)) false).length)
 (((List.replicate (Int.toNat (a.length:Int)) false)[(Int.toNat 0)]?).bind fun d=>
 (aM (jf 0 (List.replicate (Int.toNat (a.length:Int)) false).length)
 (((List.replicate (Int.toNat (a.length:Int)) false)[(Int.toNat 0)]?).bind fun e=>
 ((f79.ic N N (a,((List.replicate (Int.toNat (a.length:Int)) false).set (Int.toNat 0) true),[0])).bind fun b=>
 (aM (jf (ah ((b.length:Int)-1)) b.length)
 ((b[(Int.toNat (ah ((b.length:Int)-1)))]?).bind fun f=>
 some ((b.set (Int.toNat (ah ((b.length:Int)-1))) true),0)))))))))))))
def G79 (N:Nat):au:=(aas N).put 79 s79 (F79 N)
theorem K79 (N:Nat):aF cx (G79 N):=(aea N).put (E':=(aeb N)) ((((aea N).on s79).af N 1016000 11 f79.rQ f79.rR).af N 1016000 3 f79.tY f79.tZ) 79 s79 (F79 N) (funext fun a=>by rw[F79,f79.Bi N N];kernel_rfl)
def s84:dz:=⟨[.agg (aL aV)],[(false,[.sl (.int .i64) .d]),(false,[.sl (.int .i64) .d]),(false,[.int .i64])],1,[(0,13,34,.bool),(0,16,46,.bool),(0,100013,34,.bool),(0,100016,46,.bool)],[(0,8),(0,100008)],[(0,2,(.int .i64)),(0,37,(.int .i64)),(0,49,(.int .i64))],[]⟩
def X0 (N:Nat):p4→Option ((List (Int))×(List (Int))×Int)
 |(c,d,e,f)=>((yO N (c,d,e,f)).bind fun g=>
 (cond (g != 0)
 (some (([]:List (Int)),[],g))
 ((RD N c).bind fun b=>
 ((Vu N (c,d,e,f)).bind fun a=>
 ((cond b.2.2.1
 (some (decide (a.1≥0)))
 (some false)).bind fun h=>
 (cond h
 (aM (room (0+1) 8)
 ((cond b.2.2.2.1
 (some (decide (a.1≥0)))
 (some false)).bind fun i=>
 (cond i
 (aM (room 1 8)
 ((cond b.2.2.2.2.2.2.1
 (some (decide (a.2.1≥0)))
 (some false)).bind fun j=>
 (cond j
 (aM (room (1+1) 8)
 ((cond b.2.2.2.2.2.2.2.1
 (some (decide (a.2.1≥0)))
 (some false)).bind fun l=>
 (cond l
 (aM (room (1+1) 8)
 ((cond b.2.2.2.2.2.2.2.2.2.2.1
 (some (decide (a.2.2≥0)))
 (some false)).bind fun m=>
 (cond m
 (aM (room (2+1) 8)
 ((cond b.2.2.2.2.2.2.2.2.2.2.2.1
 (some (decide (a.2.2≥0)))
 (some false)).bind fun n=>
 (cond n
 (aM (room (2+1) 8)
 (some ((((([]:List (Int))++[a.1])++[a.2.1])++[a.2.2]),(([a.1]++[a.2.1])++[a.2.2]),0)))
 (some ((((([]:List (Int))++[a.1])++[a.2.1])++[a.2.2]),([a.1]++[a.2.1]),0)))))
 ((cond b.2.2.2.2.2.2.2.2.2.2.2.1
 (some (decide (a.2.2≥0)))
 (some false)).bind fun o=>
 (cond o
 (aM (room (2+1) 8)
 (some (((([]:List (Int))++[a.1])++[a.2.1]),(([a.1]++[a.2.1])++[a.2.2]),0)))
 (some (((([]:List (Int))++[a.1])++[a.2.1]),([a.1]++[a.2.1]),0)))))))
 ((cond b.2.2.2.2.2.2.2.2.2.2.1
 (some (decide (a.2.2≥0)))
 (some false)).bind fun p=>
 (cond p
 (aM (room (2+1) 8)
 ((cond b.2.2.2.2.2.2.2.2.2.2.2.1
 (some (decide (a.2.2≥0)))
 (some false)).bind fun q=>
 (cond q
 (aM (room (1+1) 8)
 (some ((((([]:List (Int))++[a.1])++[a.2.1])++[a.2.2]),([a.1]++[a.2.2]),0)))
 (some ((((([]:List (Int))++[a.1])++[a.2.1])++[a.2.2]),[a.1],0)))))
 ((cond b.2.2.2.2.2.2.2.2.2.2.2.1
 (some (decide (a.2.2≥0)))
 (some false)).bind fun r=>
 (cond r
 (aM (room (1+1) 8)
 (some (((([]:List (Int))++[a.1])++[a.2.1]),([a.1]++[a.2.2]),0)))
 (some (((([]:List (Int))++[a.1])++[a.2.1]),[a.1],0)))))))))
 ((cond b.2.2.2.2.2.2.2.1
 (some (decide (a.2.1≥0)))
 (some false)).bind fun s=>
 (cond s
 (aM (room (1+1) 8)
 ((cond b.2.2.2.2.2.2.2.2.2.2.1
 (some (decide (a.2.2≥0)))
 (some false)).bind fun t=>
 (cond t
 (aM (room (1+1) 8)
 ((cond b.2.2.2.2.2.2.2.2.2.2.2.1
 (some (decide (a.2.2≥0)))
 (some false)).bind fun u=>
 (cond u
 (aM (room (2+1) 8)
 (some (((([]:List (Int))++[a.1])++[a.2.2]),(([a.1]++[a.2.1])++[a.2.2]),0)))
 (some (((([]:List (Int))++[a.1])++[a.2.2]),([a.1]++[a.2.1]),0)))))
 ((cond b.2.2.2.2.2.2.2.2.2.2.2.1
 (some (decide (a.2.2≥0)))
 (some false)).bind fun v=>
 (cond v
 (aM (room (2+1) 8)
 (some ((([]:List (Int))++[a.1]),(([a.1]++[a.2.1])++[a.2.2]),0)))
 (some ((([]:List (Int))++[a.1]),([a.1]++[a.2.1]),0)))))))
 ((cond b.2.2.2.2.2.2.2.2.2.2.1
 (some (decide (a.2.2≥0)))
 (some false)).bind fun w=>
 (cond w
 (aM (room (1+1) 8)
 ((cond b.2.2.2.2.2.2.2.2.2.2.2.1
 (some (decide (a.2.2≥0)))
 (some false)).bind fun x=>
 (cond x
 (aM (room (1+1) 8)
 (some (((([]:List (Int))++[a.1])++[a.2.2]),([a.1]++[a.2.2]),0)))
 (some (((([]:List (Int))++[a.1])++[a.2.2]),[a.1],0)))))
 ((cond b.2.2.2.2.2.2.2.2.2.2.2.1
 (some (decide (a.2.2≥0)))
 (some false)).bind fun y=>
 (cond y
 (aM (room (1+1) 8)
 (some ((([]:List (Int))++[a.1]),([a.1]++[a.2.2]),0)))
 (some ((([]:List (Int))++[a.1]),[a.1],0)))))))))))
 ((cond b.2.2.2.2.2.2.1
 (some (decide (a.2.1≥0)))
 (some false)).bind fun z=>
 (cond z
 (aM (room (1+1) 8)
 ((cond b.2.2.2.2.2.2.2.1
 (some (decide (a.2.1≥0)))
 (some false)).bind fun A=>
 (cond A
 (aM (room 1 8)
 ((cond b.2.2.2.2.2.2.2.2.2.2.1
 (some (decide (a.2.2≥0)))
 (some false)).bind fun B=>
 (cond B
 (aM (room (2+1) 8)
 ((cond b.2.2.2.2.2.2.2.2.2.2.2.1
 (some (decide (a.2.2≥0)))
 (some false)).bind fun C=>
 (cond C
 (aM (room (1+1) 8)
 (some ((((([]:List (Int))++[a.1])++[a.2.1])++[a.2.2]),([a.2.1]++[a.2.2]),0)))
 (some ((((([]:List (Int))++[a.1])++[a.2.1])++[a.2.2]),[a.2.1],0)))))
 ((cond b.2.2.2.2.2.2.2.2.2.2.2.1
 (some (decide (a.2.2≥0)))
 (some false)).bind fun D=>
 (cond D
 (aM (room (1+1) 8)
 (some (((([]:List (Int))++[a.1])++[a.2.1]),([a.2.1]++[a.2.2]),0)))
 (some (((([]:List (Int))++[a.1])++[a.2.1]),[a.2.1],0)))))))
 ((cond b.2.2.2.2.2.2.2.2.2.2.1
 (some (decide (a.2.2≥0)))
 (some false)).bind fun E=>
 (cond E
 (aM (room (2+1) 8)
 ((cond b.2.2.2.2.2.2.2.2.2.2.2.1
 (some (decide (a.2.2≥0)))
 (some false)).bind fun G=>
 (cond G
 (aM (room 1 8)
 (some ((((([]:List (Int))++[a.1])++[a.2.1])++[a.2.2]),[a.2.2],0)))
 (some ((((([]:List (Int))++[a.1])++[a.2.1])++[a.2.2]),[],0)))))
 ((cond b.2.2.2.2.2.2.2.2.2.2.2.1
 (some (decide (a.2.2≥0)))
 (some false)).bind fun H=>
 (cond H
 (aM (room 1 8)
 (some (((([]:List (Int))++[a.1])++[a.2.1]),[a.2.2],0)))
 (some (((([]:List (Int))++[a.1])++[a.2.1]),[],0)))))))))
 ((cond b.2.2.2.2.2.2.2.1
 (some (decide (a.2.1≥0)))
 (some false)).bind fun I=>
 (cond I
 (aM (room 1 8)
 ((cond b.2.2.2.2.2.2.2.2.2.2.1
 (some (decide (a.2.2≥0)))
 (some false)).bind fun J=>
 (cond J
 (aM (room (1+1) 8)
 ((cond b.2.2.2.2.2.2.2.2.2.2.2.1
 (some (decide (a.2.2≥0)))
 (some false)).bind fun K=>
 (cond K
 (aM (room (1+1) 8)
 (some (((([]:List (Int))++[a.1])++[a.2.2]),([a.2.1]++[a.2.2]),0)))
 (some (((([]:List (Int))++[a.1])++[a.2.2]),[a.2.1],0)))))
 ((cond b.2.2.2.2.2.2.2.2.2.2.2.1
 (some (decide (a.2.2≥0)))
 (some false)).bind fun L=>
 (cond L
 (aM (room (1+1) 8)
 (some ((([]:List (Int))++[a.1]),([a.2.1]++[a.2.2]),0)))
 (some ((([]:List (Int))++[a.1]),[a.2.1],0)))))))
 ((cond b.2.2.2.2.2.2.2.2.2.2.1
 (some (decide (a.2.2≥0)))
 (some false)).bind fun M=>
 (cond M
 (aM (room (1+1) 8)
 ((cond b.2.2.2.2.2.2.2.2.2.2.2.1
 (some (decide (a.2.2≥0)))
 (some false)).bind fun O=>
 (cond O
 (aM (room 1 8)
 (some (((([]:List (Int))++[a.1])++[a.2.2]),[a.2.2],0)))
 (some (((([]:List (Int))++[a.1])++[a.2.2]),[],0)))))
 ((cond b.2.2.2.2.2.2.2.2.2.2.2.1
 (some (decide (a.2.2≥0)))
 (some false)).bind fun P=>
 (cond P
 (aM (room 1 8)
 (some ((([]:List (Int))++[a.1]),[a.2.2],0)))
 (some ((([]:List (Int))++[a.1]),[],0)))))))))))))
 ((cond b.2.2.2.1
 (some (decide (a.1≥0)))
 (some false)).bind fun Q=>
 (cond Q
 (aM (room 1 8)
 ((cond b.2.2.2.2.2.2.1
 (some (decide (a.2.1≥0)))
 (some false)).bind fun R=>
 (cond R
 (aM (room (0+1) 8)
 ((cond b.2.2.2.2.2.2.2.1
 (some (decide (a.2.1≥0)))
 (some false)).bind fun S=>
 (cond S
 (aM (room (1+1) 8)
 ((cond b.2.2.2.2.2.2.2.2.2.2.1
 (some (decide (a.2.2≥0)))
 (some false)).bind fun T=>
 (cond T
 (aM (room (1+1) 8)
 ((cond b.2.2.2.2.2.2.2.2.2.2.2.1
 (some (decide (a.2.2≥0)))
 (some false)).bind fun U=>
 (cond U
 (aM (room (2+1) 8)
 (some (((([]:List (Int))++[a.2.1])++[a.2.2]),(([a.1]++[a.2.1])++[a.2.2]),0)))
 (some (((([]:List (Int))++[a.2.1])++[a.2.2]),([a.1]++[a.2.1]),0)))))
 ((cond b.2.2.2.2.2.2.2.2.2.2.2.1
 (some (decide (a.2.2≥0)))
 (some false)).bind fun V=>
 (cond V
 (aM (room (2+1) 8)
 (some ((([]:List (Int))++[a.2.1]),(([a.1]++[a.2.1])++[a.2.2]),0)))
 (some ((([]:List (Int))++[a.2.1]),([a.1]++[a.2.1]),0)))))))
 ((cond b.2.2.2.2.2.2.2.2.2.2.1
 (some (decide (a.2.2≥0)))
 (some false)).bind fun W=>
 (cond W
 (aM (room (1+1) 8)
 ((cond b.2.2.2.2.2.2.2.2.2.2.2.1
 (some (decide (a.2.2≥0)))
 (some false)).bind fun X=>
 (cond X
 (aM (room (1+1) 8)
 (some (((([]:List (Int))++[a.2.1])++[a.2.2]),([a.1]++[a.2.2]),0)))
 (some (((([]:List (Int))++[a.2.1])++[a.2.2]),[a.1],0)))))
 ((cond b.2.2.2.2.2.2.2.2.2.2.2.1
 (some (decide (a.2.2≥0)))
 (some false)).bind fun Y=>
 (cond Y
 (aM (room (1+1) 8)
 (some ((([]:List (Int))++[a.2.1]),([a.1]++[a.2.2]),0)))
 (some ((([]:List (Int))++[a.2.1]),[a.1],0)))))))))
 ((cond b.2.2.2.2.2.2.2.1
 (some (decide (a.2.1≥0)))
 (some false)).bind fun Z=>
 (cond Z
 (aM (room (1+1) 8)
 ((cond b.2.2.2.2.2.2.2.2.2.2.1
 (some (decide (a.2.2≥0)))
 (some false)).bind fun a0=>
 (cond a0
 (aM (room (0+1) 8)
 ((cond b.2.2.2.2.2.2.2.2.2.2.2.1
 (some (decide (a.2.2≥0)))
 (some false)).bind fun a1=>
 (cond a1
 (aM (room (2+1) 8)
 (some ((([]:List (Int))++[a.2.2]),(([a.1]++[a.2.1])++[a.2.2]),0)))
 (some ((([]:List (Int))++[a.2.2]),([a.1]++[a.2.1]),0)))))
 ((cond b.2.2.2.2.2.2.2.2.2.2.2.1
 (some (decide (a.2.2≥0)))
 (some false)).bind fun a2=>
 (cond a2
 (aM (room (2+1) 8)
 (some (([]:List (Int)),(([a.1]++[a.2.1])++[a.2.2]),0)))
 (some (([]:List (Int)),([a.1]++[a.2.1]),0)))))))
 ((cond b.2.2.2.2.2.2.2.2.2.2.1
 (some (decide (a.2.2≥0)))
 (some false)).bind fun a3=>
 (cond a3
 (aM (room (0+1) 8)
 ((cond b.2.2.2.2.2.2.2.2.2.2.2.1
 (some (decide (a.2.2≥0)))
 (some false)).bind fun a4=>
 (cond a4
 (aM (room (1+1) 8)
 (some ((([]:List (Int))++[a.2.2]),([a.1]++[a.2.2]),0)))
 (some ((([]:List (Int))++[a.2.2]),[a.1],0)))))
 ((cond b.2.2.2.2.2.2.2.2.2.2.2.1
 (some (decide (a.2.2≥0)))
 (some false)).bind fun a5=>
 (cond a5
 (aM (room (1+1) 8)
 (some (([]:List (Int)),([a.1]++[a.2.2]),0)))
 (some (([]:List (Int)),[a.1],0)))))))))))
 ((cond b.2.2.2.2.2.2.1
 (some (decide (a.2.1≥0)))
 (some false)).bind fun a6=>
 (cond a6
 (aM (room (0+1) 8)
 ((cond b.2.2.2.2.2.2.2.1
 (some (decide (a.2.1≥0)))
 (some false)).bind fun a7=>
 (cond a7
 (aM (room 1 8)
 ((cond b.2.2.2.2.2.2.2.2.2.2.1
 (some (decide (a.2.2≥0)))
 (some false)).bind fun a8=>
 (cond a8
 (aM (room (1+1) 8)
 ((cond b.2.2.2.2.2.2.2.2.2.2.2.1
 (some (decide (a.2.2≥0)))
 (some false)).bind fun a9=>
 (cond a9
 (aM (room (1+1) 8)
 (some (((([]:List (Int))++[a.2.1])++[a.2.2]),([a.2.1]++[a.2.2]),0)))
 (some (((([]:List (Int))++[a.2.1])++[a.2.2]),[a.2.1],0)))))
 ((cond b.2.2.2.2.2.2.2.2.2.2.2.1
 (some (decide (a.2.2≥0)))
 (some false)).bind fun b0=>
 (cond b0
 (aM (room (1+1) 8)
 (some ((([]:List (Int))++[a.2.1]),([a.2.1]++[a.2.2]),0)))
 (some ((([]:List (Int))++[a.2.1]),[a.2.1],0)))))))
 ((cond b.2.2.2.2.2.2.2.2.2.2.1
 (some (decide (a.2.2≥0)))
 (some false)).bind fun b1=>
 (cond b1
 (aM (room (1+1) 8)
 ((cond b.2.2.2.2.2.2.2.2.2.2.2.1
 (some (decide (a.2.2≥0)))
 (some false)).bind fun b2=>
 (cond b2
 (aM (room 1 8)
 (some (((([]:List (Int))++[a.2.1])++[a.2.2]),[a.2.2],0)))
 (some (((([]:List (Int))++[a.2.1])++[a.2.2]),[],0)))))
 ((cond b.2.2.2.2.2.2.2.2.2.2.2.1
 (some (decide (a.2.2≥0)))
 (some false)).bind fun b3=>
 (cond b3
 (aM (room 1 8)
 (some ((([]:List (Int))++[a.2.1]),[a.2.2],0)))
 (some ((([]:List (Int))++[a.2.1]),[],0)))))))))
 ((cond b.2.2.2.2.2.2.2.1
 (some (decide (a.2.1≥0)))
 (some false)).bind fun b4=>
 (cond b4
 (aM (room 1 8)
 ((cond b.2.2.2.2.2.2.2.2.2.2.1
 (some (decide (a.2.2≥0)))
 (some false)).bind fun b5=>
 (cond b5
 (aM (room (0+1) 8)
 ((cond b.2.2.2.2.2.2.2.2.2.2.2.1
 (some (decide (a.2.2≥0)))
 (some false)).bind fun b6=>
 (cond b6
 (aM (room (1+1) 8)
 (some ((([]:List (Int))++[a.2.2]),([a.2.1]++[a.2.2]),0)))
 (some ((([]:List (Int))++[a.2.2]),[a.2.1],0)))))
 ((cond b.2.2.2.2.2.2.2.2.2.2.2.1
 (some (decide (a.2.2≥0)))
 (some false)).bind fun b7=>
 (cond b7
 (aM (room (1+1) 8)
 (some (([]:List (Int)),([a.2.1]++[a.2.2]),0)))
 (some (([]:List (Int)),[a.2.1],0)))))))
 ((cond b.2.2.2.2.2.2.2.2.2.2.1
 (some (decide (a.2.2≥0)))
 (some false)).bind fun b8=>
 (cond b8
 (aM (room (0+1) 8)
 ((cond b.2.2.2.2.2.2.2.2.2.2.2.1
 (some (decide (a.2.2≥0)))
 (some false)).bind fun b9=>
 (cond b9
 (aM (room 1 8)
 (some ((([]:List (Int))++[a.2.2]),[a.2.2],0)))
 (some ((([]:List (Int))++[a.2.2]),[],0)))))
 ((cond b.2.2.2.2.2.2.2.2.2.2.2.1
 (some (decide (a.2.2≥0)))
 (some false)).bind fun c0=>
 (cond c0
 (aM (room 1 8)
 (some (([]:List (Int)),[a.2.2],0)))
 (some (([]:List (Int)),[],0))))))))))))))))))
def G84 (N:Nat):au:=(G79 N).put 84 s84 (X0 N)
theorem K84 (N:Nat):aF cx (G84 N):=(K79 N).put (E':=((G79 N).on s84)) ((K79 N).on s84) 84 s84 (X0 N) (funext fun⟨a,b,c,d⟩=>by rw[X0];kernel_rfl)
def Vz:dz:=⟨[.c (.sl cW .bB),.c (.int .i64)],[(false,[.bool])],0,[(0,1,4,.bool)],[],[],[]⟩
def KQ (N:Nat):(List (Field))×Int→Option (Bool)
 |(b,a)=>((cond (decide (a≥0))
 (some (decide (a<(b.length:Int))))
 (some false)).bind fun c=>
 some c)
def aau (N:Nat):au:=(G84 N).put 118 Vz (KQ N)
theorem aec (N:Nat):aF cx (aau N):=(K84 N).put (E':=((G84 N).on Vz)) ((K84 N).on Vz) 118 Vz (KQ N) (funext fun⟨a,b⟩=>by rw[KQ];kernel_rfl)
def VA:dz:=⟨[.agg (aL aV)],[(false,[.int .i64])],0,[(0,7,9,.bool)],[],[],[]⟩
def KS (N:Nat):p4→Option (Int)
 |(a,b,c,e)=>(cond (a==25)
 (some c)
 ((cond (a==26)
 (some true)
 (some (a==27))).bind fun d=>
 (cond d
 (some b)
 (some (-1)))))
def aav (N:Nat):au:=(aau N).put 119 VA (KS N)
theorem aed (N:Nat):aF cx (aav N):=(aec N).put (E':=((aau N).on VA)) ((aec N).on VA) 119 VA (KS N) (funext fun⟨a,b,c,d⟩=>by rw[KS];kernel_rfl)
def VB:dz:=⟨[.c (.sl .str .bB),.c (.int .i64)],[(false,[.bool])],0,[(0,1,4,.bool)],[],[],[]⟩
def VD (N:Nat):(List (List UInt8))×Int→Option (Bool)
 |(b,a)=>((cond (decide (a≥0))
 (some (decide (a<(b.length:Int))))
 (some false)).bind fun c=>
 some c)
def aaw (N:Nat):au:=(aav N).put 120 VB (VD N)
theorem aee (N:Nat):aF cx (aaw N):=(aed N).put (E':=((aav N).on VB)) ((aed N).on VB) 120 VB (VD N) (funext fun⟨a,b⟩=>by rw[VD];kernel_rfl)
def s80:dz:=⟨[.agg (kg bf),.agg (aL aV)],[(false,[.int .i64])],0,[(0,17,56,.bool)],[],[],[]⟩
def X4 (N:Nat):au:=(aaw N).on s80
def f80.kE:bJ:=tm [(2,.c (.ptr 0 2 0 0 0)),(3,.c (.ptr 0 3 1 0 0)),(22,.c (.ref 0 13 2 (.int .i64))),(23,.c (.int .i64)),(24,.c (.int .i64))] [] [(0,2,.box 0 (kg bf)),(0,3,.box 1 (aL aV)),(0,13,.row 2 (.int .i64))] 1 [] 3
def f80.kF:bG:=[(.ret,tm [(4,.c (.int .i64))] [] [] 1 [] 0),(.exit 0,tm [(2,.c (.ptr 0 2 0 0 0)),(3,.c (.ptr 0 3 1 0 0))] [] [(0,2,.box 0 (kg bf)),(0,3,.box 1 (aL aV))] 1 [] 2)]
def f80.ct (N:Nat):Nat→Int×Int×cJ (Fu (List (Int)))→Option ((Int)⊕(cJ p4))
 |0,_=>none
 |k+1,(d,a,e,f,g,h,i,j,b,l,m,n,o,p,q,r,c)=>(cond (decide (a<d))
 (aM (jf a c.length)
 ((c[a.toNat]?).bind fun s=>
 ((KQ N (b,s)).bind fun t=>
 (cond (!t)
 (some (Sum.inl 16))
 (f80.ct N k (d,(ah (a+1)),e,f,g,h,i,j,b,l,m,n,o,p,q,r,c))))))
 (some (Sum.inr (e,f,g,h,i,j,b,l,m,n,o,p,q,r))))
theorem f80.oI (N:Nat):∀ k,f80.ct N k=lp (X4 N) 0 7 (tq 80) 7 f80.kE f80.kF k
 |0=>rfl
 |k+1=>funext fun⟨a,b,c,d,e,f,g,h,i,j,l,m,n,o,p,q,r⟩=>by rw[f80.ct,f80.oI N k];kernel_rfl
def aef (N:Nat):au:=(X4 N).af N 0 7 f80.kE f80.kF
def TO (N:Nat):cJ p4→Option (Int)
 |(g,h,i,j,l,m,n,o,p,q,c,d,e,f)=>((X0 N (c,d,e,f)).bind fun a=>
 (cond (a.2.2 != 0)
 (some a.2.2)
 (aM (room (a.1.length+a.2.1.length) 8)
 ((f80.ct N N (((a.1++a.2.1).length:Int),0,g,h,i,j,l,m,n,o,p,q,c,d,e,f,(a.1++a.2.1))).bind fun r=>
 (match r with
 |.inl s=>some s
 |.inr b=>((KS N (b.2.2.2.2.2.2.2.2.2.2.1,b.2.2.2.2.2.2.2.2.2.2.2.1,b.2.2.2.2.2.2.2.2.2.2.2.2.1,b.2.2.2.2.2.2.2.2.2.2.2.2.2)).bind fun t=>
 ((cond (decide (t≥(b.2.2.1.length:Int)))
 (some true)
 (cond (b.2.2.2.2.2.2.2.2.2.2.1==2)
 ((VD N (b.2.1,b.2.2.2.2.2.2.2.2.2.2.2.2.1)).bind fun u=>
 some (!u))
 (some false))).bind fun v=>
 (cond v
 (some 16)
 (some 0)))))))))
def G80 (N:Nat):au:=(aaw N).put 80 s80 (TO N)
theorem K80 (N:Nat):aF cx (G80 N):=(aee N).put (E':=(aef N)) (((aee N).on s80).af N 0 7 f80.kE f80.kF) 80 s80 (TO N) (funext fun⟨a,b,c,d,e,f,g,h,i,j,l,m,n,o⟩=>by rw[TO,f80.oI N N];kernel_rfl)
def VE:dz:=sg [.agg (kg bf),.c (.int .i64)] [(false,[.int .i64])]
def Bj (N:Nat):cJ Int→Option (Int)
 |(e,f,g,h,i,j,a,l,m,n,b)=>((KQ N (a,b)).bind fun c=>
 (cond (!c)
 (some (-1))
 ((idx a b).bind fun d=>
 some d.2)))
def aax (N:Nat):au:=(G80 N).put 121 VE (Bj N)
theorem aeg (N:Nat):aF cx (aax N):=(K80 N).put (E':=((G80 N).on VE)) ((K80 N).on VE) 121 VE (Bj N) (funext fun⟨a,b,c,d,e,f,g,h,i,j,l⟩=>by rw[Bj];kernel_rfl)
def VF:dz:=sg [.c (.sl (.int .u8) .bB),.c (.int .u8)] [(false,[.int .i64])]
def RL (N:Nat):au:=(aax N).on VF
def f176.tS:bJ:=tm [(0,.c (.sl (.int .u8) .bB)),(1,.c (.int .u8)),(7,.c (.int .i64)),(8,.c (.int .i64))] [] [] 1 [] 0
def f176.tT:bG:=[(.ret,tm [(4,.c (.int .i64))] [] [] 1 [] 0),(.exit 0,tm [] [] [] 1 [] 0)]
def f176.lM (N:Nat):Nat→(List (Int))×Int×Int×Int→Option ((Int)⊕(Unit))
 |0,_=>none
 |k+1,(b,c,d,a)=>(cond (decide (a<d))
 ((idx b a).bind fun e=>
 (cond (c==e)
 (some (Sum.inl a))
 (f176.lM N k (b,c,d,(ah (a+1))))))
 (some (Sum.inr ())))
theorem f176.A7 (N:Nat):∀ k,f176.lM N k=lp (RL N) 0 3 (tq 176) 3 f176.tS f176.tT k
 |0=>rfl
 |k+1=>funext fun⟨a,b,c,d⟩=>by rw[f176.lM,f176.A7 N k];kernel_rfl
def aay (N:Nat):au:=(RL N).af N 0 3 f176.tS f176.tT
def VG (N:Nat):(List (Int))×Int→Option (Int)
 |(a,b)=>((f176.lM N N (a,b,(a.length:Int),0)).bind fun c=>
 (match c with
 |.inl d=>some d
 |.inr e=>some (-1)))
def aaz (N:Nat):au:=(aax N).put 176 VF (VG N)
theorem aeh (N:Nat):aF cx (aaz N):=(aeg N).put (E':=(aay N)) (((aeg N).on VF).af N 0 3 f176.tS f176.tT) 176 VF (VG N) (funext fun⟨a,b⟩=>by rw[VG,f176.A7 N N];kernel_rfl)
def VH:dz:=sg [.c (.sl (.int .u8) .bB),.c (.int .u8)] [(false,[.bool])]
def VI (N:Nat):(List (Int))×Int→Option (Bool)
 |(a,b)=>((VG N (a,b)).bind fun c=>
 some (decide (c≥0)))
def aaA (N:Nat):au:=(aaz N).put 163 VH (VI N)
theorem aei (N:Nat):aF cx (aaA N):=(aeh N).put (E':=((aaz N).on VH)) ((aeh N).on VH) 163 VH (VI N) (funext fun⟨a,b⟩=>by rw[VI];kernel_rfl)
def VJ:dz:=⟨[.agg (kg bf),.c (.int .i64),.c (.sl (.int .u8) .bB)],[(false,[.bool])],0,[(0,1,6,.bool)],[],[],[]⟩
def kR (N:Nat):cJ (Int×List (Int))→Option (Bool)
 |(b,g,h,i,j,l,m,n,o,p,a,c)=>((cond (decide (a≥0))
 ((idx b a).bind fun d=>
 ((VI N (c,d.1)).bind fun e=>
 some e))
 (some false)).bind fun f=>
 some f)
def aaB (N:Nat):au:=(aaA N).put 125 VJ (kR N)
theorem aej (N:Nat):aF cx (aaB N):=(aei N).put (E':=((aaA N).on VJ)) ((aei N).on VJ) 125 VJ (kR N) (funext fun⟨a,b,c,d,e,f,g,h,i,j,l,m⟩=>by rw[kR];kernel_rfl)
def VK:dz:=sg [.agg (kg bf),.c (.int .i64),.c (.int .i64),.c (.int .i64)] [(false,[.bool])]
def RM (N:Nat):cJ (Int×Int×Int)→Option (Bool)
 |(a,d,e,f,g,h,i,j,l,m,b,c,n)=>((kR N (a,d,e,f,g,h,i,j,l,m,b,[5])).bind fun o=>
 (cond o
 ((idx a b).bind fun p=>
 ((KQ N (p.2.2.2,c)).bind fun q=>
 (cond q
 ((idx a b).bind fun r=>
 ((idx r.2.2.2 c).bind fun s=>
 some (s.2==n)))
 (some false))))
 (some false)))
def aaC (N:Nat):au:=(aaB N).put 127 VK (RM N)
theorem aek (N:Nat):aF cx (aaC N):=(aej N).put (E':=((aaB N).on VK)) ((aej N).on VK) 127 VK (RM N) (funext fun⟨a,b,c,d,e,f,g,h,i,j,l,m,n⟩=>by rw[RM];kernel_rfl)
def VL:dz:=⟨[.agg (kg bf),.c (.int .i64),.c (.int .i64),.c (.sl (.int .u8) .bB)],[(false,[.bool])],0,[(0,1,8,.bool)],[],[],[]⟩
def KT (N:Nat):cJ (Int×Int×List (Int))→Option (Bool)
 |(a,c,d,e,f,g,h,i,j,l,b,m,n)=>(((kR N (a,c,d,e,f,g,h,i,j,l,b,n)).bind fun o=>
 (cond o
 ((idx a b).bind fun p=>
 some (p.2.1==m))
 (some false))).bind fun q=>
 some q)
def aaD (N:Nat):au:=(aaC N).put 128 VL (KT N)
theorem ael (N:Nat):aF cx (aaD N):=(aek N).put (E':=((aaC N).on VL)) ((aek N).on VL) 128 VL (KT N) (funext fun⟨a,b,c,d,e,f,g,h,i,j,l,m,n⟩=>by rw[KT];kernel_rfl)
def VN:dz:=sg [.agg (kg bf),.agg (kg dN)] [(false,[.bool])]
def Ot (N:Nat):cJ lK→Option (Bool)
 |(b,c,d,e,f,g,h,i,j,l,q,a,m,n,r,s,t)=>(cond (decide (m<0))
 (cond (a==0)
 (some true)
 (cond (a==1)
 ((idx n 0).bind fun o=>
 ((kR N (b,c,d,e,f,g,h,i,j,l,o.2,[1,2,4])).bind fun p=>
 some p))
 (some false)))
 (some false))
def aaE (N:Nat):au:=(aaD N).put 129 VN (Ot N)
theorem aem (N:Nat):aF cx (aaE N):=(ael N).put (E':=((aaD N).on VN)) ((ael N).on VN) 129 VN (Ot N) (funext fun⟨a,b,c,d,e,f,g,h,i,j,l,m,n,o,p,q,r⟩=>by rw[Ot];kernel_rfl)
def s81:dz:=⟨[.agg (kg bf),.agg (aL aV)],[(false,[.bool])],0,[(0,7,26,.bool),(0,15,39,.bool),(0,27,50,.bool),(0,25,50,.bool),(0,23,50,.bool),(0,69,4,.bool),(0,71,202,.bool),(0,79,220,.bool),(0,85,4,.bool)],[],[(0,31,(.int .i64)),(0,59,(.int .i64)),(0,70,(.int .i64)),(0,144,(.int .i64)),(0,157,(.int .i64)),(0,170,(.int .i64)),(0,177,(.int .i64)),(0,229,(.int .i64))],[]⟩
def X5 (N:Nat):au:=(aaE N).on s81
def f81.fT:bJ:=tm [(0,.c (.sl (.int .i64) .full)),(1,.fB 124 [.ptr 0 2 0 0 0]),(7,.c (.int .i64)),(8,.c (.int .i64))] [[],[],[]] [(0,2,.box 0 (kg bf))] 4 [] 1
def f81.fU:bG:=[(.ret,tm [(4,.c (.int .i64))] [[],[],[]] [] 4 [] 0),(.exit 0,tm [] [[],[],[]] [] 4 [] 0)]
def f81.dZ (N:Nat):Nat→(List (Int))×Int×Int×dF→Option ((Int)⊕(Unit))
 |0,_=>none
 |k+1,(b,c,a,d,e,f,g,h,i,j,l,m,n)=>(cond (decide (a<c))
 ((idx b a).bind fun o=>
 ((kR N (d,e,f,g,h,i,j,l,m,n,o,[2])).bind fun p=>
 (cond (!p)
 (some (Sum.inl a))
 (f81.dZ N k (b,c,(ah (a+1)),d,e,f,g,h,i,j,l,m,n)))))
 (some (Sum.inr ())))
theorem f81.jO (N:Nat):∀ k,f81.dZ N k=lp (X5 N) 1032001006001007000 3 (tq 162) 3 f81.fT f81.fU k
 |0=>rfl
 |k+1=>funext fun⟨a,b,c,d,e,f,g,h,i,j,l,m,n⟩=>by rw[f81.dZ,f81.jO N k];kernel_rfl
def X6 (N:Nat):au:=(X5 N).af N 1032001006001007000 3 f81.fT f81.fU
def f81.fV:bJ:=tm [(0,.c (.sl (.int .i64) .full)),(1,.fB 124 [.ptr 0 2 0 0 0]),(7,.c (.int .i64)),(8,.c (.int .i64))] [[],[],[]] [(0,2,.box 0 (kg bf))] 4 [] 1
def f81.fW:bG:=[(.ret,tm [(4,.c (.int .i64))] [[],[],[]] [] 4 [] 0),(.exit 0,tm [] [[],[],[]] [] 4 [] 0)]
def f81.ec (N:Nat):Nat→(List (Int))×Int×Int×dF→Option ((Int)⊕(Unit))
 |0,_=>none
 |k+1,(b,c,a,d,e,f,g,h,i,j,l,m,n)=>(cond (decide (a<c))
 ((idx b a).bind fun o=>
 ((kR N (d,e,f,g,h,i,j,l,m,n,o,[2])).bind fun p=>
 (cond (!p)
 (some (Sum.inl a))
 (f81.ec N k (b,c,(ah (a+1)),d,e,f,g,h,i,j,l,m,n)))))
 (some (Sum.inr ())))
theorem f81.jP (N:Nat):∀ k,f81.ec N k=lp (X6 N) 1060001006001007000 3 (tq 162) 3 f81.fV f81.fW k
 |0=>rfl
 |k+1=>funext fun⟨a,b,c,d,e,f,g,h,i,j,l,m,n⟩=>by rw[f81.ec,f81.jP N k];kernel_rfl
def X7 (N:Nat):au:=(X6 N).af N 1060001006001007000 3 f81.fV f81.fW
def f81.fX:bJ:=tm [(0,.c (.sl (.int .i64) .full)),(1,.fB 124 [.ptr 0 2 0 0 0]),(7,.c (.int .i64)),(8,.c (.int .i64))] [[],[],[]] [(0,2,.box 0 (kg bf))] 4 [] 1
def f81.fY:bG:=[(.ret,tm [(4,.c (.int .i64))] [[],[],[]] [] 4 [] 0),(.exit 0,tm [] [[],[],[]] [] 4 [] 0)]
def f81.ef (N:Nat):Nat→(List (Int))×Int×Int×dF→Option ((Int)⊕(Unit))
 |0,_=>none
 |k+1,(b,c,a,d,e,f,g,h,i,j,l,m,n)=>(cond (decide (a<c))
 ((idx b a).bind fun o=>
 ((kR N (d,e,f,g,h,i,j,l,m,n,o,[2])).bind fun p=>
 (cond (!p)
 (some (Sum.inl a))
 (f81.ef N k (b,c,(ah (a+1)),d,e,f,g,h,i,j,l,m,n)))))
 (some (Sum.inr ())))
theorem f81.jQ (N:Nat):∀ k,f81.ef N k=lp (X7 N) 1071001006001007000 3 (tq 162) 3 f81.fX f81.fY k
 |0=>rfl
 |k+1=>funext fun⟨a,b,c,d,e,f,g,h,i,j,l,m,n⟩=>by rw[f81.ef,f81.jQ N k];kernel_rfl
def X8 (N:Nat):au:=(X7 N).af N 1071001006001007000 3 f81.fX f81.fY
def f81.fZ:bJ:=tm [(0,.c (.sl (.int .i64) .full)),(1,.fB 124 [.ptr 0 2 0 0 0]),(7,.c (.int .i64)),(8,.c (.int .i64))] [[],[],[]] [(0,2,.box 0 (kg bf))] 4 [] 1
def f81.ga:bG:=[(.ret,tm [(4,.c (.int .i64))] [[],[],[]] [] 4 [] 0),(.exit 0,tm [] [[],[],[]] [] 4 [] 0)]
def f81.eg (N:Nat):Nat→(List (Int))×Int×Int×dF→Option ((Int)⊕(Unit))
 |0,_=>none
 |k+1,(b,c,a,d,e,f,g,h,i,j,l,m,n)=>(cond (decide (a<c))
 ((idx b a).bind fun o=>
 ((kR N (d,e,f,g,h,i,j,l,m,n,o,[2])).bind fun p=>
 (cond (!p)
 (some (Sum.inl a))
 (f81.eg N k (b,c,(ah (a+1)),d,e,f,g,h,i,j,l,m,n)))))
 (some (Sum.inr ())))
theorem f81.jR (N:Nat):∀ k,f81.eg N k=lp (X8 N) 1145001006001007000 3 (tq 162) 3 f81.fZ f81.ga k
 |0=>rfl
 |k+1=>funext fun⟨a,b,c,d,e,f,g,h,i,j,l,m,n⟩=>by rw[f81.eg,f81.jR N k];kernel_rfl
def X9 (N:Nat):au:=(X8 N).af N 1145001006001007000 3 f81.fZ f81.ga
def f81.gf:bJ:=tm [(0,.c (.sl (.int .i64) .full)),(1,.fB 124 [.ptr 0 2 0 0 0]),(7,.c (.int .i64)),(8,.c (.int .i64))] [[],[],[]] [(0,2,.box 0 (kg bf))] 4 [] 1
def f81.gh:bG:=[(.ret,tm [(4,.c (.int .i64))] [[],[],[]] [] 4 [] 0),(.exit 0,tm [] [[],[],[]] [] 4 [] 0)]
def f81.ei (N:Nat):Nat→(List (Int))×Int×Int×dF→Option ((Int)⊕(Unit))
 |0,_=>none
 |k+1,(b,c,a,d,e,f,g,h,i,j,l,m,n)=>(cond (decide (a<c))
 ((idx b a).bind fun o=>
 ((kR N (d,e,f,g,h,i,j,l,m,n,o,[2])).bind fun p=>
 (cond (!p)
 (some (Sum.inl a))
 (f81.ei N k (b,c,(ah (a+1)),d,e,f,g,h,i,j,l,m,n)))))
 (some (Sum.inr ())))
theorem f81.jS (N:Nat):∀ k,f81.ei N k=lp (X9 N) 1158001006001007000 3 (tq 162) 3 f81.gf f81.gh k
 |0=>rfl
 |k+1=>funext fun⟨a,b,c,d,e,f,g,h,i,j,l,m,n⟩=>by rw[f81.ei,f81.jS N k];kernel_rfl
def Ya (N:Nat):au:=(X9 N).af N 1158001006001007000 3 f81.gf f81.gh
def f81.gi:bJ:=tm [(0,.c (.sl (.int .i64) .full)),(1,.fB 124 [.ptr 0 2 0 0 0]),(7,.c (.int .i64)),(8,.c (.int .i64))] [[],[],[]] [(0,2,.box 0 (kg bf))] 4 [] 1
def f81.gj:bG:=[(.ret,tm [(4,.c (.int .i64))] [[],[],[]] [] 4 [] 0),(.exit 0,tm [] [[],[],[]] [] 4 [] 0)]
def f81.eo (N:Nat):Nat→(List (Int))×Int×Int×dF→Option ((Int)⊕(Unit))
 |0,_=>none
 |k+1,(b,c,a,d,e,f,g,h,i,j,l,m,n)=>(cond (decide (a<c))
 ((idx b a).bind fun o=>
 ((kR N (d,e,f,g,h,i,j,l,m,n,o,[2])).bind fun p=>
 (cond (!p)
 (some (Sum.inl a))
 (f81.eo N k (b,c,(ah (a+1)),d,e,f,g,h,i,j,l,m,n)))))
 (some (Sum.inr ())))
theorem f81.jT (N:Nat):∀ k,f81.eo N k=lp (Ya N) 1171001006001007000 3 (tq 162) 3 f81.gi f81.gj k
 |0=>rfl
 |k+1=>funext fun⟨a,b,c,d,e,f,g,h,i,j,l,m,n⟩=>by rw[f81.eo,f81.jT N k];kernel_rfl
def Yb (N:Nat):au:=(Ya N).af N 1171001006001007000 3 f81.gi f81.gj
def f81.gm:bJ:=tm [(0,.c (.sl (.int .i64) .full)),(1,.fB 124 [.ptr 0 2 0 0 0]),(7,.c (.int .i64)),(8,.c (.int .i64))] [[],[],[(2,.c (.ptr 0 2 0 0 0))]] [(0,2,.box 0 (kg bf))] 4 [] 1
def f81.gp:bG:=[(.ret,tm [(4,.c (.int .i64))] [[],[],[(2,.c (.ptr 0 2 0 0 0))]] [(0,2,.box 0 (kg bf))] 4 [] 1),(.exit 0,tm [] [[],[],[(2,.c (.ptr 0 2 0 0 0))]] [(0,2,.box 0 (kg bf))] 4 [] 1)]
def f81.ep (N:Nat):Nat→(List (Int))×Int×Int×dF→Option ((Int×dF)⊕(dF))
 |0,_=>none
 |k+1,(m,n,a,b,c,d,e,f,g,h,i,j,l)=>(cond (decide (a<n))
 ((idx m a).bind fun o=>
 ((kR N (b,c,d,e,f,g,h,i,j,l,o,[2])).bind fun p=>
 (cond (!p)
 (some (Sum.inl (a,b,c,d,e,f,g,h,i,j,l)))
 (f81.ep N k (m,n,(ah (a+1)),b,c,d,e,f,g,h,i,j,l)))))
 (some (Sum.inr (b,c,d,e,f,g,h,i,j,l))))
theorem f81.jU (N:Nat):∀ k,f81.ep N k=lp (Yb N) 1178001006001007000 3 (tq 162) 3 f81.gm f81.gp k
 |0=>rfl
 |k+1=>funext fun⟨a,b,c,d,e,f,g,h,i,j,l,m,n⟩=>by rw[f81.ep,f81.jU N k];kernel_rfl
def Yc (N:Nat):au:=(Yb N).af N 1178001006001007000 3 f81.gm f81.gp
def f81.gq:bJ:=tm [(0,.c (.sl (.int .i64) .full)),(1,.fB 124 [.ptr 0 2 0 0 0]),(7,.c (.int .i64)),(8,.c (.int .i64))] [[],[],[]] [(0,2,.box 0 (kg bf))] 4 [] 1
def f81.gr:bG:=[(.ret,tm [(4,.c (.int .i64))] [[],[],[]] [] 4 [] 0),(.exit 0,tm [] [[],[],[]] [] 4 [] 0)]
def f81.eu (N:Nat):Nat→(List (Int))×Int×Int×dF→Option ((Int)⊕(Unit))
 |0,_=>none
 |k+1,(b,c,a,d,e,f,g,h,i,j,l,m,n)=>(cond (decide (a<c))
 ((idx b a).bind fun o=>
 ((kR N (d,e,f,g,h,i,j,l,m,n,o,[2])).bind fun p=>
 (cond (!p)
 (some (Sum.inl a))
 (f81.eu N k (b,c,(ah (a+1)),d,e,f,g,h,i,j,l,m,n)))))
 (some (Sum.inr ())))
theorem f81.jV (N:Nat):∀ k,f81.eu N k=lp (Yc N) 1230001006001007000 3 (tq 162) 3 f81.gq f81.gr k
 |0=>rfl
 |k+1=>funext fun⟨a,b,c,d,e,f,g,h,i,j,l,m,n⟩=>by rw[f81.eu,f81.jV N k];kernel_rfl
def aen (N:Nat):au:=(Yc N).af N 1230001006001007000 3 f81.gq f81.gr
def KU (N:Nat):cJ p4→Option (Bool)
 |(c,d,a,e,f,b,g,h,i,j,l,s,t,u)=>((Bj N (c,d,a,e,f,b,g,h,i,j,s)).bind fun m=>
 ((Bj N (c,d,a,e,f,b,g,h,i,j,t)).bind fun n=>
 ((Bj N (c,d,a,e,f,b,g,h,i,j,u)).bind fun r=>
 ((cond (l==1)
 (some true)
 (some (l==32))).bind fun v=>
 (cond v
 ((f81.dZ N N ([m],1,0,c,d,a,e,f,b,g,h,i,j)).bind fun w=>
 (match w with
 |.inl x=>some (!(decide (x≥0)))
 |.inr b6=>some (!(decide ((-1:Int)≥0)))))
 (cond (l==2)
 ((kR N (c,d,a,e,f,b,g,h,i,j,m,[3])).bind fun y=>
 some y)
 ((cond (l==3)
 (some true)
 (some (l==23))).bind fun z=>
 (cond z
 ((kR N (c,d,a,e,f,b,g,h,i,j,m,[1])).bind fun A=>
 some A)
 (cond (l==5)
 (some (m==n))
 ((cond (l==6)
 (some true)
 ((cond (l==7)
 (some true)
 ((cond (l==8)
 (some true)
 (some (l==9))).bind fun B=>
 some B)).bind fun C=>
 some C)).bind fun D=>
 (cond D
 ((f81.ec N N ([m,n,r],3,0,c,d,a,e,f,b,g,h,i,j)).bind fun E=>
 (match E with
 |.inl G=>some (!(decide (G≥0)))
 |.inr b7=>some (!(decide ((-1:Int)≥0)))))
 (cond (l==10)
 ((kR N (c,d,a,e,f,b,g,h,i,j,m,[1])).bind fun H=>
 (cond H
 ((f81.ef N N ([n,r],2,0,c,d,a,e,f,b,g,h,i,j)).bind fun I=>
 (match I with
 |.inl J=>some (!(decide (J≥0)))
 |.inr b8=>some (!(decide ((-1:Int)≥0)))))
 (some false)))
 (cond (l==11)
 ((kR N (c,d,a,e,f,b,g,h,i,j,m,[1])).bind fun K=>
 (cond K
 (cond (n==r)
 ((kR N (c,d,a,e,f,b,g,h,i,j,n,[2,1,4])).bind fun L=>
 some L)
 (some false))
 (some false)))
 (cond (l==12)
 ((kR N (c,d,a,e,f,b,g,h,i,j,m,[1])).bind fun M=>
 (cond M
 ((kR N (c,d,a,e,f,b,g,h,i,j,n,[1])).bind fun O=>
 some O)
 (some false)))
 (cond (l==13)
 ((RM N (c,d,a,e,f,b,g,h,i,j,n,u,m)).bind fun P=>
 some P)
 (cond (l==14)
 ((RM N (c,d,a,e,f,b,g,h,i,j,m,t,r)).bind fun Q=>
 some Q)
 (cond (l==15)
 ((kR N (c,d,a,e,f,b,g,h,i,j,m,[4])).bind fun R=>
 some R)
 (cond (l==16)
 ((KT N (c,d,a,e,f,b,g,h,i,j,n,m,[4])).bind fun S=>
 some S)
 (cond (l==17)
 ((KT N (c,d,a,e,f,b,g,h,i,j,m,n,[4])).bind fun T=>
 some T)
 (cond (l==18)
 ((kR N (c,d,a,e,f,b,g,h,i,j,m,[7])).bind fun U=>
 (cond U
 ((f81.eg N N ([n],1,0,c,d,a,e,f,b,g,h,i,j)).bind fun V=>
 (match V with
 |.inl W=>some (!(decide (W≥0)))
 |.inr b9=>some (!(decide ((-1:Int)≥0)))))
 (some false)))
 (cond (l==19)
 ((KT N (c,d,a,e,f,b,g,h,i,j,n,m,[7,6])).bind fun X=>
 (cond X
 ((f81.ei N N ([r],1,0,c,d,a,e,f,b,g,h,i,j)).bind fun Y=>
 (match Y with
 |.inl Z=>some (!(decide (Z≥0)))
 |.inr c0=>some (!(decide ((-1:Int)≥0)))))
 (some false)))
 (cond (l==20)
 ((KT N (c,d,a,e,f,b,g,h,i,j,m,r,[7,6])).bind fun a0=>
 (cond a0
 ((f81.eo N N ([n],1,0,c,d,a,e,f,b,g,h,i,j)).bind fun a1=>
 (match a1 with
 |.inl a2=>some (!(decide (a2≥0)))
 |.inr c1=>some (!(decide ((-1:Int)≥0)))))
 (some false)))
 (cond (l==21)
 ((f81.ep N N ([m],1,0,c,d,a,e,f,b,g,h,i,j)).bind fun a3=>
 (match a3 with
 |.inl o=>(cond (!(decide (o.1≥0)))
 ((kR N (o.2.1,o.2.2.1,o.2.2.2.1,o.2.2.2.2.1,o.2.2.2.2.2.1,o.2.2.2.2.2.2.1,o.2.2.2.2.2.2.2.1,o.2.2.2.2.2.2.2.2.1,o.2.2.2.2.2.2.2.2.2.1,o.2.2.2.2.2.2.2.2.2.2,n,[3,7,6])).bind fun a4=>
 some a4)
 (some false))
 |.inr p=>((kR N (p.1,p.2.1,p.2.2.1,p.2.2.2.1,p.2.2.2.2.1,p.2.2.2.2.2.1,p.2.2.2.2.2.2.1,p.2.2.2.2.2.2.2.1,p.2.2.2.2.2.2.2.2.1,p.2.2.2.2.2.2.2.2.2,n,[3,7,6])).bind fun a5=>
 some a5)))
 (cond (l==25)
 ((cond (decide (s<0))
 (some true)
 ((idx a t).bind fun a6=>
 some (a6.2.2.1==m))).bind fun a7=>
 some a7)
 ((cond (l==26)
 (some true)
 (some (l==27))).bind fun a8=>
 (cond a8
 ((idx a s).bind fun q=>
 ((Ot N (c,d,a,e,f,b,g,h,i,j,q.1,q.2.1,q.2.2.1,q.2.2.2.1,q.2.2.2.2.1,q.2.2.2.2.2.1,q.2.2.2.2.2.2)).bind fun a9=>
 some a9))
 (cond (l==28)
 ((kR N (c,d,a,e,f,b,g,h,i,j,m,[2,1,3])).bind fun b0=>
 some b0)
 ((cond (l==29)
 (some true)
 (some (l==33))).bind fun b1=>
 (cond b1
 ((kR N (c,d,a,e,f,b,g,h,i,j,m,[1])).bind fun b2=>
 (cond b2
 ((f81.eu N N ([n],1,0,c,d,a,e,f,b,g,h,i,j)).bind fun b3=>
 (match b3 with
 |.inl b4=>some (!(decide (b4≥0)))
 |.inr c2=>some (!(decide ((-1:Int)≥0)))))
 (some false)))
 (cond (l==34)
 ((cond (decide (s<0))
 (some true)
 (some (b==m))).bind fun b5=>
 some b5)
 (some true)))))))))))))))))))))))))))))))
def G81 (N:Nat):au:=(aaE N).put 81 s81 (KU N)
theorem K81 (N:Nat):aF cx (G81 N):=(aem N).put (E':=(aen N)) ((((((((((aem N).on s81).af N 1032001006001007000 3 f81.fT f81.fU).af N 1060001006001007000 3 f81.fV f81.fW).af N 1071001006001007000 3 f81.fX f81.fY).af N 1145001006001007000 3 f81.fZ f81.ga).af N 1158001006001007000 3 f81.gf f81.gh).af N 1171001006001007000 3 f81.gi f81.gj).af N 1178001006001007000 3 f81.gm f81.gp).af N 1230001006001007000 3 f81.gq f81.gr) 81 s81 (KU N) (funext fun⟨a,b,c,d,e,f,g,h,i,j,l,m,n,o⟩=>by rw[KU,f81.jO N N,f81.jP N N,f81.jQ N N,f81.jR N N,f81.jS N N,f81.jT N N,f81.jU N N,f81.jV N N];kernel_rfl)
def ah6 (N:Nat) (x:List (Int)):Option (List (Int)):=some x
def aaF (N:Nat):au:=(G81 N).jh 165 (zj (.int .i64))
theorem aeo (N:Nat):aF cx (aaF N):=(K81 N).jh (KJ (by kernel_rfl))
def VO:dz:=⟨[.c (.int .i64)],[(false,[.int .i64]),(false,[.int .i64])],0,[(0,1,9,.bool)],[],[],[]⟩
def VP (N:Nat):Int→Option (Int×Int)
 |a=>((cond (decide (a<0))
 (some true)
 (some (decide (a>1073741824)))).bind fun b=>
 (cond b
 (some (0,2))
 (some ((nO .i64 (ah (a+7)) 7),0))))
def aaG (N:Nat):au:=(aaF N).put 166 VO (VP N)
theorem aep (N:Nat):aF cx (aaG N):=(aeo N).put (E':=((aaF N).on VO)) ((aeo N).on VO) 166 VO (VP N) (funext fun a=>by rw[VP];kernel_rfl)
def VQ:dz:=sg [.agg (kg bf),.c (.sl (.int .i64) .bB)] [(false,[.int .i64]),(false,[.int .i64])]
def RN (N:Nat):au:=(aaG N).on VQ
def f133.kI:bJ:=tm [(2,.c (.ptr 0 2 0 0 0)),(6,.c (.int .i64)),(12,.c (.sl (.int .i64) .bB)),(13,.c (.int .i64)),(14,.c (.int .i64))] [] [(0,2,.box 0 (kg bf))] 1 [] 1
def f133.kJ:bG:=[(.ret,tm [(4,.c (.int .i64)),(5,.c (.int .i64))] [] [] 1 [] 0),(.exit 0,tm [(6,.c (.int .i64))] [] [] 1 [] 0)]
def f133.cB (N:Nat):Nat→Int×(List (Int))×Int×Int×dF→Option ((Int×Int)⊕(Int))
 |0,_=>none
 |k+1,(d,e,f,a,g,h,i,j,l,m,n,o,p,q)=>(cond (decide (a<f))
 ((idx e a).bind fun r=>
 ((F54 N (g,r)).bind fun b=>
 (cond (b.2.2 != 0)
 (some (Sum.inl (0,b.2.2)))
 ((VP N b.1).bind fun c=>
 (cond (c.2 != 0)
 (some (Sum.inl (0,c.2)))
 (f133.cB N k ((ah (d+c.1)),e,f,(ah (a+1)),g,h,i,j,l,m,n,o,p,q)))))))
 (some (Sum.inr d)))
theorem f133.oK (N:Nat):∀ k,f133.cB N k=lp (RN N) 0 4 (tq 133) 4 f133.kI f133.kJ k
 |0=>rfl
 |k+1=>funext fun⟨a,b,c,d,e,f,g,h,i,j,l,m,n,o⟩=>by rw[f133.cB,f133.oK N k];kernel_rfl
def aaH (N:Nat):au:=(RN N).af N 0 4 f133.kI f133.kJ
def Ct (N:Nat):cJ (List (Int))→Option (Int×Int)
 |(c,d,e,f,g,h,i,j,l,m,a)=>((f133.cB N N (0,a,(a.length:Int),0,c,d,e,f,g,h,i,j,l,m)).bind fun n=>
 (match n with
 |.inl b=>some (b.1,b.2)
 |.inr o=>some (o,0)))
def aaI (N:Nat):au:=(aaG N).put 133 VQ (Ct N)
theorem aeq (N:Nat):aF cx (aaI N):=(aep N).put (E':=(aaH N)) (((aep N).on VQ).af N 0 4 f133.kI f133.kJ) 133 VQ (Ct N) (funext fun⟨a,b,c,d,e,f,g,h,i,j,l⟩=>by rw[Ct,f133.oK N N];kernel_rfl)
def VS:dz:=⟨[.agg (aL bf),.agg (aL aV),.c (.sl (.int .i64) .d)],[(false,[.sl (.int .i64) .d]),(false,[.bool])],0,[],[],[(0,24,(.int .i64))],[(0,6,[(.ret,tm [(6,.c (.nil true)),(7,.c (.bool))] [] [] 1 [] 0),(.normal,tm [(2,.c (.sl (.int .i64) .d)),(3,.c (.ptr 0 3 0 0 0))] [] [(0,3,.box 0 (aL bf))] 1 [] 1)]),(0,2,[(.normal,tm [(2,.c (.sl (.int .i64) .d)),(3,.c (.ptr 0 3 1 0 0)),(4,.c (.ptr 0 4 2 0 0))] [] [(0,3,.box 1 (aL bf)),(0,4,.box 2 (aL aV))] 1 [] 3)])]⟩
def RO (N:Nat):au:=(aaI N).on VS
def f130.RP:bJ:=tm [(2,.c (.sl (.int .i64) .d)),(3,.c (.ptr 0 3 0 0 0)),(9,.c (.ptr 0 9 1 0 0)),(10,.c (.int .i64)),(45,.c (.sl (.int .i64) .d)),(46,.c (.int .i64)),(47,.c (.int .i64))] [] [(0,3,.box 0 (aL bf)),(0,9,.box 1 (aL dN))] 1 [] 2
def f130.RR:bG:=[(.ret,tm [(6,.c (.nil true)),(7,.c (.bool))] [] [] 1 [] 0),(.exit 0,tm [(2,.c (.sl (.int .i64) .d)),(3,.c (.ptr 0 3 0 0 0)),(10,.c (.int .i64))] [] [(0,3,.box 0 (aL bf))] 1 [] 1)]
def f130.IA (N:Nat):Nat→(List (Int))×Int×(List (Int))×Int×Int×cJ lK→Option ((Bool)⊕((List (Int))×Int×dF))
 |0,_=>none
 |k+1,(b,c,d,e,a,f,g,h,i,j,l,m,n,o,p,r,s,t,q,u,v,w)=>(cond (decide (a<e))
 ((idx d a).bind fun x=>
 ((idx q a).bind fun y=>
 (cond (y.2 != x)
 (some (Sum.inl false))
 (f130.IA N k (b,c,d,e,(ah (a+1)),f,g,h,i,j,l,m,n,o,p,r,s,t,q,u,v,w)))))
 (some (Sum.inr (b,c,f,g,h,i,j,l,m,n,o,p))))
theorem f130.Yd (N:Nat):∀ k,f130.IA N k=lp (RO N) 0 14 (tq 130) 14 f130.RP f130.RR k
 |0=>rfl
 |k+1=>funext fun⟨a,b,c,d,e,f,g,h,i,j,l,m,n,o,p,q,r,s,t,u,v,w⟩=>by rw[f130.IA,f130.Yd N k];kernel_rfl
def aaJ (N:Nat):au:=(RO N).af N 0 14 f130.RP f130.RR
def vw (N:Nat):cJ (Fu (List (Int)))→Option ((List (Int))×Bool)
 |(e,f,g,h,i,j,l,m,n,o,p,q,r,s,t)=>((cond (p==24)
 ((ah6 N t).bind fun u=>
 ((Bj N (e,f,g,h,i,j,l,m,n,o,q)).bind fun x=>
 (aM (room (u.length+1) 8)
 (some ((u++[x]),e,f,g,h,i,j,l,m,n,o,p,q,r,s)))))
 (some (t,e,f,g,h,i,j,l,m,n,o,p,q,r,s))).bind fun a=>
 ((KS N (a.2.2.2.2.2.2.2.2.2.2.2.1,a.2.2.2.2.2.2.2.2.2.2.2.2.1,a.2.2.2.2.2.2.2.2.2.2.2.2.2.1,a.2.2.2.2.2.2.2.2.2.2.2.2.2.2)).bind fun v=>
 ((cond (decide (v≥0))
 ((idx a.2.2.2.1 v).bind fun c=>
 (cond (decide ((ah ((a.1.length:Int)-c.2.1))<0))
 (some (Sum.inl false))
 (aM (decide (0≤(ah ((a.1.length:Int)-c.2.1))))
 (aM (decide ((Int.toNat (ah ((a.1.length:Int)-c.2.1)))≤a.1.length))
 ((f130.IA N N (a.1,(ah ((a.1.length:Int)-c.2.1)),(a.1.drop (Int.toNat (ah ((a.1.length:Int)-c.2.1)))),((a.1.drop (Int.toNat (ah ((a.1.length:Int)-c.2.1)))).length:Int),0,a.2.1,a.2.2.1,a.2.2.2.1,a.2.2.2.2.1,a.2.2.2.2.2.1,a.2.2.2.2.2.2.1,a.2.2.2.2.2.2.2.1,a.2.2.2.2.2.2.2.2.1,a.2.2.2.2.2.2.2.2.2.1,a.2.2.2.2.2.2.2.2.2.2.1,c.1,c.2.1,c.2.2.1,c.2.2.2.1,c.2.2.2.2.1,c.2.2.2.2.2.1,c.2.2.2.2.2.2)).bind fun y=>
 (match y with
 |.inl z=>some (Sum.inl z)
 |.inr b=>(aM (decide (0≤b.2.1))
 (aM (decide (b.2.1.toNat≤b.1.length))
 (some (Sum.inr ((b.1.take b.2.1.toNat),b.2.2.1,b.2.2.2.1,b.2.2.2.2.1,b.2.2.2.2.2.1,b.2.2.2.2.2.2.1,b.2.2.2.2.2.2.2.1,b.2.2.2.2.2.2.2.2.1,b.2.2.2.2.2.2.2.2.2.1,b.2.2.2.2.2.2.2.2.2.2.1,b.2.2.2.2.2.2.2.2.2.2.2)))))))))))
 (some (Sum.inr (a.1,a.2.1,a.2.2.1,a.2.2.2.1,a.2.2.2.2.1,a.2.2.2.2.2.1,a.2.2.2.2.2.2.1,a.2.2.2.2.2.2.2.1,a.2.2.2.2.2.2.2.2.1,a.2.2.2.2.2.2.2.2.2.1,a.2.2.2.2.2.2.2.2.2.2.1)))).bind fun A=>
 (match A with
 |.inl B=>some ([],B)
 |.inr d=>((Ct N (d.2.1,d.2.2.1,d.2.2.2.1,d.2.2.2.2.1,d.2.2.2.2.2.1,d.2.2.2.2.2.2.1,d.2.2.2.2.2.2.2.1,d.2.2.2.2.2.2.2.2.1,d.2.2.2.2.2.2.2.2.2.1,d.2.2.2.2.2.2.2.2.2.2,d.1)).bind fun w=>
 (cond (w.2==0)
 (some (d.1,(decide (w.1≤4096))))
 (some (d.1,false))))))))
def aaK (N:Nat):au:=(aaI N).put 130 VS (vw N)
theorem aer (N:Nat):aF cx (aaK N):=(aeq N).put (E':=(aaJ N)) (((aeq N).on VS).af N 0 14 f130.RP f130.RR) 130 VS (vw N) (funext fun⟨a,b,c,d,e,f,g,h,i,j,l,m,n,o,p⟩=>by rw[vw,f130.Yd N N];kernel_rfl)
def VT:dz:=⟨[.c (.sl aV .bB),.c (.int .i64)],[(false,[.sl (.int .i64) .d]),(false,[.int .i64])],0,[(0,5,19,.bool)],[],[],[]⟩
def Ou (N:Nat):(List (Instr))×Int→Option ((List (Int))×Int)
 |(a,b)=>((Iy N a).bind fun c=>
 (cond (c != 0)
 (some ([],c))
 ((cond (decide (b<0))
 (some true)
 (some (decide (b≥(a.length:Int))))).bind fun d=>
 (cond d
 (some ([],2))
 ((Iz N (a,b)).bind fun e=>
 some (e,0))))))
def aaL (N:Nat):au:=(aaK N).put 131 VT (Ou N)
theorem aes (N:Nat):aF cx (aaL N):=(aer N).put (E':=((aaK N).on VT)) ((aer N).on VT) 131 VT (Ou N) (funext fun⟨a,b⟩=>by rw[Ou];kernel_rfl)
def VU:dz:=sg [.c (.sl (.int .i64) .bB),.c (.sl (.int .i64) .bB)] [(false,[.bool])]
def RS (N:Nat):au:=(aaL N).on VU
def f132.eM:bJ:=tm [(0,.c (.sl (.int .i64) .bB)),(1,.c (.sl (.int .i64) .bB)),(12,.c (.int .i64)),(13,.c (.int .i64))] [] [] 1 [] 0
def f132.eN:bG:=[(.ret,tm [(4,.c (.bool))] [] [] 1 [] 0),(.exit 0,tm [] [] [] 1 [] 0)]
def f132.bz (N:Nat):Nat→(List (Int))×(List (Int))×Int×Int→Option ((Bool)⊕(Unit))
 |0,_=>none
 |k+1,(b,c,d,a)=>(cond (decide (a<d))
 ((idx b a).bind fun e=>
 ((idx c a).bind fun f=>
 (cond (e != f)
 (some (Sum.inl false))
 (f132.bz N k (b,c,d,(ah (a+1)))))))
 (some (Sum.inr ())))
theorem f132.hU (N:Nat):∀ k,f132.bz N k=lp (RS N) 0 6 (tq 132) 6 f132.eM f132.eN k
 |0=>rfl
 |k+1=>funext fun⟨a,b,c,d⟩=>by rw[f132.bz,f132.hU N k];kernel_rfl
def aaM (N:Nat):au:=(RS N).af N 0 6 f132.eM f132.eN
def Ov (N:Nat):(List (Int))×List (Int)→Option (Bool)
 |(a,b)=>(cond ((a.length:Int) != (b.length:Int))
 (some false)
 ((f132.bz N N (a,b,(a.length:Int),0)).bind fun c=>
 (match c with
 |.inl d=>some d
 |.inr e=>some true)))
def aaN (N:Nat):au:=(aaL N).put 132 VU (Ov N)
theorem aet (N:Nat):aF cx (aaN N):=(aes N).put (E':=(aaM N)) (((aes N).on VU).af N 0 6 f132.eM f132.eN) 132 VU (Ov N) (funext fun⟨a,b⟩=>by rw[Ov,f132.hU N N];kernel_rfl)
def s82:dz:=⟨[.agg (aL bf)],[(false,[.sl (.int .u64) .d]),(false,[.bool])],0,[(0,14,70,.bool)],[],[(0,25,(.sl (.int .i64))),(0,28,.bool),(0,31,(.int .i64)),(0,90,(.int .i64)),(0,105,(.int .u64))],[]⟩
def Ye (N:Nat):au:=(aaN N).on s82
def f82.Bg:bJ:=tm [(1,.c (.ptr 0 1 0 0 0)),(4,.c (.sl aV .d)),(5,.c (.ref 0 25 1 (.sl (.int .i64)))),(6,.c (.ref 0 28 2 .bool)),(7,.c (.ref 0 31 3 (.int .i64))),(9,.c (.sl (.int .i64) .d)),(71,.c (.sl (.int .i64) .d)),(72,.c (.int .i64)),(73,.c (.int .i64))] [] [(0,1,.box 0 (aL bf)),(0,25,.row 1 (.sl (.int .i64))),(0,28,.row 2 .bool),(0,31,.row 3 (.int .i64))] 1 [] 4
def f82.Bh:bG:=[(.ret,tm [(2,.c (.nil true)),(3,.c (.bool))] [] [] 1 [] 0),(.exit 2,tm [(1,.c (.ptr 0 1 0 0 0)),(4,.c (.sl aV .d)),(5,.c (.ref 0 25 1 (.sl (.int .i64)))),(6,.c (.ref 0 28 2 .bool)),(7,.c (.ref 0 31 3 (.int .i64)))] [] [(0,1,.box 0 (aL bf)),(0,25,.row 1 (.sl (.int .i64))),(0,28,.row 2 .bool),(0,31,.row 3 (.int .i64))] 1 [] 4)]
def f82.iV (N:Nat):Nat→(List (Instr))×(List (Int))×(List (Int))×Int×Int×cJ ((List (List (Int)))×(List (Bool))×List (Int))→Option ((Bool)⊕((List (Instr))×cJ ((List (List (Int)))×(List (Bool))×List (Int))))
 |0,_=>none
 |k+1,(g,d,h,i,e,j,l,m,n,o,p,q,r,s,t,b,c,f)=>(cond (decide (e<i))
 ((idx h e).bind fun a=>
 (aM (jf a c.length)
 ((c[a.toNat]?).bind fun u=>
 (cond (!u)
 (aM (room (f.length+1) 8)
 (aM (jf a b.length)
 ((b[a.toNat]?).bind fun x=>
 (aM (jf a c.length)
 ((c[a.toNat]?).bind fun y=>
 f82.iV N k (g,d,h,i,(ah (e+1)),j,l,m,n,o,p,q,r,s,t,(b.set a.toNat d),(c.set a.toNat true),(f++[a])))))))
 (aM (jf a b.length)
 ((b[a.toNat]?).bind fun v=>
 ((Ov N (v,d)).bind fun w=>
 (cond (!w)
 (some (Sum.inl false))
 (f82.iV N k (g,d,h,i,(ah (e+1)),j,l,m,n,o,p,q,r,s,t,b,c,f))))))))))
 (some (Sum.inr (g,j,l,m,n,o,p,q,r,s,t,b,c,f))))
theorem f82.Ix (N:Nat):∀ k,f82.iV N k=lp (Ye N) 0 19 (tq 82) 19 f82.Bg f82.Bh k
 |0=>rfl
 |k+1=>funext fun⟨a,b,c,d,e,f,g,h,i,j,l,m,n,o,p,q,r,s⟩=>by rw[f82.iV,f82.Ix N k];kernel_rfl
def Yf (N:Nat):au:=(Ye N).af N 0 19 f82.Bg f82.Bh
def f82.eM:bJ:=tm [(1,.c (.ptr 0 1 0 0 0)),(4,.c (.sl aV .d)),(5,.c (.ref 0 25 1 (.sl (.int .i64)))),(6,.c (.ref 0 28 2 .bool)),(7,.c (.ref 0 31 3 (.int .i64)))] [] [(0,1,.box 0 (aL bf)),(0,25,.row 1 (.sl (.int .i64))),(0,28,.row 2 .bool),(0,31,.row 3 (.int .i64))] 1 [] 4
def f82.eN:bG:=[(.ret,tm [(2,.c (.nil true)),(3,.c (.bool))] [] [] 1 [] 0),(.exit 0,tm [(1,.c (.ptr 0 1 0 0 0)),(4,.c (.sl aV .d)),(5,.c (.ref 0 25 1 (.sl (.int .i64))))] [] [(0,1,.box 0 (aL bf)),(0,25,.row 1 (.sl (.int .i64)))] 1 [] 2)]
def f82.bz (N:Nat):Nat→(List (Instr))×cJ ((List (List (Int)))×(List (Bool))×List (Int))→Option ((Bool)⊕((List (Instr))×cJ (List (List (Int)))))
 |0,_=>none
 |k+1,(c,g,h,i,j,l,m,n,o,p,q,d,t,b)=>(cond (decide ((b.length:Int)>0))
 (aM (jf (ah ((b.length:Int)-1)) b.length)
 ((b[(Int.toNat (ah ((b.length:Int)-1)))]?).bind fun e=>
 (aM (decide (0≤(ah ((b.length:Int)-1))))
 (aM (decide ((Int.toNat (ah ((b.length:Int)-1)))≤b.length))
 ((idx c e).bind fun f=>
 (aM (jf e d.length)
 ((d[e.toNat]?).bind fun u=>
 ((vw N (g,h,i,j,l,m,n,o,p,q,f.1,f.2.1,f.2.2.1,f.2.2.2,u)).bind fun s=>
 ((Ou N (c,e)).bind fun r=>
 ((cond (!s.2)
 (some true)
 (some (r.2 != 0))).bind fun v=>
 (cond v
 (some (Sum.inl false))
 ((f82.iV N N (c,s.1,r.1,(r.1.length:Int),0,g,h,i,j,l,m,n,o,p,q,d,t,(b.take (Int.toNat (ah ((b.length:Int)-1)))))).bind fun w=>
 (match w with
 |.inl x=>some (Sum.inl x)
 |.inr a=>f82.bz N k (a.1,a.2.1,a.2.2.1,a.2.2.2.1,a.2.2.2.2.1,a.2.2.2.2.2.1,a.2.2.2.2.2.2.1,a.2.2.2.2.2.2.2.1,a.2.2.2.2.2.2.2.2.1,a.2.2.2.2.2.2.2.2.2.1,a.2.2.2.2.2.2.2.2.2.2.1,a.2.2.2.2.2.2.2.2.2.2.2.1,a.2.2.2.2.2.2.2.2.2.2.2.2.1,a.2.2.2.2.2.2.2.2.2.2.2.2.2))))))))))))))
 (some (Sum.inr (c,g,h,i,j,l,m,n,o,p,q,d))))
theorem f82.hU (N:Nat):∀ k,f82.bz N k=lp (Yf N) 0 6 (tq 82) 6 f82.eM f82.eN k
 |0=>rfl
 |k+1=>funext fun⟨a,b,c,d,e,f,g,h,i,j,l,m,n,o⟩=>by rw[f82.bz,f82.hU N k,f82.Ix N N];kernel_rfl
def Yg (N:Nat):au:=(Yf N).af N 0 6 f82.eM f82.eN
def f82.RT:bJ:=tm [(1,.c (.ptr 0 1 0 0 0)),(4,.c (.sl aV .d)),(5,.c (.ref 0 25 1 (.sl (.int .i64)))),(15,.c (.ref 0 105 2 (.int .u64))),(106,.c (.ref 0 25 1 (.sl (.int .i64)))),(107,.c (.int .i64)),(108,.c (.int .i64))] [] [(0,1,.box 0 (aL bf)),(0,25,.row 1 (.sl (.int .i64))),(0,105,.row 2 (.int .u64))] 1 [] 3
def f82.RU:bG:=[(.ret,tm [(2,.c (.nil true)),(3,.c (.bool))] [] [] 1 [] 0),(.exit 5,tm [(4,.c (.sl aV .d)),(5,.c (.ref 0 25 0 (.sl (.int .i64)))),(15,.c (.ref 0 105 1 (.int .u64)))] [] [(0,25,.row 0 (.sl (.int .i64))),(0,105,.row 1 (.int .u64))] 1 [] 2)]
def f82.Bk (N:Nat):Nat→(List (Instr))×Int×Int×cJ ((List (List (Int)))×List (Int))→Option ((Bool)⊕((List (Instr))×(List (List (Int)))×List (Int)))
 |0,_=>none
 |k+1,(d,e,a,f,g,h,i,j,l,m,n,o,p,b,c)=>(cond (decide (a<e))
 (aM (jf a b.length)
 ((b[a.toNat]?).bind fun r=>
 ((Ct N (f,g,h,i,j,l,m,n,o,p,r)).bind fun q=>
 (cond (q.2 != 0)
 (some (Sum.inl false))
 (aM (jf a c.length)
 ((c[a.toNat]?).bind fun s=>
 f82.Bk N k (d,e,(ah (a+1)),f,g,h,i,j,l,m,n,o,p,b,(c.set a.toNat (cg q.1)))))))))
 (some (Sum.inr (d,b,c))))
theorem f82.Yh (N:Nat):∀ k,f82.Bk N k=lp (Yg N) 0 35 (tq 82) 35 f82.RT f82.RU k
 |0=>rfl
 |k+1=>funext fun⟨a,b,c,d,e,f,g,h,i,j,l,m,n,o,p⟩=>by rw[f82.Bk,f82.Yh N k];kernel_rfl
def aeu (N:Nat):au:=(Yg N).af N 0 35 f82.RT f82.RU
def F82 (N:Nat):dF→Option ((List (Int))×Bool)
 |(d,e,f,g,h,i,j,b,l,m)=>(aM (decide (0≤(b.length:Int)))
 (aM (decide (0≤(b.length:Int)))
 (aM (decide ((Int.toNat (b.length:Int))≤(Int.toNat (b.length:Int)))&&room (Int.toNat (b.length:Int)) 24)
 (aM (decide (0≤(b.length:Int)))
 (aM (decide (0≤(b.length:Int)))
 (aM (decide ((Int.toNat (b.length:Int))≤(Int.toNat (b.length:Int)))&&room (Int.toNat (b.length:Int)) 1)
 (aM (jf 0 (List.replicate (Int.toNat (b.length:Int)) false).length)
 (((List.replicate (Int.toNat (b.length:Int)) false)[(Int.toNat 0)]?).bind fun s=>
 ((f82.bz N N (b,d,e,f,g,h,i,j,b,l,m,(List.replicate (Int.toNat (b.length:Int)) []),((List.replicate (Int.toNat (b.length:Int)) false).set (Int.toNat 0) true),[0])).bind fun n=>
 (match n with
 |.inl o=>some ([],o)
 |.inr a=>(aM (decide (0≤(a.1.length:Int)))
 (aM (decide (0≤(a.1.length:Int)))
 (aM (decide ((Int.toNat (a.1.length:Int))≤(Int.toNat (a.1.length:Int)))&&room (Int.toNat (a.1.length:Int)) 8)
 ((f82.Bk N N (a.1,(a.2.2.2.2.2.2.2.2.2.2.2.length:Int),0,a.2.1,a.2.2.1,a.2.2.2.1,a.2.2.2.2.1,a.2.2.2.2.2.1,a.2.2.2.2.2.2.1,a.2.2.2.2.2.2.2.1,a.2.2.2.2.2.2.2.2.1,a.2.2.2.2.2.2.2.2.2.1,a.2.2.2.2.2.2.2.2.2.2.1,a.2.2.2.2.2.2.2.2.2.2.2,(List.replicate (Int.toNat (a.1.length:Int)) (0:Int)))).bind fun p=>
 (match p with
 |.inl q=>some ([],q)
 |.inr c=>(aM (jf (ah ((c.1.length:Int)-1)) c.2.1.length)
 ((c.2.1[(Int.toNat (ah ((c.1.length:Int)-1)))]?).bind fun r=>
 some (c.2.2,((r.length:Int)==0)))))))))))))))))))
def G82 (N:Nat):au:=(aaN N).put 82 s82 (F82 N)
theorem K82 (N:Nat):aF cx (G82 N):=(aet N).put (E':=(aeu N)) (((((aet N).on s82).af N 0 19 f82.Bg f82.Bh).af N 0 6 f82.eM f82.eN).af N 0 35 f82.RT f82.RU) 82 s82 (F82 N) (funext fun⟨a,b,c,d,e,f,g,h,i,j⟩=>by rw[F82,f82.hU N N,f82.Yh N N];kernel_rfl)
def VV:dz:=sg [.c (.sl (.int .i64) .bB)] [(false,[.int .u64])]
def RW (N:Nat):au:=(G82 N).on VV
def f134.kI:bJ:=tm [(3,.c (.int .u64)),(6,.c (.sl (.int .i64) .bB)),(7,.c (.int .i64)),(8,.c (.int .i64))] [] [] 1 [] 0
def f134.kJ:bG:=[(.exit 0,tm [(3,.c (.int .u64))] [] [] 1 [] 0)]
def f134.cB (N:Nat):Nat→Int×(List (Int))×Int×Int→Option ((Int))
 |0,_=>none
 |k+1,(b,c,d,a)=>(cond (decide (a<d))
 ((idx c a).bind fun e=>
 (aM (!decide (e<0))
 (f134.cB N k ((zk .u64 b (cg (1*(2 ^ min e.toNat 64)))),c,d,(ah (a+1))))))
 (some b))
theorem f134.oK (N:Nat):∀ k,f134.cB N k=lp (RW N) 0 4 (tq 134) 4 f134.kI f134.kJ k
 |0=>rfl
 |k+1=>funext fun⟨a,b,c,d⟩=>by rw[f134.cB,f134.oK N k];kernel_rfl
def aaO (N:Nat):au:=(RW N).af N 0 4 f134.kI f134.kJ
def KV (N:Nat):List (Int)→Option (Int)
 |a=>((f134.cB N N (0,a,(a.length:Int),0)).bind fun b=>
 some b)
def aaP (N:Nat):au:=(G82 N).put 134 VV (KV N)
theorem aev (N:Nat):aF cx (aaP N):=(K82 N).put (E':=(aaO N)) (((K82 N).on VV).af N 0 4 f134.kI f134.kJ) 134 VV (KV N) (funext fun a=>by rw[KV,f134.oK N N];kernel_rfl)
def s83:dz:=⟨[.c (.sl aV .bB),.c (.int .i64),.c (.int .i64)],[(false,[.sl (.int .u64) .d]),(false,[.int .i64])],0,[(0,5,36,.bool)],[],[(0,39,(.int .u64)),(0,74,(.int .u64)),(0,77,.bool),(1080000,10,(.int .i64)),(1080000,39,(.int .i64))],[]⟩
def Yi (N:Nat):au:=(aaP N).on s83
def f83.rM:bJ:=tm [(0,.c (.sl aV .bB)),(2,.c (.int .i64)),(4,.c (.ptr 0 4 0 0 0)),(9,.c (.ptr 0 9 1 0 0)),(40,.c (.sl aV .bB)),(41,.c (.int .i64)),(42,.c (.int .i64))] [] [(0,4,.box 0 [.int .i64]),(0,9,.box 1 [.ref 0 39 2 (.int .u64)]),(0,39,.row 2 (.int .u64))] 1 [] 3
def f83.rN:bG:=[(.ret,tm [(6,.c (.nil true)),(7,.c (.int .i64))] [] [] 1 [] 0),(.exit 0,tm [(0,.c (.sl aV .bB)),(4,.c (.ptr 0 4 0 0 0)),(9,.c (.ptr 0 9 1 0 0))] [] [(0,4,.box 0 [.int .i64]),(0,9,.box 1 [.ref 0 39 2 (.int .u64)]),(0,39,.row 2 (.int .u64))] 1 [] 3)]
def f83.fM (N:Nat):Nat→(List (Instr))×Int×(List (Instr))×Int×Int×Int×List (Int)→Option ((Int)⊕((List (Instr))×Int×List (Int)))
 |0,_=>none
 |k+1,(g,e,h,i,a,j,b)=>(cond (decide (a<i))
 ((idx h a).bind fun c=>
 ((X0 N (c.1,c.2.1,c.2.2.1,c.2.2.2)).bind fun d=>
 (cond (d.2.2 != 0)
 (some (Sum.inl d.2.2))
 ((KV N d.2.1).bind fun f=>
 (aM (jf a b.length)
 ((b[a.toNat]?).bind fun n=>
 ((KV N d.1).bind fun l=>
 (aM (jf a (b.set a.toNat f).length)
 (((b.set a.toNat f)[a.toNat]?).bind fun m=>
 (aM (!decide (e<0))
 (cond ((Int.fdiv (zk .u64 l m) (2 ^ min e.toNat 64)) != 0)
 (some (Sum.inl 16))
 (f83.fM N k (g,e,h,i,(ah (a+1)),j,(b.set a.toNat f))))))))))))))
 (some (Sum.inr (g,j,b))))
theorem f83.ya (N:Nat):∀ k,f83.fM N k=lp (Yi N) 0 11 (tq 83) 11 f83.rM f83.rN k
 |0=>rfl
 |k+1=>funext fun⟨a,b,c,d,e,f,g⟩=>by rw[f83.fM,f83.ya N k];kernel_rfl
def Yj (N:Nat):au:=(Yi N).af N 0 11 f83.rM f83.rN
def f83.rS:bJ:=tm [(0,.c (.sl aV .bB)),(1,.fB 135 [.ptr 0 4 0 0 0,.ptr 0 16 1 0 0,.ptr 0 15 2 0 0,.ptr 0 9 3 0 0]),(4,.c (.ref 1 10 4 (.int .i64))),(5,.c (.int .i64)),(27,.c (.sl (.int .i64) .d)),(28,.c (.int .i64)),(29,.c (.int .i64))] [[(15,.c (.ptr 0 15 2 0 0))]] [(0,4,.box 0 [.int .i64]),(0,16,.box 1 [.ref 0 77 5 .bool]),(0,77,.row 5 .bool),(0,15,.box 2 [.ref 0 74 6 (.int .u64)]),(0,74,.row 6 (.int .u64)),(0,9,.box 3 [.ref 0 39 7 (.int .u64)]),(0,39,.row 7 (.int .u64)),(1,10,.row 4 (.int .i64))] 2 [] 8
def f83.rT:bG:=[(.exit 2,tm [(0,.c (.sl aV .bB)),(1,.fB 135 [.ptr 0 4 0 0 0,.ptr 0 16 1 0 0,.ptr 0 15 2 0 0,.ptr 0 9 3 0 0]),(4,.c (.ref 1 10 4 (.int .i64)))] [[(15,.c (.ptr 0 15 2 0 0))]] [(0,4,.box 0 [.int .i64]),(0,16,.box 1 [.ref 0 77 5 .bool]),(0,77,.row 5 .bool),(0,15,.box 2 [.ref 0 74 6 (.int .u64)]),(0,74,.row 6 (.int .u64)),(0,9,.box 3 [.ref 0 39 7 (.int .u64)]),(0,39,.row 7 (.int .u64)),(1,10,.row 4 (.int .i64))] 2 [] 8)]
def f83.dO (N:Nat):Nat→(List (Instr))×Int×(List (Int))×Int×Int×Int×(List (Bool))×(List (Int))×(List (Int))×List (Int)→Option (((List (Instr))×Int×(List (Bool))×(List (Int))×(List (Int))×List (Int)))
 |0,_=>none
 |k+1,(i,d,j,l,h,f,c,b,g,e)=>(cond (decide (h<l))
 ((idx j h).bind fun a=>
 (cond (decide (d<0))
 (aM (!decide (f<0))
 (aM (jf a c.length)
 ((c[a.toNat]?).bind fun s=>
 (aM (jf a b.length)
 ((b[a.toNat]?).bind fun t=>
 (aM (room (e.length+1) 8)
 (f83.dO N k (i,d,j,l,(ah (h+1)),f,(c.set a.toNat true),(b.set a.toNat (cg ((cg (1*(2 ^ min f.toNat 64)))-1))),g,(e++[a])))))))))
 (aM (jf d b.length)
 ((b[d.toNat]?).bind fun m=>
 (aM (jf d g.length)
 ((g[d.toNat]?).bind fun n=>
 (aM (jf a c.length)
 ((c[a.toNat]?).bind fun p=>
 (cond (!p)
 (aM (jf a c.length)
 ((c[a.toNat]?).bind fun u=>
 (aM (jf a b.length)
 ((b[a.toNat]?).bind fun v=>
 (aM (room (e.length+1) 8)
 (f83.dO N k (i,d,j,l,(ah (h+1)),f,(c.set a.toNat true),(b.set a.toNat (zk .u64 m n)),g,(e++[a]))))))))
 (aM (jf a b.length)
 ((b[a.toNat]?).bind fun q=>
 (aM (jf a b.length)
 ((b[a.toNat]?).bind fun o=>
 (aM (jf a b.length)
 ((b[a.toNat]?).bind fun w=>
 (aM (jf a (b.set a.toNat (qv .u64 o (zk .u64 m n))).length)
 (((b.set a.toNat (qv .u64 o (zk .u64 m n)))[a.toNat]?).bind fun r=>
 (cond (r != q)
 (aM (room (e.length+1) 8)
 (f83.dO N k (i,d,j,l,(ah (h+1)),f,c,(b.set a.toNat (qv .u64 o (zk .u64 m n))),g,(e++[a]))))
 (f83.dO N k (i,d,j,l,(ah (h+1)),f,c,(b.set a.toNat (qv .u64 o (zk .u64 m n))),g,e))))))))))))))))))))
 (some (i,f,c,b,g,e)))
theorem f83.yd (N:Nat):∀ k,f83.dO N k=lp (Yj N) 1080000 11 (tq 116) 11 f83.rS f83.rT k
 |0=>rfl
 |k+1=>funext fun⟨a,b,c,d,e,f,g,h,i,j⟩=>by rw[f83.dO,f83.yd N k];kernel_rfl
def Yk (N:Nat):au:=(Yj N).af N 1080000 11 f83.rS f83.rT
def f83.ua:bJ:=tm [(0,.c (.sl aV .bB)),(1,.fB 135 [.ptr 0 4 0 0 0,.ptr 0 16 1 0 0,.ptr 0 15 2 0 0,.ptr 0 9 3 0 0]),(4,.c (.ref 1 10 4 (.int .i64)))] [[(15,.c (.ptr 0 15 2 0 0))]] [(0,4,.box 0 [.int .i64]),(0,16,.box 1 [.ref 0 77 5 .bool]),(0,77,.row 5 .bool),(0,15,.box 2 [.ref 0 74 6 (.int .u64)]),(0,74,.row 6 (.int .u64)),(0,9,.box 3 [.ref 0 39 7 (.int .u64)]),(0,39,.row 7 (.int .u64)),(1,10,.row 4 (.int .i64))] 2 [] 8
def f83.uc:bG:=[(.exit 0,tm [] [[(15,.c (.ptr 0 15 0 0 0))]] [(0,15,.box 0 [.ref 0 74 1 (.int .u64)]),(0,74,.row 1 (.int .u64))] 2 [] 2)]
def f83.ig (N:Nat):Nat→(List (Instr))×Int×(List (Bool))×(List (Int))×(List (Int))×List (Int)→Option ((List (Int)))
 |0,_=>none
 |k+1,(c,g,h,d,i,a)=>(cond (decide ((a.length:Int)>0))
 (aM (jf (ah ((a.length:Int)-1)) a.length)
 ((a[(Int.toNat (ah ((a.length:Int)-1)))]?).bind fun e=>
 (aM (decide (0≤(ah ((a.length:Int)-1))))
 (aM (decide ((Int.toNat (ah ((a.length:Int)-1)))≤a.length))
 ((Iz N (c,e)).bind fun f=>
 ((f83.dO N N (c,e,f,(f.length:Int),0,g,h,d,i,(a.take (Int.toNat (ah ((a.length:Int)-1)))))).bind fun b=>
 f83.ig N k (b.1,b.2.1,b.2.2.1,b.2.2.2.1,b.2.2.2.2.1,b.2.2.2.2.2)))))))
 (some d))
theorem f83.Bl (N:Nat):∀ k,f83.ig N k=lp (Yk N) 1080000 3 (tq 116) 3 f83.ua f83.uc k
 |0=>rfl
 |k+1=>funext fun⟨a,b,c,d,e,f⟩=>by rw[f83.ig,f83.Bl N k,f83.yd N N];kernel_rfl
def aew (N:Nat):au:=(Yk N).af N 1080000 3 f83.ua f83.uc
def RX (N:Nat):(List (Instr))×Int×Int→Option ((List (Int))×Int)
 |(b,e,d)=>((Iy N b).bind fun f=>
 (cond (f != 0)
 (some ([],f))
 ((cond (decide (d<0))
 (some true)
 (cond (decide (d>16))
 (some true)
 (cond (decide (e<0))
 (some true)
 (some (decide (e>d)))))).bind fun g=>
 (cond g
 (some ([],2))
 (aM (decide (0≤(b.length:Int)))
 (aM (decide (0≤(b.length:Int)))
 (aM (decide ((Int.toNat (b.length:Int))≤(Int.toNat (b.length:Int)))&&room (Int.toNat (b.length:Int)) 8)
 ((f83.fM N N (b,d,b,(b.length:Int),0,e,(List.replicate (Int.toNat (b.length:Int)) (0:Int)))).bind fun h=>
 (match h with
 |.inl i=>some ([],i)
 |.inr a=>(aM (decide (0≤(a.1.length:Int)))
 (aM (decide (0≤(a.1.length:Int)))
 (aM (decide ((Int.toNat (a.1.length:Int))≤(Int.toNat (a.1.length:Int)))&&room (Int.toNat (a.1.length:Int)) 8)
 (aM (decide (0≤(a.1.length:Int)))
 (aM (decide (0≤(a.1.length:Int)))
 (aM (decide ((Int.toNat (a.1.length:Int))≤(Int.toNat (a.1.length:Int)))&&room (Int.toNat (a.1.length:Int)) 1)
 (aM (!decide (a.2.1<0))
 (aM (jf 0 (List.replicate (Int.toNat (a.1.length:Int)) false).length)
 (((List.replicate (Int.toNat (a.1.length:Int)) false)[(Int.toNat 0)]?).bind fun j=>
 (aM (jf 0 (List.replicate (Int.toNat (a.1.length:Int)) (0:Int)).length)
 (((List.replicate (Int.toNat (a.1.length:Int)) (0:Int))[(Int.toNat 0)]?).bind fun l=>
 ((f83.ig N N (a.1,a.2.1,((List.replicate (Int.toNat (a.1.length:Int)) false).set (Int.toNat 0) true),((List.replicate (Int.toNat (a.1.length:Int)) (0:Int)).set (Int.toNat 0) (cg ((cg (1*(2 ^ min a.2.1.toNat 64)))-1))),a.2.2,[0])).bind fun c=>
 (aM (jf (ah ((c.length:Int)-1)) c.length)
 ((c[(Int.toNat (ah ((c.length:Int)-1)))]?).bind fun m=>
 some ((c.set (Int.toNat (ah ((c.length:Int)-1))) 0),0))))))))))))))))))))))))
def G83 (N:Nat):au:=(aaP N).put 83 s83 (RX N)
theorem K83 (N:Nat):aF cx (G83 N):=(aev N).put (E':=(aew N)) (((((aev N).on s83).af N 0 11 f83.rM f83.rN).af N 1080000 11 f83.rS f83.rT).af N 1080000 3 f83.ua f83.uc) 83 s83 (RX N) (funext fun⟨a,b,c⟩=>by rw[RX,f83.ya N N,f83.Bl N N];kernel_rfl)
def s85:dz:=⟨[.c (.sl (.int .u64) .bB)],[(false,[.sl gF .d]),(false,[.int .i64])],0,[(0,13,31,.bool)],[],[(0,39,gF)],[]⟩
def Yl (N:Nat):au:=(G83 N).on s85
def f85.Bm:bJ:=tm [(0,.c (.sl (.int .u64) .bB)),(5,.c (.sl gF (.app 0))),(14,.c (.int .i64)),(15,.c (.int .i64))] [] [] 1 [0] 1
def f85.Bn:bG:=[(.exit 0,tm [(5,.c (.sl gF (.app 0)))] [] [] 1 [0] 1)]
def f85.lN (N:Nat):Nat→(List (Int))×(List (cI))×Int×Int→Option ((List (cI)))
 |0,_=>none
 |k+1,(b,c,d,a)=>(cond (decide (a<d))
 ((cond (decide (a>0))
 ((idx b a).bind fun e=>
 ((idx b (ah (a-1))).bind fun f=>
 some (e==f)))
 (some false)).bind fun g=>
 (cond g
 (f85.lN N k (b,c,d,(ah (a+1))))
 ((idx b a).bind fun h=>
 (aM (room (c.length+1) 16)
 (f85.lN N k (b,(c++[(a,h)]),d,(ah (a+1))))))))
 (some c))
theorem f85.IB (N:Nat):∀ k,f85.lN N k=lp (Yl N) 0 8 (tq 85) 8 f85.Bm f85.Bn k
 |0=>rfl
 |k+1=>funext fun⟨a,b,c,d⟩=>by rw[f85.lN,f85.IB N k];kernel_rfl
def aex (N:Nat):au:=(Yl N).af N 0 8 f85.Bm f85.Bn
def F85 (N:Nat):List (Int)→Option ((List (cI))×Int)
 |a=>((Fy N (a.length:Int)).bind fun b=>
 (cond (b != 0)
 (some ([],b))
 ((f85.lN N N (a,[],(a.length:Int),0)).bind fun c=>
 some (c,0))))
def G85 (N:Nat):au:=(G83 N).put 85 s85 (F85 N)
theorem K85 (N:Nat):aF cx (G85 N):=(K83 N).put (E':=(aex N)) (((K83 N).on s85).af N 0 8 f85.Bm f85.Bn) 85 s85 (F85 N) (funext fun a=>by rw[F85,f85.IB N N];kernel_rfl)
def s49:dz:=⟨[.agg (aL bY),.c (.int .i64)],[(true,(aL Vh))],0,[(0,7,53,.bool),(0,51,139,.bool)],[],[],[]⟩
def Ym (N:Nat):au:=(G85 N).on s49
def f49.RY:bJ:=tm [(4,.c (.ptr 0 4 0 0 0)),(5,.c (.ptr 0 5 1 0 0)),(6,.c (.sl aV .d)),(7,.c (.sl .bool .d)),(55,.c (.sl aV .d)),(56,.c (.int .i64)),(57,.c (.int .i64))] [] [(0,4,.box 0 [.nil true,.nil true,.int .i64,.int .i64]),(0,5,.box 1 (aL bf))] 1 [] 2
def f49.RZ:bG:=[(.ret,tm [(4,.c (.ptr 0 4 0 0 0))] [] [(0,4,.box 0 [.nil true,.nil true,.int .i64,.int .i64])] 1 [] 1),(.exit 0,tm [(4,.c (.ptr 0 4 0 0 0)),(5,.c (.ptr 0 5 1 0 0)),(6,.c (.sl aV .d))] [] [(0,4,.box 0 [.nil true,.nil true,.int .i64,.int .i64]),(0,5,.box 1 (aL bf))] 1 [] 2)]
def f49.Bo (N:Nat):Nat→(List (Instr))×(List (Bool))×(List (Instr))×Int×Int×Int×Int×dF→Option ((Int×Int)⊕((List (Instr))×Int×Int×dF))
 |0,_=>none
 |k+1,(n,o,p,q,b,r,s,c,d,e,f,g,h,i,j,l,m)=>(cond (decide (b<q))
 ((idx p b).bind fun a=>
 ((TO N (c,d,e,f,g,h,i,j,l,m,a.1,a.2.1,a.2.2.1,a.2.2.2)).bind fun t=>
 (cond (t != 0)
 (some (Sum.inl (b,16)))
 ((idx o b).bind fun u=>
 (cond (!u)
 (some (Sum.inl (b,6)))
 ((KU N (c,d,e,f,g,h,i,j,l,m,a.1,a.2.1,a.2.2.1,a.2.2.2)).bind fun v=>
 (cond (!v)
 (some (Sum.inl (b,30)))
 (f49.Bo N k (n,o,p,q,(ah (b+1)),r,s,c,d,e,f,g,h,i,j,l,m)))))))))
 (some (Sum.inr (n,r,s,c,d,e,f,g,h,i,j,l,m))))
theorem f49.Yn (N:Nat):∀ k,f49.Bo N k=lp (Ym N) 0 12 (tq 49) 12 f49.RY f49.RZ k
 |0=>rfl
 |k+1=>funext fun⟨a,b,c,d,e,f,g,h,i,j,l,m,n,o,p,q,r⟩=>by rw[f49.Bo,f49.Yn N k];kernel_rfl
def Yo (N:Nat):au:=(Ym N).af N 0 12 f49.RY f49.RZ
def f49.R0:bJ:=tm [(4,.c (.ptr 0 4 0 0 0)),(11,.c (.sl (.int .u64) .d)),(13,.c (.sl (.int .u64) .d)),(14,.c (.int .i64)),(18,.c (.int .i64)),(109,.c (.sl aV .d)),(110,.c (.int .i64)),(111,.c (.int .i64)),(122,.c (.sl (.int .i64) .d)),(123,.c (.int .i64)),(124,.c (.int .i64))] [] [(0,4,.box 0 [.nil true,.nil true,.int .i64,.int .i64])] 1 [] 1
def f49.R2:bG:=[(.ret,tm [(4,.c (.ptr 0 4 0 0 0))] [] [(0,4,.box 0 [.nil true,.nil true,.int .i64,.int .i64])] 1 [] 1),(.exit 5,tm [(4,.c (.ptr 0 4 0 0 0)),(11,.c (.sl (.int .u64) .d)),(13,.c (.sl (.int .u64) .d)),(109,.c (.sl aV .d)),(110,.c (.int .i64)),(111,.c (.int .i64))] [] [(0,4,.box 0 [.nil true,.nil true,.int .i64,.int .i64])] 1 [] 1)]
def f49.DM (N:Nat):Nat→(List (Int))×(List (Int))×Int×Int×(List (Instr))×Int×Int×(List (Int))×Int×Int×Int×Int→Option ((Int×Int)⊕((List (Int))×(List (Int))×(List (Instr))×Int×Int×Int×Int))
 |0,_=>none
 |k+1,(d,a,b,e,f,g,h,i,j,c,l,m)=>(cond (decide (c<j))
 ((idx i c).bind fun n=>
 ((cond (e != 0)
 (some true)
 ((idx a b).bind fun o=>
 (aM (!decide (n<0))
 (some ((qv .u64 (Int.fdiv o (2 ^ min n.toNat 64)) 1)==0))))).bind fun p=>
 (cond p
 (some (Sum.inl (b,38)))
 (f49.DM N k (d,a,b,e,f,g,h,i,j,(ah (c+1)),l,m)))))
 (some (Sum.inr (d,a,f,g,h,l,m))))
theorem f49.Yp (N:Nat):∀ k,f49.DM N k=lp (Yo N) 0 46 (tq 49) 46 f49.R0 f49.R2 k
 |0=>rfl
 |k+1=>funext fun⟨a,b,c,d,e,f,g,h,i,j,l,m⟩=>by rw[f49.DM,f49.Yp N k];kernel_rfl
def Yq (N:Nat):au:=(Yo N).af N 0 46 f49.R0 f49.R2
def f49.R3:bJ:=tm [(4,.c (.ptr 0 4 0 0 0)),(11,.c (.sl (.int .u64) .d)),(13,.c (.sl (.int .u64) .d)),(109,.c (.sl aV .d)),(110,.c (.int .i64)),(111,.c (.int .i64))] [] [(0,4,.box 0 [.nil true,.nil true,.int .i64,.int .i64])] 1 [] 1
def f49.R4:bG:=[(.ret,tm [(4,.c (.ptr 0 4 0 0 0))] [] [(0,4,.box 0 [.nil true,.nil true,.int .i64,.int .i64])] 1 [] 1),(.exit 3,tm [(4,.c (.ptr 0 4 0 0 0)),(11,.c (.sl (.int .u64) .d)),(13,.c (.sl (.int .u64) .d))] [] [(0,4,.box 0 [.nil true,.nil true,.int .i64,.int .i64])] 1 [] 1)]
def f49.Bp (N:Nat):Nat→(List (Int))×(List (Int))×(List (Instr))×Int×Int×Int×Int→Option ((Int×Int)⊕((List (Int))×(List (Int))×Int×Int))
 |0,_=>none
 |k+1,(e,f,g,h,b,i,j)=>(cond (decide (b<h))
 ((idx g b).bind fun c=>
 ((X0 N (c.1,c.2.1,c.2.2.1,c.2.2.2)).bind fun d=>
 ((f49.DM N N (e,f,b,d.2.2,g,h,b,d.1,(d.1.length:Int),0,i,j)).bind fun m=>
 (match m with
 |.inl l=>some (Sum.inl (l.1,l.2))
 |.inr a=>f49.Bp N k (a.1,a.2.1,a.2.2.1,a.2.2.2.1,(ah (a.2.2.2.2.1+1)),a.2.2.2.2.2.1,a.2.2.2.2.2.2)))))
 (some (Sum.inr (e,f,i,j))))
theorem f49.Yr (N:Nat):∀ k,f49.Bp N k=lp (Yq N) 0 38 (tq 49) 38 f49.R3 f49.R4 k
 |0=>rfl
 |k+1=>funext fun⟨a,b,c,d,e,f,g⟩=>by rw[f49.Bp,f49.Yr N k,f49.Yp N N];kernel_rfl
def aey (N:Nat):au:=(Yq N).af N 0 38 f49.R3 f49.R4
def IC (N:Nat):fS Int→Option (ML)
 |(n,o,e,f)=>((idx e f).bind fun b=>
 ((F79 N b.2.2.2.2.1).bind fun g=>
 (cond (g.2 != 0)
 (some ([],[],(-1),12))
 ((cond (f==0)
 (cond (decide (b.2.1>0))
 (some true)
 (some (decide (b.2.2.1≥0))))
 (some false)).bind fun p=>
 (cond p
 (some ([],[],(-1),30))
 ((f49.Bo N N (b.2.2.2.2.1,g.1,b.2.2.2.2.1,(b.2.2.2.2.1.length:Int),0,0,0,n,o,e,b.1,b.2.1,b.2.2.1,b.2.2.2.1,b.2.2.2.2.1,b.2.2.2.2.2.1,b.2.2.2.2.2.2)).bind fun q=>
 (match q with
 |.inl h=>some ([],[],h.1,h.2)
 |.inr a=>((F82 N (a.2.2.2.1,a.2.2.2.2.1,a.2.2.2.2.2.1,a.2.2.2.2.2.2.1,a.2.2.2.2.2.2.2.1,a.2.2.2.2.2.2.2.2.1,a.2.2.2.2.2.2.2.2.2.1,a.2.2.2.2.2.2.2.2.2.2.1,a.2.2.2.2.2.2.2.2.2.2.2.1,a.2.2.2.2.2.2.2.2.2.2.2.2)).bind fun i=>
 (cond (!i.2)
 (some ([],[],(-1),36))
 ((RX N (a.1,a.2.2.2.2.2.2.2.1,(a.2.2.2.2.2.2.2.2.2.1.length:Int))).bind fun d=>
 (cond (d.2 != 0)
 (some ([],[],(-1),d.2))
 ((f49.Bp N N (i.1,d.1,a.1,(a.1.length:Int),0,a.2.1,a.2.2.1)).bind fun r=>
 (match r with
 |.inl j=>some ([],[],j.1,j.2)
 |.inr l=>((F85 N l.1).bind fun c=>
 (cond (c.2==0)
 ((F85 N l.2.1).bind fun m=>
 some (c.1,m.1,0,m.2))
 (some (c.1,[],0,c.2)))))))))))))))))
def G49 (N:Nat):au:=(G85 N).put 49 s49 (IC N)
theorem K49 (N:Nat):aF cx (G49 N):=(K85 N).put (E':=(aey N)) (((((K85 N).on s49).af N 0 12 f49.RY f49.RZ).af N 0 46 f49.R0 f49.R2).af N 0 38 f49.R3 f49.R4) 49 s49 (IC N) (funext fun⟨a,b,c,d⟩=>by rw[IC,f49.Yn N N,f49.Yr N N];kernel_rfl)
def s26:dz:=sg [.agg (aL bY),.c (.int .i64)] [(true,(aL dN)),(false,[.int .i64])]
def F26 (N:Nat):fS Int→Option (Xs Int)
 |(e,f,b,d)=>((RH N (e,f,b)).bind fun g=>
 (cond (g != 0)
 (some (([]:List UInt8),0,0,[],[],[],[],g))
 ((F48 N (b,d)).bind fun h=>
 (cond (!h)
 (some (([]:List UInt8),0,0,[],[],[],[],2))
 ((IC N (e,f,b,d)).bind fun c=>
 (cond (c.2.2.2 != 0)
 (some (([]:List UInt8),0,0,[],[],[],[],c.2.2.2))
 ((idx b d).bind fun a=>
 (aM (room a.2.2.2.1.length 24)
 (aM (room a.2.2.2.2.1.length 32)
 (some (a.1,a.2.1,a.2.2.1,a.2.2.2.1,a.2.2.2.2.1,c.1,c.2.1,0)))))))))))
def G26 (N:Nat):au:=(G49 N).put 26 s26 (F26 N)
theorem K26 (N:Nat):aF cx (G26 N):=(K49 N).put (E':=((G49 N).on s26)) ((K49 N).on s26) 26 s26 (F26 N) (funext fun⟨a,b,c,d⟩=>by rw[F26];kernel_rfl)
def s13:dz:=⟨[.agg (aL bY)],[(true,(aL bY)),(false,[.int .i64])],0,[],[],[(0,11,dN)],[]⟩
def Ys (N:Nat):au:=(G26 N).on s13
def f13.kI:bJ:=tm [(1,.c (.ptr 0 1 0 0 0)),(2,.c (.ptr 0 2 1 0 0)),(4,.c (.ref 0 11 2 dN)),(14,.c (.int .i64)),(15,.c (.int .i64))] [] [(0,1,.box 0 (aL bY)),(0,2,.box 1 [.nil true,.nil true,.nil true]),(0,11,.row 2 dN)] 1 [] 3
def f13.kJ:bG:=[(.ret,tm [(2,.c (.ptr 0 2 0 0 0)),(3,.c (.int .i64))] [] [(0,2,.box 0 [.nil true,.nil true,.nil true])] 1 [] 1),(.exit 0,tm [(1,.c (.ptr 0 1 0 0 0)),(2,.c (.ptr 0 2 1 0 0)),(4,.c (.ref 0 11 2 dN))] [] [(0,1,.box 0 (aL bY)),(0,2,.box 1 [.nil true,.nil true,.nil true]),(0,11,.row 2 dN)] 1 [] 3)]
def f13.cB (N:Nat):Nat→Int×Int×fS (List (Func))→Option ((Int)⊕(fS (List (Func))))
 |0,_=>none
 |k+1,(g,b,d,e,f,c)=>(cond (decide (b<g))
 ((F26 N (d,e,f,b)).bind fun a=>
 (cond (a.2.2.2.2.2.2.2 != 0)
 (some (Sum.inl a.2.2.2.2.2.2.2))
 (aM (jf b c.length)
 ((c[b.toNat]?).bind fun h=>
 f13.cB N k (g,(ah (b+1)),d,e,f,(c.set b.toNat (a.1,a.2.1,a.2.2.1,a.2.2.2.1,a.2.2.2.2.1,a.2.2.2.2.2.1,a.2.2.2.2.2.2.1)))))))
 (some (Sum.inr (d,e,f,c))))
theorem f13.oK (N:Nat):∀ k,f13.cB N k=lp (Ys N) 0 4 (tq 13) 4 f13.kI f13.kJ k
 |0=>rfl
 |k+1=>funext fun⟨a,b,c,d,e,f⟩=>by rw[f13.cB,f13.oK N k];kernel_rfl
def aez (N:Nat):au:=(Ys N).af N 0 4 f13.kI f13.kJ
def Yt (N:Nat):fR→Option (fS Int)
 |(c,d,a)=>(aM (decide (0≤(a.length:Int)))
 (aM (decide (0≤(a.length:Int)))
 (aM (decide ((Int.toNat (a.length:Int))≤(Int.toNat (a.length:Int)))&&room (Int.toNat (a.length:Int)) 128)
 ((f13.cB N N ((a.length:Int),0,c,d,a,(List.replicate (Int.toNat (a.length:Int)) (([]:List UInt8),0,0,[],[],[],[])))).bind fun e=>
 (match e with
 |.inl f=>some ([],[],[],f)
 |.inr b=>some (b.1,b.2.1,b.2.2.2,0))))))
def G13 (N:Nat):au:=(G26 N).put 13 s13 (Yt N)
theorem K13 (N:Nat):aF cx (G13 N):=(K26 N).put (E':=(aez N)) (((K26 N).on s13).af N 0 4 f13.kI f13.kJ) 13 s13 (Yt N) (funext fun⟨a,b,c⟩=>by rw[Yt,f13.oK N N];kernel_rfl)
def s5:dz:=⟨[.c (.sl (.int .i64) .bB)],[(true,(aL bY)),(false,[.int .i64])],0,[],[],[(0,36,cW),(0,41,bT),(0,42,.str),(0,59,dN)],[]⟩
def aeA (N:Nat):au:=(G13 N).on s5
def f5.kE:bJ:=tm [(2,.c (.ptr 0 2 0 0 0)),(4,.c (.ref 0 11 1 aV)),(12,.c (.sl (.int .i64) .bB)),(13,.c (.int .i64)),(14,.c (.int .i64))] [] [(0,2,.box 0 [.nil true,.nil true,.nil true]),(0,11,.row 1 aV)] 1 [] 2
def f5.kF:bG:=[(.exit 0,tm [(2,.c (.ptr 0 2 0 0 0)),(4,.c (.ref 0 11 1 aV))] [] [(0,2,.box 0 [.nil true,.nil true,.nil true]),(0,11,.row 1 aV)] 1 [] 2)]
def f5.ct (N:Nat):Nat→(List (Int))×Int×Int×List (Instr)→Option ((List (Instr)))
 |0,_=>none
 |k+1,(c,d,b,a)=>(cond (decide (b<d))
 ((idx c b).bind fun f=>
 ((rL N f).bind fun g=>
 ((yM N (g,(a.length:Int))).bind fun e=>
 (aM (room (a.length+e.length) 32)
 (f5.ct N k (c,d,(ah (b+1)),(a++e)))))))
 (some a))
theorem f5.oI (N:Nat):∀ k,f5.ct N k=lp (aeA N) 0 7 (tq 5) 7 f5.kE f5.kF k
 |0=>rfl
 |k+1=>funext fun⟨a,b,c,d⟩=>by rw[f5.ct,f5.oI N k];kernel_rfl
def aid (N:Nat):au:=(aeA N).af N 0 7 f5.kE f5.kF
def F5 (N:Nat):List (Int)→Option (fS Int)
 |b=>(cond (decide ((b.length:Int)>60))
 (some ([],[],[],4))
 ((yM N ([105,110,116,32,48,32,53,59,32,98,111,111,108,32,49,32,49,59,32,116,101,120,116,32,50,32,48,59,32,110,101,119,32,51,59,32,122,101,114,111,32,52,59,32,122,101,114,111,32,53,59,32,105,110,116,32,55,32,50,59,32,109,97,107,101,32,54,32,55,59,32,110,101,119,32,56],0)).bind fun e=>
 ((f5.ct N N (b,(b.length:Int),0,e)).bind fun c=>
 ((yM N ([114,101,116,117,114,110,32,45,49],0)).bind fun d=>
 (aM (room (c.length+d.length) 32)
 ((KL N ([109,97,105,110],[110,32,48,32,111,110,32,49,32,115,32,50,32,112,32,51,32,114,32,52,32,97,32,53,32,108,32,54,32,107,32,48,32,113,32,55],0,(-1),(c++d))).bind fun f=>
 ((yM N ([105,110,116,32,49,32,49,59,32,108,101,115,115,32,50,32,48,32,49,59,32,98,114,97,110,99,104,32,50,32,56,59,32,115,117,98,32,49,32,48,32,49,59,32,97,114,103,32,49,59,32,99,97,108,108,32,49,32,49,59,32,97,100,100,32,49,32,49,32,48,59,32,114,101,116,117,114,110,32,49,59,32,114,101,116,117,114,110,32,48,59,32,114,101,116,117,114,110,32,45,49],0)).bind fun g=>
 ((KL N ([119,111,114,107],[110,32,48,32,107,32,48,32,111,110,32,49],1,0,g)).bind fun h=>
 ((yM N ([114,101,99,111,118,101,114,32,49,32,50,59,32,98,114,97,110,99,104,32,49,32,52,59,32,108,101,115,115,32,49,32,48,32,50,59,32,98,114,97,110,99,104,32,49,32,53,59,32,114,101,116,117,114,110,32,45,49,59,32,112,97,110,105,99,32,48,59,32,114,101,116,117,114,110,32,45,49],0)).bind fun i=>
 ((KL N ([108,97,116,101],[110,32,48,32,111,110,32,49,32,107,32,48],1,(-1),i)).bind fun j=>
 ((yM N ([121,105,101,108,100,59,32,119,97,107,101,32,49,32,48,59,32,98,114,97,110,99,104,32,49,32,52,59,32,98,108,111,99,107,32,48,59,32,114,101,116,117,114,110,32,45,49],0)).bind fun l=>
 ((KL N ([116,97,115,107],[107,32,48,32,111,110,32,49],1,(-1),l)).bind fun m=>
 ((yM N ([112,97,110,105,99,32,48,59,32,114,101,116,117,114,110,32,45,49],0)).bind fun n=>
 ((KL N ([102,97,105,108],[110,32,48],1,(-1),n)).bind fun o=>
 ((yM N ([101,120,105,116,59,32,114,101,116,117,114,110,32,45,49],0)).bind fun p=>
 ((KL N ([108,101,97,118,101],([]:List UInt8),0,(-1),p)).bind fun q=>
 ((yM N ([114,101,99,111,118,101,114,32,48,32,49,59,32,114,101,116,117,114,110,32,45,49],0)).bind fun r=>
 ((KL N ([113,117,105,101,116],[111,110,32,49,32,110,32,48],0,(-1),r)).bind fun s=>
 ((yM N ([114,101,99,111,118,101,114,32,49,32,50,59,32,112,97,110,105,99,32,48,59,32,114,101,116,117,114,110,32,45,49],0)).bind fun t=>
 ((KL N ([97,103,97,105,110],[110,32,48,32,111,110,32,49,32,107,32,48],1,(-1),t)).bind fun u=>
 ((Yt N ([(2,0,0,[]),(1,0,0,[]),(3,0,0,[]),(4,0,0,[]),(5,0,0,[([110],0),([111,110],1),([97,116],3)]),(6,0,3,[]),(7,0,0,[]),(4,4,0,[])],[[108,97,116,101],[116,97,115,107],[98,111,111,109]],[f,h,j,m,o,q,s,u])).bind fun a=>
 some (a.1,a.2.1,a.2.2.1,a.2.2.2))))))))))))))))))))))
def G5 (N:Nat):au:=(G13 N).put 5 s5 (F5 N)
theorem K5 (N:Nat):aF cx (G5 N):=(K13 N).put (E':=(aid N)) (((K13 N).on s5).af N 0 7 f5.kE f5.kF) 5 s5 (F5 N) (funext fun a=>by rw[F5,f5.oI N N];kernel_rfl)
def s6:dz:=⟨[.c (.sl (.int .i64) .bB),.c (.sl .bool .bB)],[(true,(aL bY)),(false,[.int .i64])],0,[(0,1,26,.bool),(0,17,9,.str),(0,20,9,.str)],[],[(0,30,bT),(0,73,dN)],[]⟩
def aeB (N:Nat):au:=(G5 N).on s6
def f6.kE:bJ:=tm [(0,.c (.sl (.int .i64) .bB)),(1,.c (.sl .bool .bB)),(4,.c (.ptr 0 4 0 0 0)),(6,.c (.ptr 0 6 1 0 0)),(32,.c (.sl (.int .i64) .bB)),(33,.c (.int .i64)),(34,.c (.int .i64))] [] [(0,4,.box 0 [.nil true,.nil true,.nil true]),(0,6,.box 1 [.sl bT .full,.nil true,.sl dN (.app 2)])] 1 [2] 3
def f6.kF:bG:=[(.exit 0,tm [(4,.c (.ptr 0 4 0 0 0)),(6,.c (.ptr 0 6 1 0 0))] [] [(0,4,.box 0 [.nil true,.nil true,.nil true]),(0,6,.box 1 [.sl bT .full,.nil true,.sl dN (.app 2)])] 1 [2] 3)]
def f6.ct (N:Nat):Nat→(List (Int))×(List (Bool))×(List (Int))×Int×Int×(List (aI))×List (Func)→Option (((List (aI))×List (Func)))
 |0,_=>none
 |k+1,(c,h,i,j,a,l,b)=>(cond (decide (a<j))
 ((idx i a).bind fun n=>
 (cond (decide (a>0))
 ((TM N a).bind fun o=>
 (aM (!decide ((([102].length+o.length:Nat):Int)>IntKind.i64.max))
 ((idx h (ah (a-1))).bind fun r=>
 ((cond r
 (some [114,101,99,111,118,101,114,32,49,32,50,59,32])
 (some ([]:List UInt8))).bind fun m=>
 ((cond (decide ((ah (a+1))<(c.length:Int)))
 ((TM N (ah (a+1))).bind fun d=>
 (aM (!decide ((([100,101,102,101,114,32].length+d.length:Nat):Int)>IntKind.i64.max))
 (aM (!decide (((([100,101,102,101,114,32]++d).length+[59,32].length:Nat):Int)>IntKind.i64.max))
 (aM (!decide (((m.length+(([100,101,102,101,114,32]++d)++[59,32]).length:Nat):Int)>IntKind.i64.max))
 (some (m++(([100,101,102,101,114,32]++d)++[59,32])))))))
 (some m)).bind fun p=>
 ((TM N n).bind fun e=>
 (aM (!decide ((([105,110,116,32,48,32].length+e.length:Nat):Int)>IntKind.i64.max))
 (aM (!decide (((([105,110,116,32,48,32]++e).length+[59,32,112,97,110,105,99,32,48,59,32,114,101,116,117,114,110,32,45,49].length:Nat):Int)>IntKind.i64.max))
 (aM (!decide (((p.length+(([105,110,116,32,48,32]++e)++[59,32,112,97,110,105,99,32,48,59,32,114,101,116,117,114,110,32,45,49]).length:Nat):Int)>IntKind.i64.max))
 ((yM N ((p++(([105,110,116,32,48,32]++e)++[59,32,112,97,110,105,99,32,48,59,32,114,101,116,117,114,110,32,45,49])),0)).bind fun s=>
 ((KL N (([102]++o),[110,32,48,32,111,110,32,49,32,107,32,48],0,(-1),s)).bind fun t=>
 (aM (room (b.length+1) 128)
 (f6.ct N k (c,h,i,j,(ah (a+1)),l,(b++[t])))))))))))))))
 ((cond (decide ((ah (a+1))<(c.length:Int)))
 ((TM N (ah (a+1))).bind fun f=>
 (aM (!decide ((([100,101,102,101,114,32].length+f.length:Nat):Int)>IntKind.i64.max))
 (aM (!decide (((([100,101,102,101,114,32]++f).length+[59,32].length:Nat):Int)>IntKind.i64.max))
 (aM (!decide (((([]:List UInt8).length+(([100,101,102,101,114,32]++f)++[59,32]).length:Nat):Int)>IntKind.i64.max))
 (some (([]:List UInt8)++(([100,101,102,101,114,32]++f)++[59,32])))))))
 (some ([]:List UInt8))).bind fun q=>
 ((TM N n).bind fun g=>
 (aM (!decide ((([105,110,116,32,48,32].length+g.length:Nat):Int)>IntKind.i64.max))
 (aM (!decide (((([105,110,116,32,48,32]++g).length+[59,32,112,97,110,105,99,32,48,59,32,114,101,116,117,114,110,32,45,49].length:Nat):Int)>IntKind.i64.max))
 (aM (!decide (((q.length+(([105,110,116,32,48,32]++g)++[59,32,112,97,110,105,99,32,48,59,32,114,101,116,117,114,110,32,45,49]).length:Nat):Int)>IntKind.i64.max))
 ((yM N ((q++(([105,110,116,32,48,32]++g)++[59,32,112,97,110,105,99,32,48,59,32,114,101,116,117,114,110,32,45,49])),0)).bind fun u=>
 ((KL N ([109,97,105,110],[110,32,48,32,111,110,32,49,32,107,32,48],0,(-1),u)).bind fun v=>
 (aM (room (b.length+1) 128)
 (f6.ct N k (c,h,i,j,(ah (a+1)),l,(b++[v])))))))))))))
 (some (l,b)))
theorem f6.oI (N:Nat):∀ k,f6.ct N k=lp (aeB N) 0 7 (tq 6) 7 f6.kE f6.kF k
 |0=>rfl
 |k+1=>funext fun⟨a,b,c,d,e,f,g⟩=>by rw[f6.ct,f6.oI N k];kernel_rfl
def aie (N:Nat):au:=(aeB N).af N 0 7 f6.kE f6.kF
def F6 (N:Nat):(List (Int))×List (Bool)→Option (fS Int)
 |(a,c)=>((cond (decide ((a.length:Int)<1))
 (some true)
 (cond (decide ((a.length:Int)>20))
 (some true)
 (some ((c.length:Int) != (ah ((a.length:Int)-1)))))).bind fun e=>
 (cond e
 (some ([],[],[],2))
 ((f6.ct N N (a,c,a,(a.length:Int),0,[(2,0,0,[]),(1,0,0,[])],[])).bind fun d=>
 ((Yt N (d.1,[],d.2)).bind fun b=>
 some (b.1,b.2.1,b.2.2.1,b.2.2.2)))))
def G6 (N:Nat):au:=(G5 N).put 6 s6 (F6 N)
theorem K6 (N:Nat):aF cx (G6 N):=(K5 N).put (E':=(aie N)) (((K5 N).on s6).af N 0 7 f6.kE f6.kF) 6 s6 (F6 N) (funext fun⟨a,b⟩=>by rw[F6,f6.oI N N];kernel_rfl)
def s8:dz:=sg [.c (.int .u8),.c (.int .i64),.c (.int .i64)] [(true,(aL aV))]
def F8 (N:Nat):Int×Int×Int→Option (p4)
 |(a,b,c)=>some (a,b,c,0)
def G8 (N:Nat):au:=(G6 N).put 8 s8 (F8 N)
theorem K8 (N:Nat):aF cx (G8 N):=(K6 N).put (E':=((G6 N).on s8)) ((K6 N).on s8) 8 s8 (F8 N) (funext fun⟨a,b,c⟩=>by rw[F8];kernel_rfl)
def s9:dz:=sg [.c (.sl gF .bB),.c (.sl gF .bB)] [(false,[.bool])]
def aeC (N:Nat):au:=(G8 N).on s9
def f9.eM:bJ:=tm [(0,.c (.sl gF .bB)),(1,.c (.sl gF .bB)),(5,.c (.int .i64))] [] [] 1 [] 0
def f9.eN:bG:=[(.ret,tm [(4,.c (.bool))] [] [] 1 [] 0),(.exit 0,tm [] [] [] 1 [] 0)]
def f9.bz (N:Nat):Nat→(List (cI))×(List (cI))×Int→Option ((Bool)⊕(Unit))
 |0,_=>none
 |k+1,(b,c,a)=>(cond (decide (a<(b.length:Int)))
 ((idx b a).bind fun d=>
 ((idx c a).bind fun e=>
 (cond (!(d.1==e.1&&(d.2==e.2&&true)))
 (some (Sum.inl false))
 (f9.bz N k (b,c,(ah (a+1)))))))
 (some (Sum.inr ())))
theorem f9.hU (N:Nat):∀ k,f9.bz N k=lp (aeC N) 0 6 (tq 9) 6 f9.eM f9.eN k
 |0=>rfl
 |k+1=>funext fun⟨a,b,c⟩=>by rw[f9.bz,f9.hU N k];kernel_rfl
def aif (N:Nat):au:=(aeC N).af N 0 6 f9.eM f9.eN
def F9 (N:Nat):(List (cI))×List (cI)→Option (Bool)
 |(a,b)=>(cond ((a.length:Int) != (b.length:Int))
 (some false)
 ((f9.bz N N (a,b,0)).bind fun c=>
 (match c with
 |.inl d=>some d
 |.inr e=>some true)))
def G9 (N:Nat):au:=(G8 N).put 9 s9 (F9 N)
theorem K9 (N:Nat):aF cx (G9 N):=(K8 N).put (E':=(aif N)) (((K8 N).on s9).af N 0 6 f9.eM f9.eN) 9 s9 (F9 N) (funext fun⟨a,b⟩=>by rw[F9,f9.hU N N];kernel_rfl)
def s20:dz:=sg [.c (.sl aV .bB),.c (.sl aV .bB)] [(false,[.bool])]
def Yu (N:Nat):au:=(G9 N).on s20
def f20.eM:bJ:=tm [(0,.c (.sl aV .bB)),(1,.c (.sl aV .bB)),(5,.c (.int .i64))] [] [] 1 [] 0
def f20.eN:bG:=[(.ret,tm [(4,.c (.bool))] [] [] 1 [] 0),(.exit 0,tm [] [] [] 1 [] 0)]
def f20.bz (N:Nat):Nat→(List (Instr))×(List (Instr))×Int→Option ((Bool)⊕(Unit))
 |0,_=>none
 |k+1,(d,e,a)=>(cond (decide (a<(d.length:Int)))
 ((idx d a).bind fun b=>
 ((idx e a).bind fun c=>
 (cond (!(b.1==c.1&&(b.2.1==c.2.1&&(b.2.2.1==c.2.2.1&&(b.2.2.2==c.2.2.2&&true)))))
 (some (Sum.inl false))
 (f20.bz N k (d,e,(ah (a+1)))))))
 (some (Sum.inr ())))
theorem f20.hU (N:Nat):∀ k,f20.bz N k=lp (Yu N) 0 6 (tq 20) 6 f20.eM f20.eN k
 |0=>rfl
 |k+1=>funext fun⟨a,b,c⟩=>by rw[f20.bz,f20.hU N k];kernel_rfl
def aeD (N:Nat):au:=(Yu N).af N 0 6 f20.eM f20.eN
def F20 (N:Nat):(List (Instr))×List (Instr)→Option (Bool)
 |(a,b)=>(cond ((a.length:Int) != (b.length:Int))
 (some false)
 ((f20.bz N N (a,b,0)).bind fun c=>
 (match c with
 |.inl d=>some d
 |.inr e=>some true)))
def G20 (N:Nat):au:=(G9 N).put 20 s20 (F20 N)
theorem K20 (N:Nat):aF cx (G20 N):=(K9 N).put (E':=(aeD N)) (((K9 N).on s20).af N 0 6 f20.eM f20.eN) 20 s20 (F20 N) (funext fun⟨a,b⟩=>by rw[F20,f20.hU N N];kernel_rfl)
def s10:dz:=⟨[.agg (kg bY),.c (.int .i64),.c (.sl aV .bB)],[(false,[.bool])],0,[(0,1,6,.bool)],[],[],[]⟩
def F10 (N:Nat):fS (Int×List (Instr))→Option (Bool)
 |(g,h,a,b,c)=>((cond (decide (b<(a.length:Int)))
 ((idx a b).bind fun d=>
 ((F20 N (d.2.2.2.2.1,c)).bind fun e=>
 some e))
 (some false)).bind fun f=>
 some f)
def G10 (N:Nat):au:=(G20 N).put 10 s10 (F10 N)
theorem K10 (N:Nat):aF cx (G10 N):=(K20 N).put (E':=((G20 N).on s10)) ((K20 N).on s10) 10 s10 (F10 N) (funext fun⟨a,b,c,d,e⟩=>by rw[F10];kernel_rfl)
def s4:dz:=⟨[],[(false,[.bool])],0,[(0,4,69,.bool)],[],[(0,14,(.int .i64)),(0,19,(.int .i64)),(0,20,.bool)],[]⟩
def F4 (N:Nat):Unit→Option (Bool)
 |()=>((F5 N []).bind fun g=>
 ((F5 N [24]).bind fun b=>
 ((F6 N ([1,2,3],[true,false])).bind fun a=>
 ((cond (g.2.2.2 != 0)
 (some true)
 (cond (b.2.2.2 != 0)
 (some true)
 (cond (a.2.2.2 != 0)
 (some true)
 (cond ((g.2.2.1.length:Int) != 8)
 (some true)
 (cond ((b.2.2.1.length:Int) != 8)
 (some true)
 (cond ((a.2.2.1.length:Int) != 3)
 (some true)
 ((idx g.2.2.1 0).bind fun i=>
 (cond ((i.2.2.2.2.1.length:Int) != 10)
 (some true)
 ((idx b.2.2.1 0).bind fun j=>
 some ((j.2.2.2.2.1.length:Int) != 12)))))))))).bind fun l=>
 (cond l
 (some false)
 ((F8 N (34,(-1),0)).bind fun h=>
 ((idx b.2.2.1 0).bind fun m=>
 ((idx m.2.2.2.2.1 9).bind fun c=>
 ((F8 N (24,0,0)).bind fun d=>
 (cond (c.1==d.1&&(c.2.1==d.2.1&&(c.2.2.1==d.2.2.1&&(c.2.2.2==d.2.2.2&&true))))
 ((idx b.2.2.1 0).bind fun n=>
 ((idx n.2.2.2.2.1 10).bind fun e=>
 ((F8 N (25,0,1)).bind fun f=>
 (cond (e.1==f.1&&(e.2.1==f.2.1&&(e.2.2.1==f.2.2.1&&(e.2.2.2==f.2.2.2&&true))))
 ((idx b.2.2.1 0).bind fun o=>
 ((F9 N (o.2.2.2.2.2.1,[(0,0),(10,8),(11,0)])).bind fun p=>
 (cond p
 ((F8 N (26,1,0)).bind fun q=>
 ((F8 N (1,0,1)).bind fun r=>
 ((F8 N (28,0,0)).bind fun s=>
 ((F10 N (a.1,a.2.1,a.2.2.1,0,[q,r,s,h])).bind fun t=>
 (cond t
 ((F8 N (29,1,2)).bind fun u=>
 ((F8 N (26,2,0)).bind fun v=>
 ((F8 N (1,0,2)).bind fun w=>
 ((F8 N (28,0,0)).bind fun x=>
 ((F10 N (a.1,a.2.1,a.2.2.1,1,[u,v,w,x,h])).bind fun y=>
 (cond y
 ((idx a.2.2.1 1).bind fun z=>
 some (z.1==[102,49]))
 (some false)))))))
 (some false))))))
 (some false))))
 (some false)))))
 (some false)))))))))))
def G4 (N:Nat):au:=(G10 N).put 4 s4 (F4 N)
theorem K4 (N:Nat):aF cx (G4 N):=(K10 N).put (E':=((G10 N).on s4)) ((K10 N).on s4) 4 s4 (F4 N) (funext fun ()=>by rw[F4];kernel_rfl)
def VW:dz:=⟨[.agg (kg cQ)],[(false,[.int .i64])],0,[(0,1,19,.bool)],[],[],[]⟩
def Fz (N:Nat):(List (Int))×Int→Option (Int)
 |(a,b)=>((cond (decide ((a.length:Int)>200000))
 (some true)
 (cond (decide (b<0))
 (some true)
 (some (decide (b>(a.length:Int)))))).bind fun c=>
 (cond c
 (some 8)
 (some 0)))
def aaT (N:Nat):au:=(G4 N).put 100 VW (Fz N)
theorem aeF (N:Nat):aF cx (aaT N):=(K4 N).put (E':=((G4 N).on VW)) ((K4 N).on VW) 100 VW (Fz N) (funext fun⟨a,b⟩=>by rw[Fz];kernel_rfl)
def s61:dz:=⟨[.agg (aL cQ),.c (.int .u64)],[(true,(aL cQ)),(false,[.int .u64]),(false,[.int .i64])],0,[(0,15,49,.bool)],[],[],[]⟩
def Yv (N:Nat):au:=(aaT N).on s61
def f61.Bm:bJ:=tm [(1,.c (.int .u64)),(2,.c (.ptr 0 2 0 0 0)),(4,.c (.ptr 0 4 1 0 0)),(8,.c (.int .u64)),(9,.c (.int .i64))] [] [(0,2,.box 0 (aL cQ)),(0,4,.box 1 [.nil true,.int .i64])] 1 [] 2
def f61.Bn:bG:=[(.ret,tm [(4,.c (.ptr 0 4 0 0 0)),(5,.c (.int .u64)),(6,.c (.int .i64))] [] [(0,4,.box 0 [.nil true,.int .i64])] 1 [] 1),(.exit 0,tm [(1,.c (.int .u64)),(2,.c (.ptr 0 2 0 0 0)),(4,.c (.ptr 0 4 1 0 0)),(8,.c (.int .u64))] [] [(0,2,.box 0 (aL cQ)),(0,4,.box 1 [.nil true,.int .i64])] 1 [] 2)]
def f61.lN (N:Nat):Nat→Int×Int×Int×dQ→Option ((Int×Int×Int)⊕(Int×Int×dQ))
 |0,_=>none
 |k+1,(e,f,a,c,d,g)=>(cond (d==(c.length:Int))
 (some (Sum.inl (0,24,0)))
 ((idx c d).bind fun b=>
 ((cond (a==9)
 (cond (decide (b>1))
 (some true)
 (cond (decide (a>0))
 (some (b==0))
 (some false)))
 (cond (decide (a>0))
 (some (b==0))
 (some false))).bind fun h=>
 (cond h
 (some (Sum.inl (0,12,0)))
 (aM (!decide ((ah (7*a))<0))
 (cond (decide (b<128))
 (some (Sum.inr (e,(zk .u64 f (cg ((cg (qv .u8 b 127))*(2 ^ min (Int.toNat (ah (7*a))) 64)))),c,(ah (d+1)),g)))
 (f61.lN N k (e,(zk .u64 f (cg ((cg (qv .u8 b 127))*(2 ^ min (Int.toNat (ah (7*a))) 64)))),(ah (a+1)),c,(ah (d+1)),g))))))))
theorem f61.IB (N:Nat):∀ k,f61.lN N k=lp (Yv N) 0 8 (tq 61) 8 f61.Bm f61.Bn k
 |0=>rfl
 |k+1=>funext fun⟨a,b,c,d,e,f⟩=>by rw[f61.lN,f61.IB N k];kernel_rfl
def aeG (N:Nat):au:=(Yv N).af N 0 8 f61.Bm f61.Bn
def vz (N:Nat):(List (Int))×Int×Int→Option ((List (Int))×Int×Int×Int)
 |(c,d,f)=>((Fz N (c,d)).bind fun e=>
 (cond (e != 0)
 (some ([],0,0,e))
 ((f61.lN N N (f,0,0,c,d,0)).bind fun g=>
 (match g with
 |.inl b=>some ([],b.2.2,b.1,b.2.1)
 |.inr a=>(cond (decide (a.2.1>a.1))
 (some ([],0,0,4))
 (some (a.2.2.1,a.2.2.2.1,a.2.1,0)))))))
def G61 (N:Nat):au:=(aaT N).put 61 s61 (vz N)
theorem K61 (N:Nat):aF cx (G61 N):=(aeF N).put (E':=(aeG N)) (((aeF N).on s61).af N 0 8 f61.Bm f61.Bn) 61 s61 (vz N) (funext fun⟨a,b,c⟩=>by rw[vz,f61.IB N N];kernel_rfl)
def s33:dz:=sg [.box (aL de),.c (.int .i64)] [(true,(aL de)),(false,[.int .i64])]
def Gs (N:Nat):ff Int→Option (ff Int)
 |(b,c,d,e)=>(cond (d != 0)
 (some (b,c,d,0))
 ((vz N (b,c,(cg e))).bind fun a=>
 some (a.1,a.2.1,a.2.2.2,(ah a.2.2.1))))
def G33 (N:Nat):au:=(G61 N).put 33 s33 (Gs N)
theorem K33 (N:Nat):aF cx (G33 N):=(K61 N).put (E':=((G61 N).on s33)) ((K61 N).on s33) 33 s33 (Gs N) (funext fun⟨a,b,c,d⟩=>by rw[Gs];kernel_rfl)
def VX:dz:=⟨[.c (.int .i64)],[(false,[.int .i64])],0,[(0,8,4,.bool),(0,6,4,.bool),(0,4,4,.bool)],[],[],[]⟩
def R5 (N:Nat):Int→Option (Int)
 |a=>((cond (a==1)
 (some true)
 ((cond (a==2)
 (some true)
 ((cond (a==4)
 (some true)
 (some (a==8))).bind fun b=>
 some b)).bind fun c=>
 some c)).bind fun d=>
 (cond d
 (some 0)
 (some 2)))
def aaU (N:Nat):au:=(G33 N).put 102 VX (R5 N)
theorem aeH (N:Nat):aF cx (aaU N):=(K33 N).put (E':=((G33 N).on VX)) ((K33 N).on VX) 102 VX (R5 N) (funext fun a=>by rw[R5];kernel_rfl)
def VY:dz:=sg [.c (.sl (.int .i64) .bB)] [(false,[.int .i64])]
def R6 (N:Nat):au:=(aaU N).on VY
def f101.tS:bJ:=tm [(5,.c (.sl (.int .i64) .bB)),(6,.c (.int .i64)),(7,.c (.int .i64))] [] [] 1 [] 0
def f101.tT:bG:=[(.ret,tm [(2,.c (.int .i64))] [] [] 1 [] 0),(.exit 0,tm [] [] [] 1 [] 0)]
def f101.lM (N:Nat):Nat→(List (Int))×Int×Int→Option ((Int)⊕(Unit))
 |0,_=>none
 |k+1,(b,c,a)=>(cond (decide (a<c))
 ((idx b a).bind fun d=>
 (cond (d != 0)
 (some (Sum.inl d))
 (f101.lM N k (b,c,(ah (a+1))))))
 (some (Sum.inr ())))
theorem f101.A7 (N:Nat):∀ k,f101.lM N k=lp (R6 N) 0 3 (tq 101) 3 f101.tS f101.tT k
 |0=>rfl
 |k+1=>funext fun⟨a,b,c⟩=>by rw[f101.lM,f101.A7 N k];kernel_rfl
def aaV (N:Nat):au:=(R6 N).af N 0 3 f101.tS f101.tT
def Ox (N:Nat):List (Int)→Option (Int)
 |a=>((f101.lM N N (a,(a.length:Int),0)).bind fun b=>
 (match b with
 |.inl c=>some c
 |.inr d=>some 0))
def aaW (N:Nat):au:=(aaU N).put 101 VY (Ox N)
theorem aeI (N:Nat):aF cx (aaW N):=(aeH N).put (E':=(aaV N)) (((aeH N).on VY).af N 0 3 f101.tS f101.tT) 101 VY (Ox N) (funext fun a=>by rw[Ox,f101.A7 N N];kernel_rfl)
def s62:dz:=sg [.agg (aL cQ),.c (.int .i64)] [(true,(aL cQ)),(false,[.int .u64]),(false,[.int .i64])]
def Yw (N:Nat):au:=(aaW N).on s62
def f62.rM:bJ:=tm [(1,.c (.int .i64)),(2,.c (.ptr 0 2 0 0 0)),(4,.c (.ptr 0 4 1 0 0)),(8,.c (.int .u64)),(38,.c (.sl (.int .u8) .d)),(39,.c (.int .i64)),(40,.c (.int .i64))] [] [(0,2,.box 0 (aL cQ)),(0,4,.box 1 [.nil true,.int .i64])] 1 [] 2
def f62.rN:bG:=[(.exit 0,tm [(1,.c (.int .i64)),(2,.c (.ptr 0 2 0 0 0)),(4,.c (.ptr 0 4 1 0 0)),(8,.c (.int .u64))] [] [(0,2,.box 0 (aL cQ)),(0,4,.box 1 [.nil true,.int .i64])] 1 [] 2)]
def f62.fM (N:Nat):Nat→Int×Int×ff dQ→Option ((Int×Int×dQ))
 |0,_=>none
 |k+1,(b,c,d,e,a,f,g,h)=>(cond (decide (a<e))
 ((idx d a).bind fun i=>
 (aM (!decide ((ah (8*a))<0))
 (f62.fM N k (b,(zk .u64 c (cg ((cg i)*(2 ^ min (Int.toNat (ah (8*a))) 64)))),d,e,(ah (a+1)),f,g,h))))
 (some (b,c,f,g,h)))
theorem f62.ya (N:Nat):∀ k,f62.fM N k=lp (Yw N) 0 11 (tq 62) 11 f62.rM f62.rN k
 |0=>rfl
 |k+1=>funext fun⟨a,b,c,d,e,f,g,h⟩=>by rw[f62.fM,f62.ya N k];kernel_rfl
def aeJ (N:Nat):au:=(Yw N).af N 0 11 f62.rM f62.rN
def F62 (N:Nat):dQ→Option ((List (Int))×Int×Int×Int)
 |(c,a,b)=>((Fz N (c,a)).bind fun f=>
 ((R5 N b).bind fun g=>
 ((Ox N [f,g]).bind fun e=>
 (cond (e != 0)
 (some ([],0,0,e))
 (cond (decide (b>(ah ((c.length:Int)-a))))
 (some ([],0,0,24))
 (aM (decide (0≤a))
 (aM (decide (0≤(ah (a+b))))
 (aM (decide (a.toNat≤(Int.toNat (ah (a+b))))&&decide ((Int.toNat (ah (a+b)))≤c.length))
 ((f62.fM N N (b,0,((c.drop a.toNat).take ((Int.toNat (ah (a+b)))-a.toNat)),(((c.drop a.toNat).take ((Int.toNat (ah (a+b)))-a.toNat)).length:Int),0,c,a,0)).bind fun d=>
 some (d.2.2.1,(ah (d.2.2.2.1+d.1)),d.2.1,0))))))))))
def G62 (N:Nat):au:=(aaW N).put 62 s62 (F62 N)
theorem K62 (N:Nat):aF cx (G62 N):=(aeI N).put (E':=(aeJ N)) (((aeI N).on s62).af N 0 11 f62.rM f62.rN) 62 s62 (F62 N) (funext fun⟨a,b,c⟩=>by rw[F62,f62.ya N N];kernel_rfl)
def s64:dz:=⟨[.agg (aL cQ),.c (.int .i64)],[(true,(aL cQ)),(false,[.str]),(false,[.int .i64])],0,[(0,2,22,.bool),(0,3,7,(.int .i64)),(0,9,47,.bool),(0,10,7,(.int .i64))],[],[],[]⟩
def F64 (N:Nat):dQ→Option ((List (Int))×Int×(List UInt8)×Int)
 |(c,d,b)=>((Fz N (c,d)).bind fun e=>
 ((cond (e==0)
 (cond (decide (b<0))
 (some true)
 (some (decide (b>200000))))
 (some false)).bind fun h=>
 ((cond h
 (some 2)
 (some e)).bind fun f=>
 (cond (f != 0)
 (some ([],0,([]:List UInt8),f))
 ((vz N (c,d,(cg b))).bind fun a=>
 ((cond (a.2.2.2==0)
 (some (decide (a.2.2.1>(cg (ah ((a.1.length:Int)-a.2.1))))))
 (some false)).bind fun i=>
 ((cond i
 (some 24)
 (some a.2.2.2)).bind fun g=>
 (cond (g != 0)
 (some ([],0,([]:List UInt8),g))
 (aM (decide (0≤a.2.1))
 (aM (decide (0≤(ah (a.2.1+(ah a.2.2.1)))))
 (aM (decide (a.2.1.toNat≤(Int.toNat (ah (a.2.1+(ah a.2.2.1)))))&&decide ((Int.toNat (ah (a.2.1+(ah a.2.2.1))))≤a.1.length))
 (some (a.1,(ah (a.2.1+(ah a.2.2.1))),(((a.1.drop a.2.1.toNat).take ((Int.toNat (ah (a.2.1+(ah a.2.2.1))))-a.2.1.toNat)).map fun (n:Int)=>UInt8.ofNat n.toNat),0)))))))))))))
def G64 (N:Nat):au:=(G62 N).put 64 s64 (F64 N)
theorem K64 (N:Nat):aF cx (G64 N):=(K62 N).put (E':=((G62 N).on s64)) ((K62 N).on s64) 64 s64 (F64 N) (funext fun⟨a,b,c⟩=>by rw[F64];kernel_rfl)
def s35:dz:=sg [.box (aL de),.c (.int .i64)] [(true,(aL de)),(false,[.str])]
def Yx (N:Nat):ff Int→Option (ff (List UInt8))
 |(b,c,d,e)=>(cond (d != 0)
 (some (b,c,d,([]:List UInt8)))
 ((F64 N (b,c,e)).bind fun a=>
 some (a.1,a.2.1,a.2.2.2,a.2.2.1)))
def G35 (N:Nat):au:=(G64 N).put 35 s35 (Yx N)
theorem K35 (N:Nat):aF cx (G35 N):=(K64 N).put (E':=((G64 N).on s35)) ((K64 N).on s35) 35 s35 (Yx N) (funext fun⟨a,b,c,d⟩=>by rw[Yx];kernel_rfl)
def s63:dz:=⟨[.box (aL de),.c (.int .i64)],[(true,(aL de)),(false,[.sl cW .d])],0,[],[],[(0,19,cW)],[]⟩
def Yy (N:Nat):au:=(G35 N).on s63
def f63.kI:bJ:=tm [(0,.c (.ptr 0 0 0 0 0)),(5,.c (.sl cW (.app 1))),(9,.c (.int .i64)),(10,.c (.int .i64))] [[(0,.c (.ptr 0 0 0 0 0))]] [(0,0,.box 0 (aL de))] 2 [1] 2
def f63.kJ:bG:=[(.exit 0,tm [(5,.c (.sl cW (.app 1)))] [[(0,.c (.ptr 0 0 0 0 0))]] [(0,0,.box 0 (aL de))] 2 [1] 2)]
def f63.cB (N:Nat):Nat→(List (Field))×Int×Int×dQ→Option (((List (Field))×dQ))
 |0,_=>none
 |k+1,(c,d,e,f,g,h)=>(cond (decide (e<d))
 ((Yx N (f,g,h,16)).bind fun a=>
 ((Gs N (a.1,a.2.1,a.2.2.1,32)).bind fun b=>
 (aM (room (c.length+1) 24)
 (f63.cB N k ((c++[(a.2.2.2,b.2.2.2)]),d,(ah (e+1)),b.1,b.2.1,b.2.2.1)))))
 (some (c,f,g,h)))
theorem f63.oK (N:Nat):∀ k,f63.cB N k=lp (Yy N) 0 4 (tq 63) 4 f63.kI f63.kJ k
 |0=>rfl
 |k+1=>funext fun⟨a,b,c,d,e,f⟩=>by rw[f63.cB,f63.oK N k];kernel_rfl
def aeK (N:Nat):au:=(Yy N).af N 0 4 f63.kI f63.kJ
def VZ (N:Nat):ff Int→Option (ff (List (Field)))
 |(c,d,e,f)=>((Gs N (c,d,e,f)).bind fun a=>
 ((f63.cB N N ([],a.2.2.2,0,a.1,a.2.1,a.2.2.1)).bind fun b=>
 some (b.2.1,b.2.2.1,b.2.2.2,b.1)))
def G63 (N:Nat):au:=(G35 N).put 63 s63 (VZ N)
theorem K63 (N:Nat):aF cx (G63 N):=(K35 N).put (E':=(aeK N)) (((K35 N).on s63).af N 0 4 f63.kI f63.kJ) 63 s63 (VZ N) (funext fun⟨a,b,c,d⟩=>by rw[VZ,f63.oK N N];kernel_rfl)
def s34:dz:=⟨[.box (aL de)],[(true,(aL de)),(true,(aL bT))],0,[(0,10,30,.bool)],[],[],[]⟩
def F34 (N:Nat):dQ→Option (ff Ru)
 |(g,h,i)=>(cond (i==0)
 ((F62 N (g,h,1)).bind fun a=>
 ((cond ((JA a.2.2.1)==4)
 (some true)
 (some ((JA a.2.2.1)==7))).bind fun j=>
 (cond j
 ((Gs N (a.1,a.2.1,a.2.2.2,32)).bind fun b=>
 some (b.1,b.2.1,b.2.2.1,(JA a.2.2.1),b.2.2.2,0,[]))
 (cond ((JA a.2.2.1)==6)
 ((Gs N (a.1,a.2.1,a.2.2.2,32)).bind fun c=>
 ((Gs N (c.1,c.2.1,c.2.2.1,16)).bind fun d=>
 some (d.1,d.2.1,d.2.2.1,(JA a.2.2.1),c.2.2.2,d.2.2.2,[])))
 (cond ((JA a.2.2.1)==5)
 ((VZ N (a.1,a.2.1,a.2.2.2,8)).bind fun e=>
 some (e.1,e.2.1,e.2.2.1,(JA a.2.2.1),0,0,e.2.2.2))
 (some (a.1,a.2.1,a.2.2.2,(JA a.2.2.1),0,0,[])))))))
 (cond ((0:Int)==7)
 ((Gs N (g,h,i,32)).bind fun f=>
 some (f.1,f.2.1,f.2.2.1,0,f.2.2.2,0,[]))
 (some (g,h,i,0,0,0,[]))))
def G34 (N:Nat):au:=(G63 N).put 34 s34 (F34 N)
theorem K34 (N:Nat):aF cx (G34 N):=(K63 N).put (E':=((G63 N).on s34)) ((K63 N).on s34) 34 s34 (F34 N) (funext fun⟨a,b,c⟩=>by rw[F34];kernel_rfl)
def s65:dz:=sg [.agg (aL cQ)] [(true,(aL cQ)),(false,[.int .i64]),(false,[.int .i64])]
def zn (N:Nat):(List (Int))×Int→Option (ff Int)
 |(b,c)=>((vz N (b,c,18446744073709551615)).bind fun a=>
 some (a.1,a.2.1,(Ir .i64 (ah (Int.fdiv a.2.2.1 2)) (ah (0-(ah (qv .u64 a.2.2.1 1))))),a.2.2.2))
def G65 (N:Nat):au:=(G34 N).put 65 s65 (zn N)
theorem K65 (N:Nat):aF cx (G65 N):=(K34 N).put (E':=((G34 N).on s65)) ((K34 N).on s65) 65 s65 (zn N) (funext fun⟨a,b⟩=>by rw[zn];kernel_rfl)
def V0:dz:=sg [.c (.int .i64)] [(true,(aL cQ)),(true,(aL aV)),(false,[.int .i64])]
def gM (N:Nat):Int→Option ((List (Int))×Int×Fu Int)
 |a=>some ([],0,0,0,0,0,a)
def aaZ (N:Nat):au:=(G65 N).put 103 V0 (gM N)
theorem aeL (N:Nat):aF cx (aaZ N):=(K65 N).put (E':=((G65 N).on V0)) ((K65 N).on V0) 103 V0 (gM N) (funext fun a=>by rw[gM];kernel_rfl)
def V3:dz:=sg [.agg (kg cQ)] [(false,[.int .i64]),(false,[.int .i64])]
def KW (N:Nat):(List (Int))×Int→Option (Int×Int)
 |(a,b)=>((Fz N (a,b)).bind fun c=>
 (cond (c != 0)
 (some (0,c))
 (some ((ah ((a.length:Int)-b)),0))))
def aa0 (N:Nat):au:=(aaZ N).put 104 V3 (KW N)
theorem aeM (N:Nat):aF cx (aa0 N):=(aeL N).put (E':=((aaZ N).on V3)) ((aeL N).on V3) 104 V3 (KW N) (funext fun⟨a,b⟩=>by rw[KW];kernel_rfl)
def s66:dz:=⟨[.agg (aL cQ)],[(true,(aL cQ)),(true,(aL aV)),(false,[.int .i64])],0,[(0,24,71,.bool),(0,100024,71,.bool)],[(0,18),(0,100018)],[],[]⟩
def F66 (N:Nat):(List (Int))×Int→Option ((List (Int))×Int×Fu Int)
 |(Z,a0)=>((KW N (Z,a0)).bind fun a1=>
 (cond (a1.2 != 0)
 ((gM N a1.2).bind fun r=>
 some (r.1,r.2.1,r.2.2.1,r.2.2.2.1,r.2.2.2.2.1,r.2.2.2.2.2.1,r.2.2.2.2.2.2))
 (cond (a1.1==0)
 ((gM N 24).bind fun s=>
 some (s.1,s.2.1,s.2.2.1,s.2.2.2.1,s.2.2.2.2.1,s.2.2.2.2.2.1,s.2.2.2.2.2.2))
 ((idx Z a0).bind fun a=>
 ((RD N a).bind fun b=>
 (cond (decide (b.2.2.2.2.2.2.2.2.2.2.2.2<0))
 ((gM N 12).bind fun t=>
 some (t.1,t.2.1,t.2.2.1,t.2.2.2.1,t.2.2.2.2.1,t.2.2.2.2.2.1,t.2.2.2.2.2.2))
 (cond (decide (0<b.2.2.2.2.2.2.2.2.2.2.2.2))
 (cond (decide (b.1<0))
 ((zn N (Z,(ah (a0+1)))).bind fun c=>
 (cond (c.2.2.2 != 0)
 ((gM N c.2.2.2).bind fun u=>
 some (u.1,u.2.1,u.2.2.1,u.2.2.2.1,u.2.2.2.2.1,u.2.2.2.2.2.1,u.2.2.2.2.2.2))
 (cond (decide (1<b.2.2.2.2.2.2.2.2.2.2.2.2))
 (cond (decide (b.2.2.2.2.1<0))
 ((zn N (c.1,c.2.1)).bind fun e=>
 (cond (e.2.2.2 != 0)
 ((gM N e.2.2.2).bind fun v=>
 some (v.1,v.2.1,v.2.2.1,v.2.2.2.1,v.2.2.2.2.1,v.2.2.2.2.2.1,v.2.2.2.2.2.2))
 (cond (decide (2<b.2.2.2.2.2.2.2.2.2.2.2.2))
 (cond (decide (b.2.2.2.2.2.2.2.2.1<0))
 ((zn N (e.1,e.2.1)).bind fun i=>
 (cond (i.2.2.2 != 0)
 ((gM N i.2.2.2).bind fun w=>
 some (w.1,w.2.1,w.2.2.1,w.2.2.2.1,w.2.2.2.2.1,w.2.2.2.2.2.1,w.2.2.2.2.2.2))
 (cond (decide (3<b.2.2.2.2.2.2.2.2.2.2.2.2))
 (none.bind fun a2=>
 (cond a2
 ((zn N (i.1,i.2.1)).bind fun c5=>
 none)
 ((vz N (i.1,i.2.1,18446744073709551615)).bind fun c6=>
 none)))
 ((yO N (a,c.2.2.1,e.2.2.1,i.2.2.1)).bind fun a3=>
 (cond (a3 != 0)
 ((gM N 12).bind fun x=>
 some (x.1,x.2.1,x.2.2.1,x.2.2.2.1,x.2.2.2.2.1,x.2.2.2.2.2.1,x.2.2.2.2.2.2))
 (some (i.1,i.2.1,a,c.2.2.1,e.2.2.1,i.2.2.1,0)))))))
 ((vz N (e.1,e.2.1,18446744073709551615)).bind fun j=>
 (cond (j.2.2.2 != 0)
 ((gM N j.2.2.2).bind fun y=>
 some (y.1,y.2.1,y.2.2.1,y.2.2.2.1,y.2.2.2.2.1,y.2.2.2.2.2.1,y.2.2.2.2.2.2))
 (cond (decide (3<b.2.2.2.2.2.2.2.2.2.2.2.2))
 (none.bind fun a4=>
 (cond a4
 ((zn N (j.1,j.2.1)).bind fun c7=>
 none)
 ((vz N (j.1,j.2.1,18446744073709551615)).bind fun c8=>
 none)))
 ((yO N (a,c.2.2.1,e.2.2.1,(ah (min j.2.2.1 1048576)))).bind fun a5=>
 (cond (a5 != 0)
 ((gM N 12).bind fun z=>
 some (z.1,z.2.1,z.2.2.1,z.2.2.2.1,z.2.2.2.2.1,z.2.2.2.2.2.1,z.2.2.2.2.2.2))
 (some (j.1,j.2.1,a,c.2.2.1,e.2.2.1,(ah (min j.2.2.1 1048576)),0))))))))
 ((yO N (a,c.2.2.1,e.2.2.1,0)).bind fun a6=>
 (cond (a6 != 0)
 ((gM N 12).bind fun A=>
 some (A.1,A.2.1,A.2.2.1,A.2.2.2.1,A.2.2.2.2.1,A.2.2.2.2.2.1,A.2.2.2.2.2.2))
 (some (e.1,e.2.1,a,c.2.2.1,e.2.2.1,0,0)))))))
 ((vz N (c.1,c.2.1,18446744073709551615)).bind fun f=>
 (cond (f.2.2.2 != 0)
 ((gM N f.2.2.2).bind fun B=>
 some (B.1,B.2.1,B.2.2.1,B.2.2.2.1,B.2.2.2.2.1,B.2.2.2.2.2.1,B.2.2.2.2.2.2))
 (cond (decide (2<b.2.2.2.2.2.2.2.2.2.2.2.2))
 (cond (decide (b.2.2.2.2.2.2.2.2.1<0))
 ((zn N (f.1,f.2.1)).bind fun l=>
 (cond (l.2.2.2 != 0)
 ((gM N l.2.2.2).bind fun C=>
 some (C.1,C.2.1,C.2.2.1,C.2.2.2.1,C.2.2.2.2.1,C.2.2.2.2.2.1,C.2.2.2.2.2.2))
 (cond (decide (3<b.2.2.2.2.2.2.2.2.2.2.2.2))
 (none.bind fun a7=>
 (cond a7
 ((zn N (l.1,l.2.1)).bind fun c9=>
 none)
 ((vz N (l.1,l.2.1,18446744073709551615)).bind fun d0=>
 none)))
 ((yO N (a,c.2.2.1,(ah (min f.2.2.1 1048576)),l.2.2.1)).bind fun a8=>
 (cond (a8 != 0)
 ((gM N 12).bind fun D=>
 some (D.1,D.2.1,D.2.2.1,D.2.2.2.1,D.2.2.2.2.1,D.2.2.2.2.2.1,D.2.2.2.2.2.2))
 (some (l.1,l.2.1,a,c.2.2.1,(ah (min f.2.2.1 1048576)),l.2.2.1,0)))))))
 ((vz N (f.1,f.2.1,18446744073709551615)).bind fun m=>
 (cond (m.2.2.2 != 0)
 ((gM N m.2.2.2).bind fun E=>
 some (E.1,E.2.1,E.2.2.1,E.2.2.2.1,E.2.2.2.2.1,E.2.2.2.2.2.1,E.2.2.2.2.2.2))
 (cond (decide (3<b.2.2.2.2.2.2.2.2.2.2.2.2))
 (none.bind fun a9=>
 (cond a9
 ((zn N (m.1,m.2.1)).bind fun d1=>
 none)
 ((vz N (m.1,m.2.1,18446744073709551615)).bind fun d2=>
 none)))
 ((yO N (a,c.2.2.1,(ah (min f.2.2.1 1048576)),(ah (min m.2.2.1 1048576)))).bind fun b0=>
 (cond (b0 != 0)
 ((gM N 12).bind fun G=>
 some (G.1,G.2.1,G.2.2.1,G.2.2.2.1,G.2.2.2.2.1,G.2.2.2.2.2.1,G.2.2.2.2.2.2))
 (some (m.1,m.2.1,a,c.2.2.1,(ah (min f.2.2.1 1048576)),(ah (min m.2.2.1 1048576)),0))))))))
 ((yO N (a,c.2.2.1,(ah (min f.2.2.1 1048576)),0)).bind fun b1=>
 (cond (b1 != 0)
 ((gM N 12).bind fun H=>
 some (H.1,H.2.1,H.2.2.1,H.2.2.2.1,H.2.2.2.2.1,H.2.2.2.2.2.1,H.2.2.2.2.2.2))
 (some (f.1,f.2.1,a,c.2.2.1,(ah (min f.2.2.1 1048576)),0,0))))))))
 ((yO N (a,c.2.2.1,0,0)).bind fun b2=>
 (cond (b2 != 0)
 ((gM N 12).bind fun I=>
 some (I.1,I.2.1,I.2.2.1,I.2.2.2.1,I.2.2.2.2.1,I.2.2.2.2.2.1,I.2.2.2.2.2.2))
 (some (c.1,c.2.1,a,c.2.2.1,0,0,0)))))))
 ((vz N (Z,(ah (a0+1)),18446744073709551615)).bind fun d=>
 (cond (d.2.2.2 != 0)
 ((gM N d.2.2.2).bind fun J=>
 some (J.1,J.2.1,J.2.2.1,J.2.2.2.1,J.2.2.2.2.1,J.2.2.2.2.2.1,J.2.2.2.2.2.2))
 (cond (decide (1<b.2.2.2.2.2.2.2.2.2.2.2.2))
 (cond (decide (b.2.2.2.2.1<0))
 ((zn N (d.1,d.2.1)).bind fun g=>
 (cond (g.2.2.2 != 0)
 ((gM N g.2.2.2).bind fun K=>
 some (K.1,K.2.1,K.2.2.1,K.2.2.2.1,K.2.2.2.2.1,K.2.2.2.2.2.1,K.2.2.2.2.2.2))
 (cond (decide (2<b.2.2.2.2.2.2.2.2.2.2.2.2))
 (cond (decide (b.2.2.2.2.2.2.2.2.1<0))
 ((zn N (g.1,g.2.1)).bind fun n=>
 (cond (n.2.2.2 != 0)
 ((gM N n.2.2.2).bind fun L=>
 some (L.1,L.2.1,L.2.2.1,L.2.2.2.1,L.2.2.2.2.1,L.2.2.2.2.2.1,L.2.2.2.2.2.2))
 (cond (decide (3<b.2.2.2.2.2.2.2.2.2.2.2.2))
 (none.bind fun b3=>
 (cond b3
 ((zn N (n.1,n.2.1)).bind fun d3=>
 none)
 ((vz N (n.1,n.2.1,18446744073709551615)).bind fun d4=>
 none)))
 ((yO N (a,(ah (min d.2.2.1 1048576)),g.2.2.1,n.2.2.1)).bind fun b4=>
 (cond (b4 != 0)
 ((gM N 12).bind fun M=>
 some (M.1,M.2.1,M.2.2.1,M.2.2.2.1,M.2.2.2.2.1,M.2.2.2.2.2.1,M.2.2.2.2.2.2))
 (some (n.1,n.2.1,a,(ah (min d.2.2.1 1048576)),g.2.2.1,n.2.2.1,0)))))))
 ((vz N (g.1,g.2.1,18446744073709551615)).bind fun o=>
 (cond (o.2.2.2 != 0)
 ((gM N o.2.2.2).bind fun O=>
 some (O.1,O.2.1,O.2.2.1,O.2.2.2.1,O.2.2.2.2.1,O.2.2.2.2.2.1,O.2.2.2.2.2.2))
 (cond (decide (3<b.2.2.2.2.2.2.2.2.2.2.2.2))
 (none.bind fun b5=>
 (cond b5
 ((zn N (o.1,o.2.1)).bind fun d5=>
 none)
 ((vz N (o.1,o.2.1,18446744073709551615)).bind fun d6=>
 none)))
 ((yO N (a,(ah (min d.2.2.1 1048576)),g.2.2.1,(ah (min o.2.2.1 1048576)))).bind fun b6=>
 (cond (b6 != 0)
 ((gM N 12).bind fun P=>
 some (P.1,P.2.1,P.2.2.1,P.2.2.2.1,P.2.2.2.2.1,P.2.2.2.2.2.1,P.2.2.2.2.2.2))
 (some (o.1,o.2.1,a,(ah (min d.2.2.1 1048576)),g.2.2.1,(ah (min o.2.2.1 1048576)),0))))))))
 ((yO N (a,(ah (min d.2.2.1 1048576)),g.2.2.1,0)).bind fun b7=>
 (cond (b7 != 0)
 ((gM N 12).bind fun Q=>
 some (Q.1,Q.2.1,Q.2.2.1,Q.2.2.2.1,Q.2.2.2.2.1,Q.2.2.2.2.2.1,Q.2.2.2.2.2.2))
 (some (g.1,g.2.1,a,(ah (min d.2.2.1 1048576)),g.2.2.1,0,0)))))))
 ((vz N (d.1,d.2.1,18446744073709551615)).bind fun h=>
 (cond (h.2.2.2 != 0)
 ((gM N h.2.2.2).bind fun R=>
 some (R.1,R.2.1,R.2.2.1,R.2.2.2.1,R.2.2.2.2.1,R.2.2.2.2.2.1,R.2.2.2.2.2.2))
 (cond (decide (2<b.2.2.2.2.2.2.2.2.2.2.2.2))
 (cond (decide (b.2.2.2.2.2.2.2.2.1<0))
 ((zn N (h.1,h.2.1)).bind fun p=>
 (cond (p.2.2.2 != 0)
 ((gM N p.2.2.2).bind fun S=>
 some (S.1,S.2.1,S.2.2.1,S.2.2.2.1,S.2.2.2.2.1,S.2.2.2.2.2.1,S.2.2.2.2.2.2))
 (cond (decide (3<b.2.2.2.2.2.2.2.2.2.2.2.2))
 (none.bind fun b8=>
 (cond b8
 ((zn N (p.1,p.2.1)).bind fun d7=>
 none)
 ((vz N (p.1,p.2.1,18446744073709551615)).bind fun d8=>
 none)))
 ((yO N (a,(ah (min d.2.2.1 1048576)),(ah (min h.2.2.1 1048576)),p.2.2.1)).bind fun b9=>
 (cond (b9 != 0)
 ((gM N 12).bind fun T=>
 some (T.1,T.2.1,T.2.2.1,T.2.2.2.1,T.2.2.2.2.1,T.2.2.2.2.2.1,T.2.2.2.2.2.2))
 (some (p.1,p.2.1,a,(ah (min d.2.2.1 1048576)),(ah (min h.2.2.1 1048576)),p.2.2.1,0)))))))
 ((vz N (h.1,h.2.1,18446744073709551615)).bind fun q=>
 (cond (q.2.2.2 != 0)
 ((gM N q.2.2.2).bind fun U=>
 some (U.1,U.2.1,U.2.2.1,U.2.2.2.1,U.2.2.2.2.1,U.2.2.2.2.2.1,U.2.2.2.2.2.2))
 (cond (decide (3<b.2.2.2.2.2.2.2.2.2.2.2.2))
 (none.bind fun c0=>
 (cond c0
 ((zn N (q.1,q.2.1)).bind fun d9=>
 none)
 ((vz N (q.1,q.2.1,18446744073709551615)).bind fun e0=>
 none)))
 ((yO N (a,(ah (min d.2.2.1 1048576)),(ah (min h.2.2.1 1048576)),(ah (min q.2.2.1 1048576)))).bind fun c1=>
 (cond (c1 != 0)
 ((gM N 12).bind fun V=>
 some (V.1,V.2.1,V.2.2.1,V.2.2.2.1,V.2.2.2.2.1,V.2.2.2.2.2.1,V.2.2.2.2.2.2))
 (some (q.1,q.2.1,a,(ah (min d.2.2.1 1048576)),(ah (min h.2.2.1 1048576)),(ah (min q.2.2.1 1048576)),0))))))))
 ((yO N (a,(ah (min d.2.2.1 1048576)),(ah (min h.2.2.1 1048576)),0)).bind fun c2=>
 (cond (c2 != 0)
 ((gM N 12).bind fun W=>
 some (W.1,W.2.1,W.2.2.1,W.2.2.2.1,W.2.2.2.2.1,W.2.2.2.2.2.1,W.2.2.2.2.2.2))
 (some (h.1,h.2.1,a,(ah (min d.2.2.1 1048576)),(ah (min h.2.2.1 1048576)),0,0))))))))
 ((yO N (a,(ah (min d.2.2.1 1048576)),0,0)).bind fun c3=>
 (cond (c3 != 0)
 ((gM N 12).bind fun X=>
 some (X.1,X.2.1,X.2.2.1,X.2.2.2.1,X.2.2.2.2.1,X.2.2.2.2.2.1,X.2.2.2.2.2.2))
 (some (d.1,d.2.1,a,(ah (min d.2.2.1 1048576)),0,0,0))))))))
 ((yO N (a,0,0,0)).bind fun c4=>
 (cond (c4 != 0)
 ((gM N 12).bind fun Y=>
 some (Y.1,Y.2.1,Y.2.2.1,Y.2.2.2.1,Y.2.2.2.2.1,Y.2.2.2.2.2.1,Y.2.2.2.2.2.2))
 (some (Z,(ah (a0+1)),a,0,0,0,0)))))))))))
def G66 (N:Nat):au:=(aa0 N).put 66 s66 (F66 N)
theorem K66 (N:Nat):aF cx (G66 N):=(aeM N).put (E':=((aa0 N).on s66)) ((aeM N).on s66) 66 s66 (F66 N) (funext fun⟨a,b⟩=>by rw[F66];kernel_rfl)
def V4:dz:=sg [.c (.int .i64)] [(true,(aL cQ)),(false,[.sl gF .d]),(false,[.int .i64])]
def yP (N:Nat):Int→Option ((List (Int))×Int×(List (cI))×Int)
 |a=>some ([],0,[],a)
def aa1 (N:Nat):au:=(G66 N).put 153 V4 (yP N)
theorem aeN (N:Nat):aF cx (aa1 N):=(K66 N).put (E':=((G66 N).on V4)) ((K66 N).on V4) 153 V4 (yP N) (funext fun a=>by rw[yP];kernel_rfl)
def V5:dz:=⟨[.agg (aL cQ),.c (.int .i64)],[(true,(aL cQ)),(false,[.sl gF .d]),(false,[.int .i64])],0,[],[],[(0,97,gF)],[]⟩
def R7 (N:Nat):au:=(aa1 N).on V5
def f105.Bc:bJ:=tm [(1,.c (.int .i64)),(2,.c (.ptr 0 2 0 0 0)),(4,.c (.ptr 0 4 1 0 0)),(7,.fB 153 []),(13,.c (.sl gF (.app 2))),(14,.c (.int .i64)),(57,.c (.int .i64)),(58,.c (.int .i64))] [] [(0,2,.box 0 (aL cQ)),(0,4,.box 1 [.nil true,.int .i64])] 1 [2] 3
def f105.Bd:bG:=[(.ret,tm [(4,.c (.ptr 0 4 0 0 0)),(5,.c (.sl gF .d)),(6,.c (.int .i64))] [] [(0,4,.box 0 (aL cQ))] 1 [] 1),(.exit 0,tm [(1,.c (.int .i64)),(2,.c (.ptr 0 2 0 0 0)),(4,.c (.ptr 0 4 1 0 0)),(7,.fB 153 []),(13,.c (.sl gF (.app 2)))] [] [(0,2,.box 0 (aL cQ)),(0,4,.box 1 [.nil true,.int .i64])] 1 [2] 3)]
def f105.mg (N:Nat):Nat→Int×(List (cI))×Int×Int×Int×dQ→Option (((List (cI))×Int×(List (Int))×Int)⊕(Int×(List (cI))×dQ))
 |0,_=>none
 |k+1,(f,e,g,h,i,j,l,m)=>(cond (decide (i<h))
 ((vz N (j,l,18446744073709551615)).bind fun a=>
 (cond (a.2.2.2 != 0)
 ((yP N a.2.2.2).bind fun c=>
 some (Sum.inl (c.2.2.1,c.2.2.2,c.1,c.2.1)))
 ((vz N (a.1,a.2.1,18446744073709551615)).bind fun b=>
 (cond (b.2.2.2 != 0)
 ((yP N b.2.2.2).bind fun d=>
 some (Sum.inl (d.2.2.1,d.2.2.2,d.1,d.2.1)))
 (aM (room (e.length+1) 16)
 (f105.mg N k (f,(e++[((ah (g+(ah (min a.2.2.1 200)))),b.2.2.1)]),(ah (g+(ah (min a.2.2.1 200)))),h,(ah (i+1)),b.1,b.2.1,m)))))))
 (some (Sum.inr (f,e,j,l,m))))
theorem f105.Iw (N:Nat):∀ k,f105.mg N k=lp (R7 N) 0 18 (tq 105) 18 f105.Bc f105.Bd k
 |0=>rfl
 |k+1=>funext fun⟨a,b,c,d,e,f,g,h⟩=>by rw[f105.mg,f105.Iw N k];kernel_rfl
def aa2 (N:Nat):au:=(R7 N).af N 0 18 f105.Bc f105.Bd
def KX (N:Nat):dQ→Option ((List (Int))×Int×(List (cI))×Int)
 |(i,j,h)=>((KW N (i,j)).bind fun l=>
 (cond (l.2 != 0)
 ((yP N l.2).bind fun c=>
 some (c.1,c.2.1,c.2.2.1,c.2.2.2))
 ((Fy N h).bind fun m=>
 (cond (m != 0)
 ((yP N m).bind fun d=>
 some (d.1,d.2.1,d.2.2.1,d.2.2.2))
 ((vz N (i,j,(cg h))).bind fun a=>
 (cond (a.2.2.2 != 0)
 ((yP N a.2.2.2).bind fun e=>
 some (e.1,e.2.1,e.2.2.1,e.2.2.2))
 ((f105.mg N N (h,[],0,(ah a.2.2.1),0,a.1,a.2.1,0)).bind fun n=>
 (match n with
 |.inl f=>some (f.2.2.1,f.2.2.2,f.1,f.2.1)
 |.inr b=>((KN N (b.2.1,b.1)).bind fun o=>
 (cond (!o)
 ((yP N 12).bind fun g=>
 some (g.1,g.2.1,g.2.2.1,g.2.2.2))
 (some (b.2.2.1,b.2.2.2.1,b.2.1,0))))))))))))
def aa3 (N:Nat):au:=(aa1 N).put 105 V5 (KX N)
theorem aeO (N:Nat):aF cx (aa3 N):=(aeN N).put (E':=(aa2 N)) (((aeN N).on V5).af N 0 18 f105.Bc f105.Bd) 105 V5 (KX N) (funext fun⟨a,b,c⟩=>by rw[KX,f105.Iw N N];kernel_rfl)
def s67:dz:=sg [.box (aL de),.c (.int .i64)] [(true,(aL de)),(false,[.sl gF .d])]
def R8 (N:Nat):ff Int→Option (ff (List (cI)))
 |(b,c,d,e)=>(cond (d != 0)
 (some (b,c,d,[]))
 ((KX N (b,c,e)).bind fun a=>
 some (a.1,a.2.1,a.2.2.2,a.2.2.1)))
def G67 (N:Nat):au:=(aa3 N).put 67 s67 (R8 N)
theorem K67 (N:Nat):aF cx (G67 N):=(aeO N).put (E':=((aa3 N).on s67)) ((aeO N).on s67) 67 s67 (R8 N) (funext fun⟨a,b,c,d⟩=>by rw[R8];kernel_rfl)
def s36:dz:=⟨[.box (aL de)],[(true,(aL de)),(true,(aL dN))],0,[],[],[(0,63,aV)],[]⟩
def Yz (N:Nat):au:=(G67 N).on s36
def f36.R9:bJ:=tm [(0,.c (.ptr 0 0 0 0 0)),(2,.c (.ptr 1 2 1 0 0)),(3,.c (.ptr 1 3 2 0 0)),(37,.c (.int .i64)),(38,.c (.int .i64))] [[(0,.c (.ptr 0 0 0 0 0))]] [(0,0,.box 0 (aL de)),(1,2,.box 1 [.str,.int .i64,.int .i64,.nil true,.nil true,.nil true,.nil true]),(1,3,.box 2 [.str,.int .i64,.int .i64,.sl cW .d,.sl aV (.app 3),.nil true,.nil true])] 2 [3] 4
def f36.Sa:bG:=[(.exit 0,tm [(0,.c (.ptr 0 0 0 0 0)),(2,.c (.ptr 1 2 1 0 0)),(3,.c (.ptr 1 3 2 0 0))] [[(0,.c (.ptr 0 0 0 0 0))]] [(0,0,.box 0 (aL de)),(1,2,.box 1 [.str,.int .i64,.int .i64,.nil true,.nil true,.nil true,.nil true]),(1,3,.box 2 [.str,.int .i64,.int .i64,.sl cW .d,.sl aV (.app 3),.nil true,.nil true])] 2 [3] 4)]
def f36.rU (N:Nat):Nat→Int×Int×ff ((List UInt8)×Int×Int×(List UInt8)×Int×Int×(List (Field))×List (Instr))→Option ((ff ((List UInt8)×Int×Int×(List UInt8)×Int×Int×(List (Field))×List (Instr))))
 |0,_=>none
 |k+1,(n,o,c,d,e,f,g,h,i,j,l,m,b)=>(cond (decide (o<n))
 (cond (e != 0)
 (some (c,d,e,f,g,h,i,j,l,m,b))
 ((F66 N (c,d)).bind fun a=>
 (aM (room (b.length+1) 32)
 (f36.rU N k (n,(ah (o+1)),a.1,a.2.1,a.2.2.2.2.2.2,f,g,h,i,j,l,m,(b++[(a.2.2.1,a.2.2.2.1,a.2.2.2.2.1,a.2.2.2.2.2.1)]))))))
 (some (c,d,e,f,g,h,i,j,l,m,b)))
theorem f36.YA (N:Nat):∀ k,f36.rU N k=lp (Yz N) 0 10 (tq 36) 10 f36.R9 f36.Sa k
 |0=>rfl
 |k+1=>funext fun⟨a,b,c,d,e,f,g,h,i,j,l,m,n⟩=>by rw[f36.rU,f36.YA N k];kernel_rfl
def aeP (N:Nat):au:=(Yz N).af N 0 10 f36.R9 f36.Sa
def F36 (N:Nat):dQ→Option (ff lK)
 |(o,p,q)=>((Yx N (o,p,q,16)).bind fun d=>
 ((Gs N (d.1,d.2.1,d.2.2.1,16)).bind fun c=>
 (cond (c.2.2.1==0)
 ((zn N (c.1,c.2.1)).bind fun e=>
 ((VZ N (e.1,e.2.1,e.2.2.2,16)).bind fun f=>
 ((Gs N (f.1,f.2.1,f.2.2.1,200)).bind fun g=>
 ((f36.rU N N (g.2.2.2,0,g.1,g.2.1,g.2.2.1,([]:List UInt8),0,0,d.2.2.2,c.2.2.2,e.2.2.1,f.2.2.2,[])).bind fun a=>
 ((R8 N (a.1,a.2.1,a.2.2.1,(a.2.2.2.2.2.2.2.2.2.2.length:Int))).bind fun h=>
 ((R8 N (h.1,h.2.1,h.2.2.1,(a.2.2.2.2.2.2.2.2.2.2.length:Int))).bind fun i=>
 some (i.1,i.2.1,i.2.2.1,a.2.2.2.2.2.2.1,a.2.2.2.2.2.2.2.1,a.2.2.2.2.2.2.2.2.1,a.2.2.2.2.2.2.2.2.2.1,a.2.2.2.2.2.2.2.2.2.2,h.2.2.2,i.2.2.2)))))))
 ((VZ N (c.1,c.2.1,c.2.2.1,16)).bind fun j=>
 ((Gs N (j.1,j.2.1,j.2.2.1,200)).bind fun l=>
 ((f36.rU N N (l.2.2.2,0,l.1,l.2.1,l.2.2.1,([]:List UInt8),0,0,d.2.2.2,c.2.2.2,0,j.2.2.2,[])).bind fun b=>
 ((R8 N (b.1,b.2.1,b.2.2.1,(b.2.2.2.2.2.2.2.2.2.2.length:Int))).bind fun m=>
 ((R8 N (m.1,m.2.1,m.2.2.1,(b.2.2.2.2.2.2.2.2.2.2.length:Int))).bind fun n=>
 some (n.1,n.2.1,n.2.2.1,b.2.2.2.2.2.2.1,b.2.2.2.2.2.2.2.1,b.2.2.2.2.2.2.2.2.1,b.2.2.2.2.2.2.2.2.2.1,b.2.2.2.2.2.2.2.2.2.2,m.2.2.2,n.2.2.2)))))))))
def G36 (N:Nat):au:=(G67 N).put 36 s36 (F36 N)
theorem K36 (N:Nat):aF cx (G36 N):=(K67 N).put (E':=(aeP N)) (((K67 N).on s36).af N 0 10 f36.R9 f36.Sa) 36 s36 (F36 N) (funext fun⟨a,b,c⟩=>by rw[F36,f36.YA N N];kernel_rfl)
def s17:dz:=⟨[.c (.sl (.int .u8) .d)],[(true,(aL bY)),(false,[.int .i64])],0,[(0,30,58,.bool)],[],[(0,19,bT),(0,29,.str),(0,39,dN)],[]⟩
def YB (N:Nat):au:=(G36 N).on s17
def f17.Bm:bJ:=tm [(0,.c (.sl (.int .u8) .d)),(2,.c (.ptr 0 2 0 0 0)),(4,.c (.ptr 0 4 1 0 0)),(5,.c (.ptr 0 5 2 0 0)),(13,.c (.int .i64)),(14,.c (.int .i64))] [] [(0,2,.box 0 [.nil true,.nil true,.nil true]),(0,4,.box 1 [.sl bT (.app 3),.nil true,.nil true]),(0,5,.box 2 (aL de))] 1 [3] 4
def f17.Bn:bG:=[(.exit 0,tm [(0,.c (.sl (.int .u8) .d)),(2,.c (.ptr 0 2 0 0 0)),(4,.c (.ptr 0 4 1 0 0)),(5,.c (.ptr 0 5 2 0 0))] [] [(0,2,.box 0 [.nil true,.nil true,.nil true]),(0,4,.box 1 [.sl bT (.app 3),.nil true,.nil true]),(0,5,.box 2 (aL de))] 1 [3] 4)]
def f17.lN (N:Nat):Nat→ff ((List (aI))×dQ)→Option (((List (Int))×(List (aI))×dQ))
 |0,_=>none
 |k+1,(c,d,e,b,f,g,h)=>(cond (decide (e<d))
 ((F34 N (f,g,h)).bind fun a=>
 (aM (room (b.length+1) 48)
 (f17.lN N k (c,d,(ah (e+1)),(b++[a.2.2.2]),a.1,a.2.1,a.2.2.1))))
 (some (c,b,f,g,h)))
theorem f17.IB (N:Nat):∀ k,f17.lN N k=lp (YB N) 0 8 (tq 17) 8 f17.Bm f17.Bn k
 |0=>rfl
 |k+1=>funext fun⟨a,b,c,d,e,f,g⟩=>by rw[f17.lN,f17.IB N k];kernel_rfl
def YC (N:Nat):au:=(YB N).af N 0 8 f17.Bm f17.Bn
def f17.Bq:bJ:=tm [(0,.c (.sl (.int .u8) .d)),(2,.c (.ptr 0 2 0 0 0)),(4,.c (.ptr 0 4 1 0 0)),(5,.c (.ptr 0 5 2 0 0)),(23,.c (.int .i64)),(24,.c (.int .i64))] [] [(0,2,.box 0 [.nil true,.nil true,.nil true]),(0,4,.box 1 [.sl bT (.app 4),.sl .str (.app 3),.nil true]),(0,5,.box 2 (aL de))] 1 [4,3] 5
def f17.Br:bG:=[(.exit 2,tm [(0,.c (.sl (.int .u8) .d)),(2,.c (.ptr 0 2 0 0 0)),(4,.c (.ptr 0 4 1 0 0)),(5,.c (.ptr 0 5 2 0 0))] [] [(0,2,.box 0 [.nil true,.nil true,.nil true]),(0,4,.box 1 [.sl bT (.app 3),.sl .str (.app 4),.nil true]),(0,5,.box 2 (aL de))] 1 [3,4] 5)]
def f17.mX (N:Nat):Nat→ff ((List (aI))×(List (List UInt8))×dQ)→Option (((List (Int))×(List (aI))×(List (List UInt8))×dQ))
 |0,_=>none
 |k+1,(c,d,e,f,b,g,h,i)=>(cond (decide (e<d))
 ((Yx N (g,h,i,64)).bind fun a=>
 (aM (room (b.length+1) 16)
 (f17.mX N k (c,d,(ah (e+1)),f,(b++[a.2.2.2]),a.1,a.2.1,a.2.2.1))))
 (some (c,f,b,g,h,i)))
theorem f17.ID (N:Nat):∀ k,f17.mX N k=lp (YC N) 0 16 (tq 17) 16 f17.Bq f17.Br k
 |0=>rfl
 |k+1=>funext fun⟨a,b,c,d,e,f,g,h⟩=>by rw[f17.mX,f17.ID N k];kernel_rfl
def YD (N:Nat):au:=(YC N).af N 0 16 f17.Bq f17.Br
def f17.Sb:bJ:=tm [(0,.c (.sl (.int .u8) .d)),(2,.c (.ptr 0 2 0 0 0)),(4,.c (.ptr 0 4 1 0 0)),(5,.c (.ptr 0 5 2 0 0)),(33,.c (.int .i64)),(34,.c (.int .i64))] [] [(0,2,.box 0 [.nil true,.nil true,.nil true]),(0,4,.box 1 [.sl bT (.app 4),.sl .str (.app 5),.sl dN (.app 3)]),(0,5,.box 2 (aL de))] 1 [4,5,3] 6
def f17.Sc:bG:=[(.exit 4,tm [(0,.c (.sl (.int .u8) .d)),(2,.c (.ptr 0 2 0 0 0)),(4,.c (.ptr 0 4 1 0 0)),(5,.c (.ptr 0 5 2 0 0))] [] [(0,2,.box 0 [.nil true,.nil true,.nil true]),(0,4,.box 1 [.sl bT (.app 3),.sl .str (.app 4),.sl dN (.app 5)]),(0,5,.box 2 (aL de))] 1 [3,4,5] 6)]
def f17.Bt (N:Nat):Nat→ff (fS dQ)→Option (((List (Int))×fS dQ))
 |0,_=>none
 |k+1,(c,d,e,f,g,b,h,i,j)=>(cond (decide (e<d))
 ((F36 N (h,i,j)).bind fun a=>
 (aM (room (b.length+1) 128)
 (f17.Bt N k (c,d,(ah (e+1)),f,g,(b++[a.2.2.2]),a.1,a.2.1,a.2.2.1))))
 (some (c,f,g,b,h,i,j)))
theorem f17.YE (N:Nat):∀ k,f17.Bt N k=lp (YD N) 0 24 (tq 17) 24 f17.Sb f17.Sc k
 |0=>rfl
 |k+1=>funext fun⟨a,b,c,d,e,f,g,h,i⟩=>by rw[f17.Bt,f17.YE N k];kernel_rfl
def aeQ (N:Nat):au:=(YD N).af N 0 24 f17.Sb f17.Sc
def F17 (N:Nat):List (Int)→Option (fS Int)
 |g=>(cond (decide ((g.length:Int)>20000))
 (some ([],[],[],4))
 ((Gs N (g,0,0,32)).bind fun d=>
 ((f17.lN N N (g,d.2.2.2,0,[],d.1,d.2.1,d.2.2.1)).bind fun c=>
 ((Gs N (c.2.2.1,c.2.2.2.1,c.2.2.2.2,32)).bind fun e=>
 ((f17.mX N N (c.1,e.2.2.2,0,c.2.1,[],e.1,e.2.1,e.2.2.1)).bind fun b=>
 ((Gs N (b.2.2.2.1,b.2.2.2.2.1,b.2.2.2.2.2,32)).bind fun f=>
 ((f17.Bt N N (b.1,f.2.2.2,0,b.2.1,b.2.2.1,[],f.1,f.2.1,f.2.2.1)).bind fun a=>
 ((cond (a.2.2.2.2.2.2 != 0)
 (some true)
 (cond (a.2.2.2.2.2.1 != (a.1.length:Int))
 (some true)
 ((TN N (a.2.1,a.2.2.1,a.2.2.2.1)).bind fun h=>
 some (!h)))).bind fun i=>
 (cond i
 (some ([],[],[],12))
 (some (a.2.1,a.2.2.1,a.2.2.2.1,0)))))))))))
def G17 (N:Nat):au:=(G36 N).put 17 s17 (F17 N)
theorem K17 (N:Nat):aF cx (G17 N):=(K36 N).put (E':=(aeQ N)) (((((K36 N).on s17).af N 0 8 f17.Bm f17.Bn).af N 0 16 f17.Bq f17.Br).af N 0 24 f17.Sb f17.Sc) 17 s17 (F17 N) (funext fun a=>by rw[F17,f17.IB N N,f17.ID N N,f17.YE N N];kernel_rfl)
def s68:dz:=sg [.c (.sl gF .bB),.c (.sl gF .bB)] [(false,[.bool])]
def YF (N:Nat):au:=(G17 N).on s68
def f68.eM:bJ:=tm [(0,.c (.sl gF .bB)),(1,.c (.sl gF .bB)),(12,.c (.int .i64)),(13,.c (.int .i64))] [] [] 1 [] 0
def f68.eN:bG:=[(.ret,tm [(4,.c (.bool))] [] [] 1 [] 0),(.exit 0,tm [] [] [] 1 [] 0)]
def f68.bz (N:Nat):Nat→ML→Option ((Bool)⊕(Unit))
 |0,_=>none
 |k+1,(b,c,d,a)=>(cond (decide (a<d))
 ((idx b a).bind fun e=>
 ((idx c a).bind fun f=>
 (cond (!(e.1==f.1&&(e.2==f.2&&true)))
 (some (Sum.inl false))
 (f68.bz N k (b,c,d,(ah (a+1)))))))
 (some (Sum.inr ())))
theorem f68.hU (N:Nat):∀ k,f68.bz N k=lp (YF N) 0 6 (tq 68) 6 f68.eM f68.eN k
 |0=>rfl
 |k+1=>funext fun⟨a,b,c,d⟩=>by rw[f68.bz,f68.hU N k];kernel_rfl
def aeR (N:Nat):au:=(YF N).af N 0 6 f68.eM f68.eN
def F68 (N:Nat):(List (cI))×List (cI)→Option (Bool)
 |(a,b)=>(cond ((a.length:Int) != (b.length:Int))
 (some false)
 ((f68.bz N N (a,b,(a.length:Int),0)).bind fun c=>
 (match c with
 |.inl d=>some d
 |.inr e=>some true)))
def G68 (N:Nat):au:=(G17 N).put 68 s68 (F68 N)
theorem K68 (N:Nat):aF cx (G68 N):=(K17 N).put (E':=(aeR N)) (((K17 N).on s68).af N 0 6 f68.eM f68.eN) 68 s68 (F68 N) (funext fun⟨a,b⟩=>by rw[F68,f68.hU N N];kernel_rfl)
def s37:dz:=⟨[.agg (aL bY)],[(false,[.int .i64]),(false,[.int .i64]),(false,[.int .i64])],0,[(0,13,43,.bool)],[],[],[]⟩
def YG (N:Nat):au:=(G68 N).on s37
def f37.kE:bJ:=tm [(1,.c (.ptr 0 1 0 0 0)),(15,.c (.sl dN .d)),(16,.c (.int .i64)),(17,.c (.int .i64))] [] [(0,1,.box 0 (aL bY))] 1 [] 1
def f37.kF:bG:=[(.ret,tm [(2,.c (.int .i64)),(3,.c (.int .i64)),(4,.c (.int .i64))] [] [] 1 [] 0),(.exit 0,tm [] [] [] 1 [] 0)]
def f37.ct (N:Nat):Nat→(List (Func))×Int×Int×fR→Option ((Int×Int×Int)⊕(Unit))
 |0,_=>none
 |k+1,(c,d,a,e,f,g)=>(cond (decide (a<d))
 ((idx c a).bind fun h=>
 ((IC N (e,f,g,a)).bind fun b=>
 ((cond (b.2.2.2==0)
 ((F68 N (b.1,h.2.2.2.2.2.1)).bind fun i=>
 (cond (!i)
 (some true)
 ((F68 N (b.2.1,h.2.2.2.2.2.2)).bind fun j=>
 some (!j))))
 (some false)).bind fun l=>
 (cond l
 (some (Sum.inl (a,(-1),32)))
 (cond (b.2.2.2 != 0)
 (some (Sum.inl (a,b.2.2.1,b.2.2.2)))
 (f37.ct N k (c,d,(ah (a+1)),e,f,g)))))))
 (some (Sum.inr ())))
theorem f37.oI (N:Nat):∀ k,f37.ct N k=lp (YG N) 0 7 (tq 37) 7 f37.kE f37.kF k
 |0=>rfl
 |k+1=>funext fun⟨a,b,c,d,e,f⟩=>by rw[f37.ct,f37.oI N k];kernel_rfl
def aeS (N:Nat):au:=(YG N).af N 0 7 f37.kE f37.kF
def F37 (N:Nat):fR→Option (Int×Int×Int)
 |(c,d,a)=>((RH N (c,d,a)).bind fun e=>
 (cond (e != 0)
 (some (0,0,e))
 ((f37.ct N N (a,(a.length:Int),0,c,d,a)).bind fun f=>
 (match f with
 |.inl b=>some (b.1,b.2.1,b.2.2)
 |.inr g=>some (0,0,0)))))
def G37 (N:Nat):au:=(G68 N).put 37 s37 (F37 N)
theorem K37 (N:Nat):aF cx (G37 N):=(K68 N).put (E':=(aeS N)) (((K68 N).on s37).af N 0 7 f37.kE f37.kF) 37 s37 (F37 N) (funext fun⟨a,b,c⟩=>by rw[F37,f37.oI N N];kernel_rfl)
def s18:dz:=sg [.agg (kg bY)] [(false,[.int .i64])]
def F18 (N:Nat):fR→Option (Int)
 |(a,b,c)=>((F37 N (a,b,c)).bind fun d=>
 some d.2.2)
def G18 (N:Nat):au:=(G37 N).put 18 s18 (F18 N)
theorem K18 (N:Nat):aF cx (G18 N):=(K37 N).put (E':=((G37 N).on s18)) ((K37 N).on s18) 18 s18 (F18 N) (funext fun⟨a,b,c⟩=>by rw[F18];kernel_rfl)
def s69:dz:=sg [.c (.sl cW .bB),.c (.sl cW .bB)] [(false,[.bool])]
def YH (N:Nat):au:=(G18 N).on s69
def f69.eM:bJ:=tm [(0,.c (.sl cW .bB)),(1,.c (.sl cW .bB)),(5,.c (.int .i64))] [] [] 1 [] 0
def f69.eN:bG:=[(.ret,tm [(4,.c (.bool))] [] [] 1 [] 0),(.exit 0,tm [] [] [] 1 [] 0)]
def f69.bz (N:Nat):Nat→(List (Field))×(List (Field))×Int→Option ((Bool)⊕(Unit))
 |0,_=>none
 |k+1,(b,c,a)=>(cond (decide (a<(b.length:Int)))
 ((idx b a).bind fun d=>
 ((idx c a).bind fun e=>
 (cond (!(d.1==e.1&&(d.2==e.2&&true)))
 (some (Sum.inl false))
 (f69.bz N k (b,c,(ah (a+1)))))))
 (some (Sum.inr ())))
theorem f69.hU (N:Nat):∀ k,f69.bz N k=lp (YH N) 0 6 (tq 69) 6 f69.eM f69.eN k
 |0=>rfl
 |k+1=>funext fun⟨a,b,c⟩=>by rw[f69.bz,f69.hU N k];kernel_rfl
def aeU (N:Nat):au:=(YH N).af N 0 6 f69.eM f69.eN
def F69 (N:Nat):(List (Field))×List (Field)→Option (Bool)
 |(a,b)=>(cond ((a.length:Int) != (b.length:Int))
 (some false)
 ((f69.bz N N (a,b,0)).bind fun c=>
 (match c with
 |.inl d=>some d
 |.inr e=>some true)))
def G69 (N:Nat):au:=(G18 N).put 69 s69 (F69 N)
theorem K69 (N:Nat):aF cx (G69 N):=(K18 N).put (E':=(aeU N)) (((K18 N).on s69).af N 0 6 f69.eM f69.eN) 69 s69 (F69 N) (funext fun⟨a,b⟩=>by rw[F69,f69.hU N N];kernel_rfl)
def s38:dz:=⟨[.c (.sl bT .bB),.c (.sl bT .bB)],[(false,[.bool])],0,[(0,10,67,.bool)],[],[],[]⟩
def YI (N:Nat):au:=(G69 N).on s38
def f38.eM:bJ:=tm [(0,.c (.sl bT .bB)),(1,.c (.sl bT .bB)),(5,.c (.int .i64))] [] [] 1 [] 0
def f38.eN:bG:=[(.ret,tm [(4,.c (.bool))] [] [] 1 [] 0),(.exit 0,tm [] [] [] 1 [] 0)]
def f38.bz (N:Nat):Nat→(List (aI))×(List (aI))×Int→Option ((Bool)⊕(Unit))
 |0,_=>none
 |k+1,(b,c,a)=>(cond (decide (a<(b.length:Int)))
 (((idx b a).bind fun d=>
 ((idx c a).bind fun e=>
 (cond (d.1 != e.1)
 (some true)
 ((idx b a).bind fun f=>
 ((idx c a).bind fun g=>
 (cond (f.2.1 != g.2.1)
 (some true)
 ((idx b a).bind fun h=>
 ((idx c a).bind fun i=>
 (cond (h.2.2.1 != i.2.2.1)
 (some true)
 ((idx b a).bind fun j=>
 ((idx c a).bind fun l=>
 ((F69 N (j.2.2.2,l.2.2.2)).bind fun m=>
 some (!m))))))))))))).bind fun n=>
 (cond n
 (some (Sum.inl false))
 (f38.bz N k (b,c,(ah (a+1))))))
 (some (Sum.inr ())))
theorem f38.hU (N:Nat):∀ k,f38.bz N k=lp (YI N) 0 6 (tq 38) 6 f38.eM f38.eN k
 |0=>rfl
 |k+1=>funext fun⟨a,b,c⟩=>by rw[f38.bz,f38.hU N k];kernel_rfl
def aeV (N:Nat):au:=(YI N).af N 0 6 f38.eM f38.eN
def F38 (N:Nat):(List (aI))×List (aI)→Option (Bool)
 |(a,b)=>(cond ((a.length:Int) != (b.length:Int))
 (some false)
 ((f38.bz N N (a,b,0)).bind fun c=>
 (match c with
 |.inl d=>some d
 |.inr e=>some true)))
def G38 (N:Nat):au:=(G69 N).put 38 s38 (F38 N)
theorem K38 (N:Nat):aF cx (G38 N):=(K69 N).put (E':=(aeV N)) (((K69 N).on s38).af N 0 6 f38.eM f38.eN) 38 s38 (F38 N) (funext fun⟨a,b⟩=>by rw[F38,f38.hU N N];kernel_rfl)
def s39:dz:=⟨[.agg (kg dN),.agg (kg dN)],[(false,[.bool])],0,[(0,1,4,.bool)],[],[],[]⟩
def F39 (N:Nat):Xs lK→Option (Bool)
 |(a,b,c,d,e,f,g,h,i,j,l,m,n,o)=>((cond (a==h)
 (cond (b==i)
 (cond (c==j)
 ((F69 N (d,l)).bind fun p=>
 (cond p
 ((F20 N (e,m)).bind fun q=>
 (cond q
 ((F9 N (f,n)).bind fun r=>
 (cond r
 ((F9 N (g,o)).bind fun s=>
 some s)
 (some false)))
 (some false)))
 (some false)))
 (some false))
 (some false))
 (some false)).bind fun t=>
 some t)
def G39 (N:Nat):au:=(G38 N).put 39 s39 (F39 N)
theorem K39 (N:Nat):aF cx (G39 N):=(K38 N).put (E':=((G38 N).on s39)) ((K38 N).on s39) 39 s39 (F39 N) (funext fun⟨a,b,c,d,e,f,g,h,i,j,l,m,n,o⟩=>by rw[F39];kernel_rfl)
def s19:dz:=⟨[.agg (kg bY),.agg (kg bY)],[(false,[.bool])],0,[(0,1,30,.bool)],[],[],[]⟩
def YJ (N:Nat):au:=(G39 N).on s19
def f19.eM:bJ:=tm [(2,.c (.ptr 0 2 0 0 0)),(3,.c (.ptr 0 3 1 0 0)),(5,.c (.int .i64))] [] [(0,2,.box 0 (kg bY)),(0,3,.box 1 (kg bY))] 1 [] 2
def f19.eN:bG:=[(.ret,tm [(4,.c (.bool))] [] [] 1 [] 0),(.exit 0,tm [(2,.c (.ptr 0 2 0 0 0)),(3,.c (.ptr 0 3 1 0 0))] [] [(0,2,.box 0 (kg bY)),(0,3,.box 1 (kg bY))] 1 [] 2)]
def f19.bz (N:Nat):Nat→Int×fS fR→Option ((Bool)⊕(fS fR))
 |0,_=>none
 |k+1,(a,d,b,e,f,c,g)=>(cond (decide (a<(b.length:Int)))
 ((idx b a).bind fun h=>
 ((idx c a).bind fun i=>
 (cond (!(h==i))
 (some (Sum.inl false))
 (f19.bz N k ((ah (a+1)),d,b,e,f,c,g)))))
 (some (Sum.inr (d,b,e,f,c,g))))
theorem f19.hU (N:Nat):∀ k,f19.bz N k=lp (YJ N) 0 6 (tq 19) 6 f19.eM f19.eN k
 |0=>rfl
 |k+1=>funext fun⟨a,b,c,d,e,f,g⟩=>by rw[f19.bz,f19.hU N k];kernel_rfl
def YK (N:Nat):au:=(YJ N).af N 0 6 f19.eM f19.eN
def f19.Bq:bJ:=tm [(2,.c (.ptr 0 2 0 0 0)),(3,.c (.ptr 0 3 1 0 0)),(6,.c (.int .i64))] [] [(0,2,.box 0 (kg bY)),(0,3,.box 1 (kg bY))] 1 [] 2
def f19.Br:bG:=[(.ret,tm [(4,.c (.bool))] [] [] 1 [] 0),(.exit 2,tm [] [] [] 1 [] 0)]
def f19.mX (N:Nat):Nat→Int×fS fR→Option ((Bool)⊕(Unit))
 |0,_=>none
 |k+1,(c,f,g,d,h,i,e)=>(cond (decide (c<(d.length:Int)))
 ((idx d c).bind fun a=>
 ((idx e c).bind fun b=>
 ((F39 N (a.1,a.2.1,a.2.2.1,a.2.2.2.1,a.2.2.2.2.1,a.2.2.2.2.2.1,a.2.2.2.2.2.2,b.1,b.2.1,b.2.2.1,b.2.2.2.1,b.2.2.2.2.1,b.2.2.2.2.2.1,b.2.2.2.2.2.2)).bind fun j=>
 (cond (!j)
 (some (Sum.inl false))
 (f19.mX N k ((ah (c+1)),f,g,d,h,i,e))))))
 (some (Sum.inr ())))
theorem f19.ID (N:Nat):∀ k,f19.mX N k=lp (YK N) 0 16 (tq 19) 16 f19.Bq f19.Br k
 |0=>rfl
 |k+1=>funext fun⟨a,b,c,d,e,f,g⟩=>by rw[f19.mX,f19.ID N k];kernel_rfl
def aeW (N:Nat):au:=(YK N).af N 0 16 f19.Bq f19.Br
def F19 (N:Nat):fS fR→Option (Bool)
 |(b,c,d,e,f,g)=>(((F38 N (b,e)).bind fun h=>
 (cond (!h)
 (some true)
 (cond ((c.length:Int) != (f.length:Int))
 (some true)
 (some ((d.length:Int) != (g.length:Int)))))).bind fun i=>
 (cond i
 (some false)
 ((f19.bz N N (0,b,c,d,e,f,g)).bind fun j=>
 (match j with
 |.inl l=>some l
 |.inr a=>((f19.mX N N (0,a.1,a.2.1,a.2.2.1,a.2.2.2.1,a.2.2.2.2.1,a.2.2.2.2.2)).bind fun m=>
 (match m with
 |.inl n=>some n
 |.inr o=>some true))))))
def G19 (N:Nat):au:=(G39 N).put 19 s19 (F19 N)
theorem K19 (N:Nat):aF cx (G19 N):=(K39 N).put (E':=(aeW N)) ((((K39 N).on s19).af N 0 6 f19.eM f19.eN).af N 0 16 f19.Bq f19.Br) 19 s19 (F19 N) (funext fun⟨a,b,c,d,e,f⟩=>by rw[F19,f19.hU N N,f19.ID N N];kernel_rfl)
def s7:dz:=⟨[.agg (kg bY)],[(false,[.bool])],0,[(0,3,2,.bool)],[],[],[]⟩
def F7 (N:Nat):fR→Option (Bool)
 |(b,c,d)=>((F16 N (b,c,d)).bind fun e=>
 ((F17 N e.1).bind fun a=>
 (((F18 N (b,c,d)).bind fun f=>
 (cond (f==0)
 (cond (e.2==0)
 (cond (a.2.2.2==0)
 ((F19 N (a.1,a.2.1,a.2.2.1,b,c,d)).bind fun g=>
 some g)
 (some false))
 (some false))
 (some false))).bind fun h=>
 some h)))
def G7 (N:Nat):au:=(G19 N).put 7 s7 (F7 N)
theorem K7 (N:Nat):aF cx (G7 N):=(K19 N).put (E':=((G19 N).on s7)) ((K19 N).on s7) 7 s7 (F7 N) (funext fun⟨a,b,c⟩=>by rw[F7];kernel_rfl)
def s3:dz:=⟨[.c (.sl (.int .i64) .d),.c (.sl (.int .i64) .d),.c (.sl .bool .d)],[(false,[.bool])],0,[(0,1,31,.bool),(0,6,6,.bool)],[],[],[]⟩
def F3 (N:Nat):(List (Int))×(List (Int))×List (Bool)→Option (Bool)
 |(d,a,e)=>((cond (decide ((d.length:Int)>60))
 (some true)
 (cond (decide ((a.length:Int)<1))
 (some true)
 (cond (decide ((a.length:Int)>20))
 (some true)
 (some ((e.length:Int) != (ah ((a.length:Int)-1))))))).bind fun f=>
 (cond f
 ((F4 N ()).bind fun g=>
 some g)
 ((F5 N d).bind fun b=>
 ((F6 N (a,e)).bind fun c=>
 ((cond (b.2.2.2==0)
 (cond (c.2.2.2==0)
 ((F7 N (b.1,b.2.1,b.2.2.1)).bind fun h=>
 (cond h
 ((F7 N (c.1,c.2.1,c.2.2.1)).bind fun i=>
 (cond i
 ((F4 N ()).bind fun j=>
 some j)
 (some false)))
 (some false)))
 (some false))
 (some false)).bind fun l=>
 some l)))))
def G3 (N:Nat):au:=(G7 N).put 3 s3 (F3 N)
theorem K3 (N:Nat):aF cx (G3 N):=(K7 N).put (E':=((G7 N).on s3)) ((K7 N).on s3) 3 s3 (F3 N) (funext fun⟨a,b,c⟩=>by rw[F3];kernel_rfl)
end
end Go.Proofs.YthphehfgekjooaaGreatDoor
