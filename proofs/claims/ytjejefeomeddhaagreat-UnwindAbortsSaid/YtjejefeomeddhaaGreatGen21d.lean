/- What the functions compute. -/
import Derived.Test.YtjejefeomeddhaaGreatTab21d
set_option linter.unusedSimpArgs false
variable [Go.Eng.Rho]
set_option linter.unusedSectionVars false
namespace Go.Proofs.YtjejefeomeddhaaGreat
set_option linter.unusedVariables false
open Go Go.Eng Go.Sym
noncomputable section
variable (N:Nat)
@[reducible] def TField:Ty:=(.prod .str (.int .i64))
abbrev Field:Type:=(List UInt8)×Int
@[reducible] def TRun:Ty:=(.prod (.int .i64) (.int .u64))
abbrev Run:Type:=Int×Int
@[reducible] def Textent:Ty:=(.prod (.int .i64) (.int .i64))
abbrev extent:Type:=Int×Int
@[reducible] def Tuse:Ty:=(.prod (.int .i64) (.prod (.int .i64) (.prod .bool .bool)))
@[reducible] def TInstr:Ty:=(.prod (.int .u8) (.prod (.int .i64) Textent))
abbrev Instr:Type:=Int×(Int×extent)
@[reducible] def TGType:Ty:=(.prod (.int .u8) (.prod (.int .i64) (.prod (.int .i64) (.sl TField))))
abbrev GType:Type:=Int×(Int×(Int×List Field))
@[reducible] def TFunc:Ty:=(.prod .str (.prod (.int .i64) (.prod (.int .i64) (.prod (.sl TField) (.prod (.sl TInstr) (.prod (.sl TRun) (.sl TRun)))))))
abbrev Func:Type:=(List UInt8)×(Int×(Int×(List Field×(List Instr×(List Run×List Run)))))
@[reducible] def TImage:Ty:=(.prod (.sl TGType) (.prod (.sl .str) (.sl TFunc)))
abbrev Image:Type:=(List GType)×(List (List UInt8)×List Func)
@[reducible] def Tfunction:Ty:=(.prod TImage TFunc)
abbrev function:Type:=Image×Func
abbrev Wuse:Type:=Int×Int×Bool×Bool
abbrev Xuse (α : Type):Type:=Int×Int×Bool×Bool×α
abbrev XLimits (α : Type):Type:=Int×Int×Int×Int×α
abbrev WInstr:Type:=Int×Int×Int×Int
abbrev WGType:Type:=Int×Int×Int×(List Field)
abbrev XGType (α : Type):Type:=Int×Int×Int×List Field×α
abbrev WFunc:Type:=(List UInt8)×Int×Int×List Field×List Instr×List Run×(List Run)
abbrev WImage:Type:=(List GType)×List (List UInt8)×(List Func)
abbrev XImage (α : Type):Type:=(List GType)×List (List UInt8)×List Func×α
abbrev Wfunction:Type:=(List GType)×List (List UInt8)×List Func×List UInt8×Int×Int×List Field×List Instr×List Run×(List Run)
abbrev Xfunction (α : Type):Type:=(List GType)×List (List UInt8)×List Func×List UInt8×Int×Int×List Field×List Instr×List Run×List Run×α
def Gz (_:Nat):SEnv:=SEnv.base tab (lk []) (lk []) (lk []) (lkU []) (lk [])
theorem Kz:EnvOK tab (Gz N):=base_ok ..
def s241:Sig:=⟨[.c (.int .u8)],[(false,[.bool])],0,[(0,1,2,.bool)],[],[],[]⟩
def F241 (N:Nat):Int→Option Bool
 |a=>((cond (decide (a≥97))
 (cond (decide (a≤122))
 (some true)
 (cond (decide (a≥65))
 (some (decide (a≤90)))
 (some false)))
 (cond (decide (a≥65))
 (some (decide (a≤90)))
 (some false))).bind fun b=>
 some b)
def G241:SEnv:=(Gz N).put 241 s241 (F241 N)
theorem K241:EnvOK tab (G241 N):=(Kz N).put ((Kz N).on s241) _ _ _ (funext fun a=>by rw[F241];kernel_rfl)
def s175:Sig:=⟨[.c (.str)],[(false,[.bool])],0,[(0,1,17,.bool),(0,10,40,.bool)],[],[],[]⟩
def y175_0:SEnv:=(G241 N).on s175
def f175.T0_6:Tmpl:=tm [(0,.c (.str)),(3,.c (.int .i64))] [] [] 1 [] 0
def f175.O0_6:Outs:=[(.ret,tm [(2,.c (.bool))] [] [] 1 [] 0),(.exit 0,tm [] [] [] 1 [] 0)]
def f175.L0_6:Nat→List UInt8×Int→Option (Bool⊕Unit)
 |0,_=>none
 |k+1,(a,b)=>(cond (decide (b<(a.length:Int)))
 (((idx a b).bind fun c5=>
 ((F241 N (c5.toNat:Int)).bind fun c=>
 (cond (!c)
 ((idx a b).bind fun c7=>
 (cond (decide ((c7.toNat:Int)<48))
 (some true)
 ((idx a b).bind fun c8=>
 some (decide ((c8.toNat:Int)>57)))))
 (some false)))).bind fun d=>
 (cond d
 (some (Sum.inl false))
 (f175.L0_6 k (a,(wi64 (b+1))))))
 (some (Sum.inr ())))
theorem f175.M0_6:∀ k,f175.L0_6 N k=lp (y175_0 N) 0 6 (tq 175) 6 f175.T0_6 f175.O0_6 k
 |0=>rfl
 |k+1=>funext fun⟨a,b⟩=>by rw[f175.L0_6,f175.M0_6 k];kernel_rfl
def y175_1:SEnv:=(y175_0 N).addLoop N 0 6 f175.T0_6 f175.O0_6
def F175:List UInt8→Option Bool
 |a=>((cond (decide ((a.length:Int)<1))
 (some true)
 (cond (decide ((a.length:Int)>16))
 (some true)
 ((idx a 0).bind fun c0=>
 ((F241 N (c0.toNat:Int)).bind fun b=>
 some (!b))))).bind fun c=>
 (cond c
 (some false)
 ((f175.L0_6 N N (a,0)).bind fun d=>
 (match d with
 |.inl e=>some e
 |.inr f=>some true))))
def G175:SEnv:=(G241 N).put 175 s175 (F175 N)
theorem K175:EnvOK tab (G175 N):=(K241 N).put (((K241 N).on s175).addLoop N 0 6 f175.T0_6 f175.O0_6) _ _ _ (funext fun a=>by rw[F175,f175.M0_6 N N];kernel_rfl)
def s176:Sig:=sg [.c (.sl TField .bor),.c (.int .i64)] [(false,[.bool])]
def y176_0:SEnv:=(G175 N).on s176
def f176.T0_15:Tmpl:=tm [(0,.c (.sl TField .bor)),(5,.c (.int .i64)),(6,.c (.int .i64))] [] [] 1 [] 0
def f176.O0_15:Outs:=[(.ret,tm [(4,.c (.bool))] [] [] 1 [] 0),(.exit 2,tm [(0,.c (.sl TField .bor)),(5,.c (.int .i64))] [] [] 1 [] 0)]
def f176.L0_15 (N:Nat):Nat→List Field×Int×Int→Option (Bool⊕(List Field×Int))
 |0,_=>none
 |k+1,(a,b,c)=>(cond (decide (c<b))
 ((idx a c).bind fun d=>
 ((idx a b).bind fun e=>
 (cond (d.1==e.1)
 (some (Sum.inl false))
 (f176.L0_15 N k (a,b,(wi64 (c+1)))))))
 (some (Sum.inr (a,b))))
theorem f176.M0_15:∀ k,f176.L0_15 N k=lp (y176_0 N) 0 15 (tq 176) 15 f176.T0_15 f176.O0_15 k
 |0=>rfl
 |k+1=>funext fun⟨a,b,c⟩=>by rw[f176.L0_15,f176.M0_15 k];kernel_rfl
def y176_1:SEnv:=(y176_0 N).addLoop N 0 15 f176.T0_15 f176.O0_15
def f176.T0_6:Tmpl:=tm [(0,.c (.sl TField .bor)),(5,.c (.int .i64))] [] [] 1 [] 0
def f176.O0_6:Outs:=[(.ret,tm [(4,.c (.bool))] [] [] 1 [] 0),(.exit 0,tm [] [] [] 1 [] 0)]
def f176.L0_6:Nat→List Field×Int→Option (Bool⊕Unit)
 |0,_=>none
 |k+1,(a,b)=>(cond (decide (b<(a.length:Int)))
 ((idx a b).bind fun d=>
 ((F175 N d.1).bind fun e=>
 (cond (!e)
 (some (Sum.inl false))
 ((f176.L0_15 N N (a,b,0)).bind fun f=>
 (match f with
 |.inl g=>some (Sum.inl g)
 |.inr c=>f176.L0_6 k (c.1,(wi64 (c.2+1))))))))
 (some (Sum.inr ())))
theorem f176.M0_6:∀ k,f176.L0_6 N k=lp (y176_1 N) 0 6 (tq 176) 6 f176.T0_6 f176.O0_6 k
 |0=>rfl
 |k+1=>funext fun⟨a,b⟩=>by rw[f176.L0_6,f176.M0_6 k,f176.M0_15 N N];kernel_rfl
def y176_2:SEnv:=(y176_1 N).addLoop N 0 6 f176.T0_6 f176.O0_6
def F176:List Field×Int→Option Bool
 |(a,b)=>(cond (decide ((a.length:Int)>b))
 (some false)
 ((f176.L0_6 N N (a,0)).bind fun c=>
 (match c with
 |.inl d=>some d
 |.inr e=>some true)))
def G176:SEnv:=(G175 N).put 176 s176 (F176 N)
theorem K176:EnvOK tab (G176 N):=(K175 N).put ((((K175 N).on s176).addLoop N 0 15 f176.T0_15 f176.O0_15).addLoop N 0 6 f176.T0_6 f176.O0_6) _ _ _ (funext fun⟨a,b⟩=>by rw[F176,f176.M0_6 N N];kernel_rfl)
def s172:Sig:=⟨[.c (.sl TGType .bor),.c (.int .i64)],[(false,[.bool])],0,[(0,7,13,.bool),(0,5,13,.bool),(0,10,4,.bool),(0,12,31,.bool),(0,15,4,.bool),(0,18,4,.bool),(0,27,107,.bool),(0,31,4,.bool)],[],[],[]⟩
def y172_0:SEnv:=(G176 N).on s172
def f172.T0_23:Tmpl:=tm [(1,.c (.int .i64)),(5,.c (.ptr 0 5 0 0 0)),(6,.c (.int .i64))] [] [(0,5,.box 0 (cshOf TGType))] 1 [] 1
def f172.O0_23:Outs:=[(.ret,tm [(4,.c (.bool))] [] [] 1 [] 0),(.exit 1,tm [(5,.c (.ptr 0 5 0 0 0))] [] [(0,5,.box 0 (cshOf TGType))] 1 [] 1)]
def f172.L0_23 (N:Nat):Nat→Int×Int×WGType→Option (Bool⊕WGType)
 |0,_=>none
 |k+1,(c,b,d,e,f,a)=>(cond (decide (b<(a.length:Int)))
 (((idx a b).bind fun g=>
 (cond (decide (g.2<0))
 (some true)
 ((idx a b).bind fun h=>
 some (decide (h.2≥c))))).bind fun i=>
 (cond i
 (some (Sum.inl false))
 (f172.L0_23 N k (c,(wi64 (b+1)),d,e,f,a))))
 (some (Sum.inr (d,e,f,a))))
theorem f172.M0_23:∀ k,f172.L0_23 N k=lp (y172_0 N) 0 23 (tq 172) 23 f172.T0_23 f172.O0_23 k
 |0=>rfl
 |k+1=>funext fun⟨a,b,c,d,e,f⟩=>by rw[f172.L0_23,f172.M0_23 k];kernel_rfl
def y172_1:SEnv:=(y172_0 N).addLoop N 0 23 f172.T0_23 f172.O0_23
def F172:List GType×Int→Option Bool
 |(d,c)=>((idx d c).bind fun a=>
 ((cond (a.1==1)
 (some true)
 ((cond (a.1==2)
 (some true)
 (some (a.1==3))).bind fun e=>
 some e)).bind fun f=>
 (cond f
 ((cond (a.2.1==0)
 (cond (a.2.2.1==0)
 (some ((a.2.2.2.length:Int)==0))
 (some false))
 (some false)).bind fun g=>
 some g)
 ((cond (a.1==4)
 (some true)
 (some (a.1==7))).bind fun h=>
 (cond h
 ((cond (decide (a.2.1≥0))
 (cond (decide (a.2.1<(d.length:Int)))
 (cond (a.2.2.1==0)
 (some ((a.2.2.2.length:Int)==0))
 (some false))
 (some false))
 (some false)).bind fun i=>
 some i)
 (cond (a.1==6)
 ((cond (decide (a.2.1≥0))
 (cond (decide (a.2.1<c))
 (cond (decide (a.2.2.1≥1))
 (cond (decide (a.2.2.1≤16))
 (some ((a.2.2.2.length:Int)==0))
 (some false))
 (some false))
 (some false))
 (some false)).bind fun j=>
 some j)
 (cond (a.1==5)
 ((f172.L0_23 N N (c,0,a.1,a.2.1,a.2.2.1,a.2.2.2)).bind fun l=>
 (match l with
 |.inl m=>some m
 |.inr b=>((cond (b.2.1==0)
 (cond (b.2.2.1==0)
 (cond (decide ((b.2.2.2.length:Int)>0))
 ((F176 N (b.2.2.2,8)).bind fun n=>
 some n)
 (some false))
 (some false))
 (some false)).bind fun o=>
 some o)))
 (some false))))))))
def G172:SEnv:=(G176 N).put 172 s172 (F172 N)
theorem K172:EnvOK tab (G172 N):=(K176 N).put (((K176 N).on s172).addLoop N 0 23 f172.T0_23 f172.O0_23) _ _ _ (funext fun⟨a,b⟩=>by rw[F172,f172.M0_23 N N];kernel_rfl)
def s240:Sig:=⟨[.agg (shB TGType)],[(false,[.sl (.int .i64) .d])],0,[],[],[(0,11,(.int .i64)),(0,27,(.int .i64))],[]⟩
def y240_0:SEnv:=(G172 N).on s240
def f240.T0_7:Tmpl:=tm [(1,.c (.ptr 0 1 0 0 0)),(3,.c (.sl (.int .i64) (.app 1))),(4,.c (.int .i64))] [] [(0,1,.box 0 (shB TGType))] 1 [1] 2
def f240.O0_7:Outs:=[(.exit 0,tm [(3,.c (.sl (.int .i64) (.app 0)))] [] [] 1 [0] 1)]
def f240.L0_7 (N:Nat):Nat→List Int×Int×WGType→Option ((List Int))
 |0,_=>none
 |k+1,(a,b,d,e,f,c)=>(cond (decide (b<(c.length:Int)))
 ((idx c b).bind fun g=>
 (chk (room (a.length+1) 8)
 (f240.L0_7 N k ((a++[g.2]),(wi64 (b+1)),d,e,f,c))))
 (some a))
theorem f240.M0_7:∀ k,f240.L0_7 N k=lp (y240_0 N) 0 7 (tq 240) 7 f240.T0_7 f240.O0_7 k
 |0=>rfl
 |k+1=>funext fun⟨a,b,c,d,e,f⟩=>by rw[f240.L0_7,f240.M0_7 k];kernel_rfl
def y240_1:SEnv:=(y240_0 N).addLoop N 0 7 f240.T0_7 f240.O0_7
def F240:WGType→Option (List Int)
 |(a,b,c,d)=>(cond (a==6)
 (chk (room 1 8)
 ((f240.L0_7 N N ([b],0,a,b,c,d)).bind fun e=>
 some e))
 ((f240.L0_7 N N ([],0,a,b,c,d)).bind fun f=>
 some f))
def G240:SEnv:=(G172 N).put 240 s240 (F240 N)
theorem K240:EnvOK tab (G240 N):=(K172 N).put (((K172 N).on s240).addLoop N 0 7 f240.T0_7 f240.O0_7) _ _ _ (funext fun⟨a,b,c,d⟩=>by rw[F240,f240.M0_7 N N];kernel_rfl)
def s173:Sig:=⟨[.c (.sl TGType .bor),.c (.int .i64)],[(false,[.sl (.int .i64) .d])],0,[(0,21,11,(.int .i64)),(0,25,67,.bool),(0,26,8,(.int .i64)),(0,28,88,.bool),(0,29,8,(.int .i64))],[],[(0,103,(.int .i64))],[]⟩
abbrev R173:Type:=(List GType)×Int→Option (List Int)
def y173_0 (R:R173):SEnv:=((G240 N).on s173).put 173 s173 R
def f173.T0_15:Tmpl:=tm [(0,.c (.sl TGType .bor)),(1,.c (.int .i64)),(5,.c (.sl (.int .i64) .d)),(6,.c (.sl (.int .i64) (.app 0))),(7,.c (.int .i64)),(8,.c (.int .i64)),(9,.c (.sl (.int .i64) .d)),(10,.c (.int .i64))] [] [] 1 [0] 1
def f173.O0_15:Outs:=[(.exit 2,tm [(0,.c (.sl TGType .bor)),(1,.c (.int .i64)),(5,.c (.sl (.int .i64) .d)),(6,.c (.sl (.int .i64) (.app 0))),(7,.c (.int .i64)),(8,.c (.int .i64))] [] [] 1 [0] 1)]
def f173.L0_15 (N:Nat) (R:R173):Nat→List GType×Int×List Int×List Int×Int×Int×List Int×Int→Option ((List GType×Int×List Int×List Int×Int×Int))
 |0,_=>none
 |k+1,(a,f,g,c,b,h,d,e)=>(cond (decide (e<(d.length:Int)))
 ((idx a b).bind fun i=>
 ((cond (i.1==6)
 ((idx a b).bind fun j=>
 some j.2.2.1)
 (some 1)).bind fun l=>
 ((idx d e).bind fun m=>
 ((idx c m).bind fun n=>
 f173.L0_15 N R k (a,f,g,c,b,(min (wi64 (h+(wi64 (l*n)))) 5001),d,(wi64 (e+1)))))))
 (some (a,f,g,c,b,h)))
theorem f173.M0_15 (R:R173):∀ k,f173.L0_15 N R k=lp (y173_0 N R) 0 15 (tq 173) 15 f173.T0_15 f173.O0_15 k
 |0=>rfl
 |k+1=>funext fun⟨a,b,c,d,e,f,g,h⟩=>by rw[f173.L0_15,f173.M0_15 R k];kernel_rfl
def y173_1 (R:R173):SEnv:=(y173_0 N R).addLoop N 0 15 f173.T0_15 f173.O0_15
def f173.T0_8:Tmpl:=tm [(0,.c (.sl TGType .bor)),(1,.c (.int .i64)),(5,.c (.sl (.int .i64) .d)),(6,.c (.sl (.int .i64) (.app 0))),(7,.c (.int .i64))] [] [] 1 [0] 1
def f173.O0_8:Outs:=[(.exit 0,tm [(6,.c (.sl (.int .i64) (.app 0)))] [] [] 1 [0] 1)]
def f173.L0_8 (R:R173):Nat→List GType×Int×List Int×List Int×Int→Option ((List Int))
 |0,_=>none
 |k+1,(c,g,h,e,d)=>(cond (decide (d<(c.length:Int)))
 ((idx c d).bind fun b=>
 ((F240 N (b.1,b.2.1,b.2.2.1,b.2.2.2)).bind fun i=>
 ((f173.L0_15 N R N (c,g,h,e,d,1,i,0)).bind fun a=>
 ((cond (decide (a.2.1>0))
 ((idx a.1 a.2.2.2.2.1).bind fun j=>
 some (j.1==4))
 (some false)).bind fun l=>
 ((cond l
 ((idx a.1 a.2.2.2.2.1).bind fun m=>
 ((idx a.2.2.1 m.2.1).bind fun n=>
 some (min (wi64 (a.2.2.2.2.2+n)) 5001)))
 (some a.2.2.2.2.2)).bind fun f=>
 ((cond (decide (a.2.1>0))
 ((idx a.1 a.2.2.2.2.1).bind fun o=>
 some (o.1==7))
 (some false)).bind fun p=>
 ((cond p
 ((idx a.1 a.2.2.2.2.1).bind fun q=>
 ((idx a.2.2.1 q.2.1).bind fun r=>
 some (min (wi64 (f+(wi64 (16*r)))) 5001)))
 (some f)).bind fun s=>
 (chk (room (a.2.2.2.1.length+1) 8)
 (f173.L0_8 R k (a.1,a.2.1,a.2.2.1,(a.2.2.2.1++[s]),(wi64 (a.2.2.2.2.1+1))))))))))))
 (some e))
theorem f173.M0_8 (R:R173):∀ k,f173.L0_8 N R k=lp (y173_1 N R) 0 8 (tq 173) 8 f173.T0_8 f173.O0_8 k
 |0=>rfl
 |k+1=>funext fun⟨a,b,c,d,e⟩=>by rw[f173.L0_8,f173.M0_8 R k,f173.M0_15 N R N];kernel_rfl
def y173_2 (R:R173):SEnv:=(y173_1 N R).addLoop N 0 8 f173.T0_8 f173.O0_8
def F173:Nat→List GType×Int→Option (List Int)
 |0,_=>none
 |N+1,(b,a)=>(cond (decide (a>0))
 ((F173 N (b,(wi64 (a-1)))).bind fun c=>
 ((f173.L0_8 N (F173 N) N (b,a,c,[],0)).bind fun d=>
 some d))
 ((f173.L0_8 N (F173 N) N (b,a,[],[],0)).bind fun e=>
 some e))
theorem ok173:∀ N:Nat,CalOK tab 173 (s173.cal (F173 N))
 |0=>calOK_zero fun _=>rfl
 |N+1=>(fn_ok (((((K240 N).on s173).addCal (ok173 N)).addLoop N 0 15 f173.T0_15 f173.O0_15).addLoop N 0 8 f173.T0_8 f173.O0_8) fuelW 173 s173.a s173.ta s173.r s173.tr s173.k).plain (funext fun⟨a,b⟩=>by rw[F173,f173.M0_8 N (F173 N) N];kernel_rfl)
def G173:SEnv:=(G240 N).put 173 s173 (F173 N)
theorem K173:EnvOK tab (G173 N):=(K240 N).addCal (ok173 N)
def s97:Sig:=sg [.c (.sl TGType .bor)] [(false,[.int .i64])]
def y97_0:SEnv:=(G173 N).on s97
def f97.T0_6:Tmpl:=tm [(0,.c (.sl TGType .bor)),(3,.c (.int .i64))] [] [] 1 [] 0
def f97.O0_6:Outs:=[(.ret,tm [(2,.c (.int .i64))] [] [] 1 [] 0),(.exit 0,tm [(0,.c (.sl TGType .bor))] [] [] 1 [] 0)]
def f97.L0_6:Nat→List GType×Int→Option (Int⊕(List GType))
 |0,_=>none
 |k+1,(a,b)=>(cond (decide (b<(a.length:Int)))
 ((F172 N (a,b)).bind fun c=>
 (cond (!c)
 (some (Sum.inl 8))
 (f97.L0_6 k (a,(wi64 (b+1))))))
 (some (Sum.inr a)))
theorem f97.M0_6:∀ k,f97.L0_6 N k=lp (y97_0 N) 0 6 (tq 97) 6 f97.T0_6 f97.O0_6 k
 |0=>rfl
 |k+1=>funext fun⟨a,b⟩=>by rw[f97.L0_6,f97.M0_6 k];kernel_rfl
def y97_1:SEnv:=(y97_0 N).addLoop N 0 6 f97.T0_6 f97.O0_6
def f97.T0_17:Tmpl:=tm [(0,.c (.sl TGType .bor)),(4,.c (.sl (.int .i64) .d)),(5,.c (.int .i64))] [] [] 1 [] 0
def f97.O0_17:Outs:=[(.ret,tm [(2,.c (.int .i64))] [] [] 1 [] 0),(.exit 2,tm [] [] [] 1 [] 0)]
def f97.L0_17 (N:Nat):Nat→List GType×List Int×Int→Option (Int⊕Unit)
 |0,_=>none
 |k+1,(b,c,a)=>(cond (decide (a<(b.length:Int)))
 ((idx c a).bind fun d=>
 (cond (decide (d>5000))
 (some (Sum.inl 8))
 (f97.L0_17 N k (b,c,(wi64 (a+1))))))
 (some (Sum.inr ())))
theorem f97.M0_17:∀ k,f97.L0_17 N k=lp (y97_1 N) 0 17 (tq 97) 17 f97.T0_17 f97.O0_17 k
 |0=>rfl
 |k+1=>funext fun⟨a,b,c⟩=>by rw[f97.L0_17,f97.M0_17 k];kernel_rfl
def y97_2:SEnv:=(y97_1 N).addLoop N 0 17 f97.T0_17 f97.O0_17
def F97:List GType→Option Int
 |a=>(cond (decide ((a.length:Int)>32))
 (some 8)
 ((f97.L0_6 N N (a,0)).bind fun c=>
 (match c with
 |.inl d=>some d
 |.inr b=>((F173 N (b,3)).bind fun e=>
 ((f97.L0_17 N N (b,e,0)).bind fun f=>
 (match f with
 |.inl g=>some g
 |.inr h=>some 0))))))
def G97:SEnv:=(G173 N).put 97 s97 (F97 N)
theorem K97:EnvOK tab (G97 N):=(K173 N).put ((((K173 N).on s97).addLoop N 0 6 f97.T0_6 f97.O0_6).addLoop N 0 17 f97.T0_17 f97.O0_17) _ _ _ (funext fun a=>by rw[F97,f97.M0_6 N N,f97.M0_17 N N];kernel_rfl)
def s120:Sig:=sg [.c (.int .i64),.c (.int .i64)] [(false,[.int .i64])]
def F120 (N:Nat):Int×Int→Option Int
 |(b,a)=>(chk (!decide (a=0))
 (some (wi64 ((wi64 (Int.tdiv (wi64 ((wi64 (b+a))-1)) a))*a))))
def G120:SEnv:=(G97 N).put 120 s120 (F120 N)
theorem K120:EnvOK tab (G120 N):=(K97 N).put ((K97 N).on s120) _ _ _ (funext fun⟨a,b⟩=>by rw[F120];kernel_rfl)
def s174:Sig:=⟨[.c (.sl (.int .i64) .bor),.c (.sl (.int .i64) .bor),.c (.sl TField .bor)],[(false,[.sl (.int .i64) .d]),(false,[.int .i64]),(false,[.int .i64])],0,[],[],[(0,34,(.int .i64))],[]⟩
def y174_0:SEnv:=(G120 N).on s174
def f174.T0_5:Tmpl:=tm [(0,.c (.sl (.int .i64) .bor)),(1,.c (.sl (.int .i64) .bor)),(2,.c (.sl TField .bor)),(9,.c (.sl (.int .i64) (.app 0))),(10,.c (.int .i64)),(11,.c (.int .i64)),(12,.c (.int .i64))] [] [] 1 [0] 1
def f174.O0_5:Outs:=[(.exit 0,tm [(9,.c (.sl (.int .i64) (.app 0))),(10,.c (.int .i64)),(11,.c (.int .i64))] [] [] 1 [0] 1)]
def f174.L0_5:Nat→List Int×List Int×List Field×List Int×Int×Int×Int→Option ((List Int×Int×Int))
 |0,_=>none
 |k+1,(f,a,b,c,g,h,d)=>(cond (decide (d<(b.length:Int)))
 ((idx b d).bind fun e=>
 ((idx a e.2).bind fun j=>
 ((F120 N (g,j)).bind fun i=>
 (chk (room (c.length+1) 8)
 ((idx f e.2).bind fun l=>
 ((idx a e.2).bind fun m=>
 f174.L0_5 k (f,a,b,(c++[i]),(min 1000000 (wi64 (i+l))),(max h m),(wi64 (d+1)))))))))
 (some (c,g,h)))
theorem f174.M0_5:∀ k,f174.L0_5 N k=lp (y174_0 N) 0 5 (tq 174) 5 f174.T0_5 f174.O0_5 k
 |0=>rfl
 |k+1=>funext fun⟨a,b,c,d,e,f,g⟩=>by rw[f174.L0_5,f174.M0_5 k];kernel_rfl
def y174_1:SEnv:=(y174_0 N).addLoop N 0 5 f174.T0_5 f174.O0_5
def F174:List Int×List Int×List Field→Option (List Int×Int×Int)
 |(b,c,d)=>((f174.L0_5 N N (b,c,d,[],0,1,0)).bind fun a=>
 ((F120 N (a.2.1,a.2.2)).bind fun e=>
 some (a.1,(min 1000000 e),a.2.2)))
def G174:SEnv:=(G120 N).put 174 s174 (F174 N)
theorem K174:EnvOK tab (G174 N):=(K120 N).put (((K120 N).on s174).addLoop N 0 5 f174.T0_5 f174.O0_5) _ _ _ (funext fun⟨a,b,c⟩=>by rw[F174,f174.M0_5 N N];kernel_rfl)
def s98:Sig:=⟨[.c (.sl TGType .bor)],[(false,[.sl (.int .i64) .d]),(false,[.sl (.int .i64) .d])],0,[],[],[(0,67,(.int .i64)),(0,71,(.int .i64))],[]⟩
def y98_0:SEnv:=(G174 N).on s98
def f98.T0_4:Tmpl:=tm [(0,.c (.sl TGType .bor)),(4,.c (.sl (.int .i64) (.app 0))),(5,.c (.sl (.int .i64) (.app 1))),(6,.c (.int .i64))] [] [] 1 [0,1] 2
def f98.O0_4:Outs:=[(.exit 0,tm [(4,.c (.sl (.int .i64) (.app 0))),(5,.c (.sl (.int .i64) (.app 1)))] [] [] 1 [0,1] 2)]
def f98.L0_4:Nat→List GType×List Int×List Int×Int→Option ((List Int×List Int))
 |0,_=>none
 |k+1,(c,a,b,d)=>(cond (decide (d<(c.length:Int)))
 ((idx c d).bind fun e=>
 (cond (e.1==1)
 (chk (room (a.length+1) 8)
 (chk (room (b.length+1) 8)
 (f98.L0_4 k (c,(a++[1]),(b++[1]),(wi64 (d+1))))))
 (cond (e.1==3)
 (chk (room (a.length+1) 8)
 (chk (room (b.length+1) 8)
 (f98.L0_4 k (c,(a++[16]),(b++[8]),(wi64 (d+1))))))
 (cond (e.1==7)
 (chk (room (a.length+1) 8)
 (chk (room (b.length+1) 8)
 (f98.L0_4 k (c,(a++[24]),(b++[8]),(wi64 (d+1))))))
 (cond (e.1==6)
 ((idx c d).bind fun g=>
 ((idx c d).bind fun h=>
 ((idx a h.2.1).bind fun i=>
 ((idx c d).bind fun j=>
 ((idx b j.2.1).bind fun l=>
 (chk (room (a.length+1) 8)
 (chk (room (b.length+1) 8)
 (f98.L0_4 k (c,(a++[(min 1000000 (wi64 (g.2.2.1*i)))]),(b++[l]),(wi64 (d+1)))))))))))
 (cond (e.1==5)
 ((idx c d).bind fun m=>
 ((F174 N (a,b,m.2.2.2)).bind fun f=>
 (chk (room (a.length+1) 8)
 (chk (room (b.length+1) 8)
 (f98.L0_4 k (c,(a++[f.2.1]),(b++[f.2.2]),(wi64 (d+1))))))))
 (chk (room (a.length+1) 8)
 (chk (room (b.length+1) 8)
 (f98.L0_4 k (c,(a++[8]),(b++[8]),(wi64 (d+1))))))))))))
 (some (a,b)))
theorem f98.M0_4:∀ k,f98.L0_4 N k=lp (y98_0 N) 0 4 (tq 98) 4 f98.T0_4 f98.O0_4 k
 |0=>rfl
 |k+1=>funext fun⟨a,b,c,d⟩=>by rw[f98.L0_4,f98.M0_4 k];kernel_rfl
def y98_1:SEnv:=(y98_0 N).addLoop N 0 4 f98.T0_4 f98.O0_4
def F98:List GType→Option (List Int×List Int)
 |b=>((f98.L0_4 N N (b,[],[],0)).bind fun a=>
 some (a.1,a.2))
def G98:SEnv:=(G174 N).put 98 s98 (F98 N)
theorem K98:EnvOK tab (G98 N):=(K174 N).put (((K174 N).on s98).addLoop N 0 4 f98.T0_4 f98.O0_4) _ _ _ (funext fun a=>by rw[F98,f98.M0_4 N N];kernel_rfl)
def s115:Sig:=⟨[.c (.int .u8)],[(false,[.str])],0,[(0,13,10,.bool),(0,24,13,.bool),(0,22,13,.bool),(0,20,13,.bool),(0,18,13,.bool),(0,39,19,.bool),(0,37,19,.bool),(0,35,19,.bool),(0,33,19,.bool),(0,31,19,.bool),(0,29,19,.bool),(0,64,39,.bool),(0,62,39,.bool),(0,72,45,.bool),(0,80,50,.bool)],[],[],[]⟩
def F115 (N:Nat):Int→Option (List UInt8)
 |a=>(cond (a==1)
 (some [119,110,45])
 (cond (a==2)
 (some [119,116,45])
 (cond (a==3)
 (some [119,98,45])
 ((cond (a==4)
 (some true)
 (some (a==15))).bind fun b=>
 (cond b
 (some [119,45,45])
 ((cond (a==5)
 (some true)
 ((cond (a==12)
 (some true)
 ((cond (a==16)
 (some true)
 ((cond (a==18)
 (some true)
 (some (a==21))).bind fun c=>
 some c)).bind fun d=>
 some d)).bind fun e=>
 some e)).bind fun f=>
 (cond f
 (some [119,114,45])
 ((cond (a==6)
 (some true)
 ((cond (a==7)
 (some true)
 ((cond (a==8)
 (some true)
 ((cond (a==9)
 (some true)
 ((cond (a==10)
 (some true)
 ((cond (a==11)
 (some true)
 (some (a==19))).bind fun g=>
 some g)).bind fun h=>
 some h)).bind fun i=>
 some i)).bind fun j=>
 some j)).bind fun l=>
 some l)).bind fun m=>
 (cond m
 (some [119,114,114])
 (cond (a==13)
 (some [119,114,102])
 (cond (a==14)
 (some [114,102,114])
 (cond (a==17)
 (some [114,114,45])
 (cond (a==20)
 (some [114,114,114])
 (cond (a==22)
 (some [105,45,45])
 (cond (a==23)
 (some [114,105,45])
 ((cond (a==24)
 (some true)
 ((cond (a==28)
 (some true)
 (some (a==32))).bind fun n=>
 some n)).bind fun o=>
 (cond o
 (some [114,45,45])
 (cond (a==25)
 (some [103,99,45])
 ((cond (a==26)
 (some true)
 (some (a==27))).bind fun p=>
 (cond p
 (some [99,45,45])
 (cond (a==29)
 (some [119,119,45])
 ((cond (a==30)
 (some true)
 (some (a==31))).bind fun q=>
 (cond q
 (some [45,45,45])
 (cond (a==33)
 (some [119,114,45])
 (cond (a==34)
 (some [101,45,45])
 (some ([]:List UInt8)))))))))))))))))))))))))))
def G115:SEnv:=(G98 N).put 115 s115 (F115 N)
theorem K115:EnvOK tab (G115 N):=(K98 N).put ((K98 N).on s115) _ _ _ (funext fun a=>by rw[F115];kernel_rfl)
def s116:Sig:=sg [.agg (cshOf TInstr)] [(true,[.int .i64,.int .i64,.int .i64])]
def F116 (N:Nat):WInstr→Option (Int×Int×Int)
 |(d,a,b,c)=>some (a,b,c)
def G116:SEnv:=(G115 N).put 116 s116 (F116 N)
theorem K116:EnvOK tab (G116 N):=(K115 N).put ((K115 N).on s116) _ _ _ (funext fun⟨a,b,c,d⟩=>by rw[F116];kernel_rfl)
def s179:Sig:=⟨[.c (.int .u8),.c (.int .i64)],[(false,[.bool])],0,[(0,7,10,.bool),(0,10,4,.bool),(0,12,19,.bool),(0,15,4,.bool),(0,17,28,.bool),(0,20,4,.bool),(0,23,4,.bool),(0,26,4,.bool),(0,29,4,.bool)],[],[],[]⟩
def F179 (N:Nat):Int×Int→Option Bool
 |(b,a)=>(cond (b==45)
 (some (a==0))
 ((cond (b==119)
 (some true)
 (some (b==114))).bind fun c=>
 (cond c
 ((cond (decide (a≥0))
 (some (decide (a<16)))
 (some false)).bind fun d=>
 some d)
 ((cond (b==103)
 (some true)
 (some (b==101))).bind fun e=>
 (cond e
 ((cond (decide (a≥(-1)))
 (some (decide (a<16)))
 (some false)).bind fun f=>
 some f)
 ((cond (b==116)
 (some true)
 (some (b==99))).bind fun g=>
 (cond g
 ((cond (decide (a≥0))
 (some (decide (a<32)))
 (some false)).bind fun h=>
 some h)
 (cond (b==98)
 ((cond (decide (a≥0))
 (some (decide (a<2)))
 (some false)).bind fun i=>
 some i)
 (cond (b==102)
 ((cond (decide (a≥0))
 (some (decide (a<8)))
 (some false)).bind fun j=>
 some j)
 (cond (b==105)
 ((cond (decide (a≥0))
 (some (decide (a<200)))
 (some false)).bind fun l=>
 some l)
 (some true)))))))))))
def G179:SEnv:=(G116 N).put 179 s179 (F179 N)
theorem K179:EnvOK tab (G179 N):=(K116 N).put ((K116 N).on s179) _ _ _ (funext fun⟨a,b⟩=>by rw[F179];kernel_rfl)
def s107:Sig:=⟨[.agg (cshOf TInstr)],[(false,[.int .i64])],0,[(0,11,25,.bool),(0,100011,25,.bool)],[(0,7),(0,100007)],[],[]⟩
def F107:WInstr→Option Int
 |(c,d,e,f)=>((F115 N c).bind fun a=>
 ((F116 N (c,d,e,f)).bind fun b=>
 (cond ((a.length:Int) != 3)
 (some 8)
 (((idx a 0).bind fun c2=>
 ((F179 N ((c2.toNat:Int),b.1)).bind fun g=>
 some (!g))).bind fun h=>
 (cond h
 (some 8)
 (((idx a 1).bind fun c5=>
 ((F179 N ((c5.toNat:Int),b.2.1)).bind fun i=>
 some (!i))).bind fun j=>
 (cond j
 (some 8)
 (((idx a 2).bind fun c8=>
 ((F179 N ((c8.toNat:Int),b.2.2)).bind fun l=>
 some (!l))).bind fun m=>
 (cond m
 (some 8)
 (some 0))))))))))
def G107:SEnv:=(G179 N).put 107 s107 (F107 N)
theorem K107:EnvOK tab (G107 N):=(K179 N).put ((K179 N).on s107) _ _ _ (funext fun⟨a,b,c,d⟩=>by rw[F107];kernel_rfl)
def s177:Sig:=⟨[.c (.sl TRun .bor),.c (.int .i64)],[(false,[.bool])],0,[(0,1,15,.bool),(0,10,60,.bool)],[],[],[]⟩
def y177_0:SEnv:=(G107 N).on s177
def f177.T0_6:Tmpl:=tm [(0,.c (.sl TRun .bor)),(1,.c (.int .i64)),(5,.c (.int .i64))] [] [] 1 [] 0
def f177.O0_6:Outs:=[(.ret,tm [(4,.c (.bool))] [] [] 1 [] 0),(.exit 0,tm [] [] [] 1 [] 0)]
def f177.L0_6 (N:Nat):Nat→List Run×Int×Int→Option (Bool⊕Unit)
 |0,_=>none
 |k+1,(b,c,a)=>(cond (decide (a<(b.length:Int)))
 (((idx b a).bind fun d=>
 (cond (decide (d.1≥c))
 (some true)
 (cond (decide (a>0))
 ((idx b (wi64 (a-1))).bind fun e=>
 ((idx b a).bind fun f=>
 (cond (decide (e.1≥f.1))
 (some true)
 ((idx b (wi64 (a-1))).bind fun g=>
 ((idx b a).bind fun h=>
 some (g.2==h.2))))))
 (some false)))).bind fun i=>
 (cond i
 (some (Sum.inl false))
 (f177.L0_6 N k (b,c,(wi64 (a+1))))))
 (some (Sum.inr ())))
theorem f177.M0_6:∀ k,f177.L0_6 N k=lp (y177_0 N) 0 6 (tq 177) 6 f177.T0_6 f177.O0_6 k
 |0=>rfl
 |k+1=>funext fun⟨a,b,c⟩=>by rw[f177.L0_6,f177.M0_6 k];kernel_rfl
def y177_1:SEnv:=(y177_0 N).addLoop N 0 6 f177.T0_6 f177.O0_6
def F177:List Run×Int→Option Bool
 |(a,b)=>((cond (decide ((a.length:Int)<1))
 (some true)
 ((idx a 0).bind fun c=>
 some (c.1 != 0))).bind fun d=>
 (cond d
 (some false)
 ((f177.L0_6 N N (a,b,0)).bind fun e=>
 (match e with
 |.inl f=>some f
 |.inr g=>some true))))
def G177:SEnv:=(G107 N).put 177 s177 (F177 N)
theorem K177:EnvOK tab (G177 N):=(K107 N).put (((K107 N).on s177).addLoop N 0 6 f177.T0_6 f177.O0_6) _ _ _ (funext fun⟨a,b⟩=>by rw[F177,f177.M0_6 N N];kernel_rfl)
def s99:Sig:=⟨[.c (.sl TGType .bor),.agg (shB TFunc)],[(false,[.bool])],0,[(0,1,53,.bool),(0,10,78,.bool),(0,24,4,.bool)],[],[],[]⟩
def y99_0:SEnv:=(G177 N).on s99
def f99.T0_6:Tmpl:=tm [(0,.c (.sl TGType .bor)),(3,.c (.ptr 0 3 0 0 0)),(5,.c (.int .i64))] [] [(0,3,.box 0 (shB TFunc))] 1 [] 1
def f99.O0_6:Outs:=[(.ret,tm [(4,.c (.bool))] [] [] 1 [] 0),(.exit 0,tm [(3,.c (.ptr 0 3 0 0 0))] [] [(0,3,.box 0 (shB TFunc))] 1 [] 1)]
def f99.L0_6 (N:Nat):Nat→List GType×Int×WFunc→Option (Bool⊕WFunc)
 |0,_=>none
 |k+1,(c,b,d,e,f,a,g,h,i)=>(cond (decide (b<(a.length:Int)))
 (((idx a b).bind fun j=>
 (cond (decide (j.2<0))
 (some true)
 ((idx a b).bind fun l=>
 some (decide (l.2≥(c.length:Int)))))).bind fun m=>
 (cond m
 (some (Sum.inl false))
 (f99.L0_6 N k (c,(wi64 (b+1)),d,e,f,a,g,h,i))))
 (some (Sum.inr (d,e,f,a,g,h,i))))
theorem f99.M0_6:∀ k,f99.L0_6 N k=lp (y99_0 N) 0 6 (tq 99) 6 f99.T0_6 f99.O0_6 k
 |0=>rfl
 |k+1=>funext fun⟨a,b,c,d,e,f,g,h,i⟩=>by rw[f99.L0_6,f99.M0_6 k];kernel_rfl
def y99_1:SEnv:=(y99_0 N).addLoop N 0 6 f99.T0_6 f99.O0_6
def f99.T0_16:Tmpl:=tm [(3,.c (.ptr 0 3 0 0 0)),(6,.c (.int .i64))] [] [(0,3,.box 0 (shB TFunc))] 1 [] 1
def f99.O0_16:Outs:=[(.ret,tm [(4,.c (.bool))] [] [] 1 [] 0),(.exit 2,tm [(3,.c (.ptr 0 3 0 0 0))] [] [(0,3,.box 0 (shB TFunc))] 1 [] 1)]
def f99.L0_16:Nat→Int×WFunc→Option (Bool⊕WFunc)
 |0,_=>none
 |k+1,(c,d,e,f,g,a,h,i)=>(cond (decide (c<(a.length:Int)))
 ((idx a c).bind fun b=>
 ((F107 N (b.1,b.2.1,b.2.2.1,b.2.2.2)).bind fun j=>
 (cond (j != 0)
 (some (Sum.inl false))
 (f99.L0_16 k ((wi64 (c+1)),d,e,f,g,a,h,i)))))
 (some (Sum.inr (d,e,f,g,a,h,i))))
theorem f99.M0_16:∀ k,f99.L0_16 N k=lp (y99_1 N) 0 16 (tq 99) 16 f99.T0_16 f99.O0_16 k
 |0=>rfl
 |k+1=>funext fun⟨a,b,c,d,e,f,g,h⟩=>by rw[f99.L0_16,f99.M0_16 k];kernel_rfl
def y99_2:SEnv:=(y99_1 N).addLoop N 0 16 f99.T0_16 f99.O0_16
def F99:List GType×WFunc→Option Bool
 |(g,h,c,d,e,f,i,j)=>(((F175 N h).bind fun l=>
 (cond (!l)
 (some true)
 ((F176 N (e,16)).bind fun m=>
 (cond (!m)
 (some true)
 (cond (decide (c<0))
 (some true)
 (cond (decide (c>(e.length:Int)))
 (some true)
 (cond (decide (d<(-1)))
 (some true)
 (cond (decide (d≥(g.length:Int)))
 (some true)
 (cond (decide ((f.length:Int)<1))
 (some true)
 (some (decide ((f.length:Int)>200)))))))))))).bind fun n=>
 (cond n
 (some false)
 ((f99.L0_6 N N (g,0,h,c,d,e,f,i,j)).bind fun o=>
 (match o with
 |.inl p=>some p
 |.inr a=>((f99.L0_16 N N (0,a.1,a.2.1,a.2.2.1,a.2.2.2.1,a.2.2.2.2.1,a.2.2.2.2.2.1,a.2.2.2.2.2.2)).bind fun q=>
 (match q with
 |.inl r=>some r
 |.inr b=>(((F177 N (b.2.2.2.2.2.1,(b.2.2.2.2.1.length:Int))).bind fun s=>
 (cond s
 ((F177 N (b.2.2.2.2.2.2,(b.2.2.2.2.1.length:Int))).bind fun t=>
 some t)
 (some false))).bind fun u=>
 some u)))))))
def G99:SEnv:=(G177 N).put 99 s99 (F99 N)
theorem K99:EnvOK tab (G99 N):=(K177 N).put ((((K177 N).on s99).addLoop N 0 6 f99.T0_6 f99.O0_6).addLoop N 0 16 f99.T0_16 f99.O0_16) _ _ _ (funext fun⟨a,b,c,d,e,f,g,h⟩=>by rw[F99,f99.M0_6 N N,f99.M0_16 N N];kernel_rfl)
def s44:Sig:=⟨[.agg (shB TImage)],[(false,[.bool])],0,[(0,1,30,.bool)],[],[],[]⟩
def y44_0:SEnv:=(G99 N).on s44
def f44.T0_7:Tmpl:=tm [(1,.c (.ptr 0 1 0 0 0)),(3,.c (.sl (.int .i64) .d)),(5,.c (.int .i64))] [] [(0,1,.box 0 (shB TImage))] 1 [] 1
def f44.O0_7:Outs:=[(.ret,tm [(2,.c (.bool))] [] [] 1 [] 0),(.exit 0,tm [(1,.c (.ptr 0 1 0 0 0))] [] [(0,1,.box 0 (shB TImage))] 1 [] 1)]
def f44.L0_7 (N:Nat):Nat→List Int×Int×WImage→Option (Bool⊕WImage)
 |0,_=>none
 |k+1,(a,b,c,d,e)=>(cond (decide (b<(a.length:Int)))
 ((idx a b).bind fun f=>
 (cond (decide (f>256))
 (some (Sum.inl false))
 (f44.L0_7 N k (a,(wi64 (b+1)),c,d,e))))
 (some (Sum.inr (c,d,e))))
theorem f44.M0_7:∀ k,f44.L0_7 N k=lp (y44_0 N) 0 7 (tq 44) 7 f44.T0_7 f44.O0_7 k
 |0=>rfl
 |k+1=>funext fun⟨a,b,c,d,e⟩=>by rw[f44.L0_7,f44.M0_7 k];kernel_rfl
def y44_1:SEnv:=(y44_0 N).addLoop N 0 7 f44.T0_7 f44.O0_7
def f44.T0_17:Tmpl:=tm [(1,.c (.ptr 0 1 0 0 0)),(6,.c (.int .i64))] [] [(0,1,.box 0 (shB TImage))] 1 [] 1
def f44.O0_17:Outs:=[(.ret,tm [(2,.c (.bool))] [] [] 1 [] 0),(.exit 2,tm [(1,.c (.ptr 0 1 0 0 0))] [] [(0,1,.box 0 (shB TImage))] 1 [] 1)]
def f44.L0_17 (N:Nat):Nat→Int×WImage→Option (Bool⊕WImage)
 |0,_=>none
 |k+1,(b,c,a,d)=>(cond (decide (b<(a.length:Int)))
 ((idx a b).bind fun e=>
 (cond (decide ((e.length:Int)>64))
 (some (Sum.inl false))
 (f44.L0_17 N k ((wi64 (b+1)),c,a,d))))
 (some (Sum.inr (c,a,d))))
theorem f44.M0_17:∀ k,f44.L0_17 N k=lp (y44_1 N) 0 17 (tq 44) 17 f44.T0_17 f44.O0_17 k
 |0=>rfl
 |k+1=>funext fun⟨a,b,c,d⟩=>by rw[f44.L0_17,f44.M0_17 k];kernel_rfl
def y44_2:SEnv:=(y44_1 N).addLoop N 0 17 f44.T0_17 f44.O0_17
def f44.T0_36:Tmpl:=tm [(1,.c (.ptr 0 1 0 0 0)),(7,.c (.int .i64)),(8,.c (.int .i64))] [] [(0,1,.box 0 (shB TImage))] 1 [] 1
def f44.O0_36:Outs:=[(.ret,tm [(2,.c (.bool))] [] [] 1 [] 0),(.exit 6,tm [(1,.c (.ptr 0 1 0 0 0)),(7,.c (.int .i64))] [] [(0,1,.box 0 (shB TImage))] 1 [] 1)]
def f44.L0_36 (N:Nat):Nat→Int×Int×WImage→Option (Bool⊕(Int×WImage))
 |0,_=>none
 |k+1,(a,c,d,e,b)=>(cond (decide (c<a))
 ((idx b c).bind fun f=>
 ((idx b a).bind fun g=>
 (cond (f.1==g.1)
 (some (Sum.inl false))
 (f44.L0_36 N k (a,(wi64 (c+1)),d,e,b)))))
 (some (Sum.inr (a,d,e,b))))
theorem f44.M0_36:∀ k,f44.L0_36 N k=lp (y44_2 N) 0 36 (tq 44) 36 f44.T0_36 f44.O0_36 k
 |0=>rfl
 |k+1=>funext fun⟨a,b,c,d,e⟩=>by rw[f44.L0_36,f44.M0_36 k];kernel_rfl
def y44_3:SEnv:=(y44_2 N).addLoop N 0 36 f44.T0_36 f44.O0_36
def f44.T0_27:Tmpl:=tm [(1,.c (.ptr 0 1 0 0 0)),(7,.c (.int .i64))] [] [(0,1,.box 0 (shB TImage))] 1 [] 1
def f44.O0_27:Outs:=[(.ret,tm [(2,.c (.bool))] [] [] 1 [] 0),(.exit 4,tm [] [] [] 1 [] 0)]
def f44.L0_27:Nat→Int×WImage→Option (Bool⊕Unit)
 |0,_=>none
 |k+1,(c,e,f,d)=>(cond (decide (c<(d.length:Int)))
 ((idx d c).bind fun a=>
 ((F99 N (e,a.1,a.2.1,a.2.2.1,a.2.2.2.1,a.2.2.2.2.1,a.2.2.2.2.2.1,a.2.2.2.2.2.2)).bind fun g=>
 (cond (!g)
 (some (Sum.inl false))
 ((f44.L0_36 N N (c,0,e,f,d)).bind fun h=>
 (match h with
 |.inl i=>some (Sum.inl i)
 |.inr b=>f44.L0_27 k ((wi64 (b.1+1)),b.2.1,b.2.2.1,b.2.2.2))))))
 (some (Sum.inr ())))
theorem f44.M0_27:∀ k,f44.L0_27 N k=lp (y44_3 N) 0 27 (tq 44) 27 f44.T0_27 f44.O0_27 k
 |0=>rfl
 |k+1=>funext fun⟨a,b,c,d⟩=>by rw[f44.L0_27,f44.M0_27 k,f44.M0_36 N N];kernel_rfl
def y44_4:SEnv:=(y44_3 N).addLoop N 0 27 f44.T0_27 f44.O0_27
def F44:WImage→Option Bool
 |(a,e,b)=>(((F97 N a).bind fun f=>
 (cond (f != 0)
 (some true)
 (cond (decide ((e.length:Int)>32))
 (some true)
 (cond (decide ((b.length:Int)<1))
 (some true)
 (some (decide ((b.length:Int)>32))))))).bind fun g=>
 (cond g
 (some false)
 ((F98 N a).bind fun h=>
 ((f44.L0_7 N N (h.1,0,a,e,b)).bind fun i=>
 (match i with
 |.inl j=>some j
 |.inr c=>((f44.L0_17 N N (0,c.1,c.2.1,c.2.2)).bind fun l=>
 (match l with
 |.inl m=>some m
 |.inr d=>((f44.L0_27 N N (0,d.1,d.2.1,d.2.2)).bind fun n=>
 (match n with
 |.inl o=>some o
 |.inr p=>some true)))))))))
def G44:SEnv:=(G99 N).put 44 s44 (F44 N)
theorem K44:EnvOK tab (G44 N):=(K99 N).put ((((((K99 N).on s44).addLoop N 0 7 f44.T0_7 f44.O0_7).addLoop N 0 17 f44.T0_17 f44.O0_17).addLoop N 0 36 f44.T0_36 f44.O0_36).addLoop N 0 27 f44.T0_27 f44.O0_27) _ _ _ (funext fun⟨a,b,c⟩=>by rw[F44,f44.M0_7 N N,f44.M0_17 N N,f44.M0_27 N N];kernel_rfl)
def s103:Sig:=⟨[.c (.int .u64)],[(false,[.sl (.int .u8) .d])],1,[],[],[(0,2,(.int .u8)),(0,3,(.int .u8)),(0,11,(.int .u8)),(0,18,(.int .u8))],[]⟩
def y103_0:SEnv:=(G44 N).on s103
def f103.T0_3:Tmpl:=tm [(0,.c (.int .u64)),(3,.c (.ref 0 3 0 (.int .u8)))] [] [(0,3,.row 0 (.int .u8))] 1 [] 1
def f103.O0_3:Outs:=[(.exit 0,tm [(0,.c (.int .u64)),(3,.c (.ref 0 3 0 (.int .u8)))] [] [(0,3,.row 0 (.int .u8))] 1 [] 1)]
def f103.L0_3 (N:Nat):Nat→Int×List Int→Option ((Int×List Int))
 |0,_=>none
 |k+1,(a,b)=>(cond (decide (a≥128))
 (chk (room (b.length+1) 1)
 (f103.L0_3 N k ((wu64 (Int.tdiv a 128)),(b++[(wu8 ((wu8 (Int.tmod a 128))+128))]))))
 (some (a,b)))
theorem f103.M0_3:∀ k,f103.L0_3 N k=lp (y103_0 N) 0 3 (tq 103) 3 f103.T0_3 f103.O0_3 k
 |0=>rfl
 |k+1=>funext fun⟨a,b⟩=>by rw[f103.L0_3,f103.M0_3 k];kernel_rfl
def y103_1:SEnv:=(y103_0 N).addLoop N 0 3 f103.T0_3 f103.O0_3
def F103:Int→Option (List Int)
 |b=>((f103.L0_3 N N (b,([]:List Int))).bind fun a=>
 (chk (room (a.2.length+1) 1)
 (some (a.2++[(wu8 a.1)]))))
def G103:SEnv:=(G44 N).put 103 s103 (F103 N)
theorem K103:EnvOK tab (G103 N):=(K44 N).put (((K44 N).on s103).addLoop N 0 3 f103.T0_3 f103.O0_3) _ _ _ (funext fun a=>by rw[F103,f103.M0_3 N N];kernel_rfl)
def s100:Sig:=⟨[.c (.int .i64)],[(false,[.sl (.int .u8) .d])],1,[],[],[(0,2,(.int .u8))],[]⟩
def F100:Int→Option (List Int)
 |a=>((F103 N (wu64 a)).bind fun b=>
 some b)
def G100:SEnv:=(G103 N).put 100 s100 (F100 N)
theorem K100:EnvOK tab (G100 N):=(K103 N).put ((K103 N).on s100) _ _ _ (funext fun a=>by rw[F100];kernel_rfl)
def s102:Sig:=sg [.c (.str)] [(false,[.sl (.int .u8) .d])]
def F102:List UInt8→Option (List Int)
 |a=>((F103 N (wu64 (a.length:Int))).bind fun b=>
 (chk (room (b.length+(bytesL a).length) 1)
 (some (b++(bytesL a)))))
def G102:SEnv:=(G100 N).put 102 s102 (F102 N)
theorem K102:EnvOK tab (G102 N):=(K100 N).put ((K100 N).on s102) _ _ _ (funext fun a=>by rw[F102];kernel_rfl)
def s101:Sig:=sg [.c (.sl TField .bor)] [(false,[.sl (.int .u8) .d])]
def y101_0:SEnv:=(G102 N).on s101
def f101.T0_4:Tmpl:=tm [(0,.c (.sl TField .bor)),(3,.c (.ref 0 7 0 (.int .u8))),(4,.c (.int .i64))] [] [(0,7,.row 0 (.int .u8))] 1 [] 1
def f101.O0_4:Outs:=[(.exit 0,tm [(3,.c (.ref 0 7 0 (.int .u8)))] [] [(0,7,.row 0 (.int .u8))] 1 [] 1)]
def f101.L0_4:Nat→List Field×Int×List Int→Option ((List Int))
 |0,_=>none
 |k+1,(a,b,c)=>(cond (decide (b<(a.length:Int)))
 ((idx a b).bind fun f=>
 ((F102 N f.1).bind fun d=>
 (chk (room (c.length+d.length) 1)
 ((idx a b).bind fun g=>
 ((F100 N g.2).bind fun e=>
 (chk (room ((c++d).length+e.length) 1)
 (f101.L0_4 k (a,(wi64 (b+1)),((c++d)++e)))))))))
 (some c))
theorem f101.M0_4:∀ k,f101.L0_4 N k=lp (y101_0 N) 0 4 (tq 101) 4 f101.T0_4 f101.O0_4 k
 |0=>rfl
 |k+1=>funext fun⟨a,b,c⟩=>by rw[f101.L0_4,f101.M0_4 k];kernel_rfl
def y101_1:SEnv:=(y101_0 N).addLoop N 0 4 f101.T0_4 f101.O0_4
def F101:List Field→Option (List Int)
 |a=>((F100 N (a.length:Int)).bind fun b=>
 ((f101.L0_4 N N (a,0,b)).bind fun c=>
 some c))
def G101:SEnv:=(G102 N).put 101 s101 (F101 N)
theorem K101:EnvOK tab (G101 N):=(K102 N).put (((K102 N).on s101).addLoop N 0 4 f101.T0_4 f101.O0_4) _ _ _ (funext fun a=>by rw[F101,f101.M0_4 N N];kernel_rfl)
def s104:Sig:=sg [.c (.int .i64)] [(false,[.int .u64])]
def F104 (N:Nat):Int→Option Int
 |a=>(cond (decide (a≥0))
 (some (wu64 ((wu64 a)*2)))
 (some (wu64 ((wu64 ((wu64 (wi64 (0-(wi64 (a+1)))))*2))+1))))
def G104:SEnv:=(G101 N).put 104 s104 (F104 N)
theorem K104:EnvOK tab (G104 N):=(K101 N).put ((K101 N).on s104) _ _ _ (funext fun a=>by rw[F104];kernel_rfl)
def s178:Sig:=⟨[.c (.int .u8)],[(false,[.bool])],0,[(0,1,2,.bool)],[],[],[]⟩
def F178 (N:Nat):Int→Option Bool
 |a=>((cond (a==110)
 (some true)
 (cond (a==103)
 (some true)
 (some (a==101)))).bind fun b=>
 some b)
def G178:SEnv:=(G104 N).put 178 s178 (F178 N)
theorem K178:EnvOK tab (G178 N):=(K104 N).put ((K104 N).on s178) _ _ _ (funext fun a=>by rw[F178];kernel_rfl)
def s105:Sig:=⟨[.agg (cshOf TInstr)],[(false,[.sl (.int .u8) .d])],0,[],[(0,5),(0,100005)],[(0,9,(.int .u8))],[]⟩
def F105:WInstr→Option (List Int)
 |(a,E,G,H)=>((F115 N a).bind fun b=>
 ((F116 N (a,E,G,H)).bind fun c=>
 ((idx b 0).bind fun c2=>
 (cond ((c2.toNat:Int)==45)
 ((idx b 1).bind fun c3=>
 (cond ((c3.toNat:Int)==45)
 ((idx b 2).bind fun c4=>
 (cond ((c4.toNat:Int)==45)
 (some [a])
 ((idx b 2).bind fun c5=>
 ((F178 N (c5.toNat:Int)).bind fun I=>
 (cond I
 ((F104 N c.2.2).bind fun J=>
 ((F103 N J).bind fun m=>
 (chk (room (1+m.length) 1)
 (some ([a]++m)))))
 ((F103 N (wu64 c.2.2)).bind fun n=>
 (chk (room (1+n.length) 1)
 (some ([a]++n)))))))))
 ((idx b 1).bind fun c10=>
 ((F178 N (c10.toNat:Int)).bind fun K=>
 (cond K
 ((F104 N c.2.1).bind fun L=>
 ((F103 N L).bind fun f=>
 (chk (room (1+f.length) 1)
 ((idx b 2).bind fun c14=>
 (cond ((c14.toNat:Int)==45)
 (some ([a]++f))
 ((idx b 2).bind fun c15=>
 ((F178 N (c15.toNat:Int)).bind fun M=>
 (cond M
 ((F104 N c.2.2).bind fun O=>
 ((F103 N O).bind fun o=>
 (chk (room (([a]++f).length+o.length) 1)
 (some (([a]++f)++o)))))
 ((F103 N (wu64 c.2.2)).bind fun p=>
 (chk (room (([a]++f).length+p.length) 1)
 (some (([a]++f)++p))))))))))))
 ((F103 N (wu64 c.2.1)).bind fun g=>
 (chk (room (1+g.length) 1)
 ((idx b 2).bind fun c21=>
 (cond ((c21.toNat:Int)==45)
 (some ([a]++g))
 ((idx b 2).bind fun c22=>
 ((F178 N (c22.toNat:Int)).bind fun P=>
 (cond P
 ((F104 N c.2.2).bind fun Q=>
 ((F103 N Q).bind fun q=>
 (chk (room (([a]++g).length+q.length) 1)
 (some (([a]++g)++q)))))
 ((F103 N (wu64 c.2.2)).bind fun r=>
 (chk (room (([a]++g).length+r.length) 1)
 (some (([a]++g)++r))))))))))))))))
 ((idx b 0).bind fun c27=>
 ((F178 N (c27.toNat:Int)).bind fun R=>
 (cond R
 ((F104 N c.1).bind fun S=>
 ((F103 N S).bind fun d=>
 (chk (room (1+d.length) 1)
 ((idx b 1).bind fun c31=>
 (cond ((c31.toNat:Int)==45)
 ((idx b 2).bind fun c32=>
 (cond ((c32.toNat:Int)==45)
 (some ([a]++d))
 ((idx b 2).bind fun c33=>
 ((F178 N (c33.toNat:Int)).bind fun T=>
 (cond T
 ((F104 N c.2.2).bind fun U=>
 ((F103 N U).bind fun s=>
 (chk (room (([a]++d).length+s.length) 1)
 (some (([a]++d)++s)))))
 ((F103 N (wu64 c.2.2)).bind fun t=>
 (chk (room (([a]++d).length+t.length) 1)
 (some (([a]++d)++t)))))))))
 ((idx b 1).bind fun c38=>
 ((F178 N (c38.toNat:Int)).bind fun V=>
 (cond V
 ((F104 N c.2.1).bind fun W=>
 ((F103 N W).bind fun h=>
 (chk (room (([a]++d).length+h.length) 1)
 ((idx b 2).bind fun c42=>
 (cond ((c42.toNat:Int)==45)
 (some (([a]++d)++h))
 ((idx b 2).bind fun c43=>
 ((F178 N (c43.toNat:Int)).bind fun X=>
 (cond X
 ((F104 N c.2.2).bind fun Y=>
 ((F103 N Y).bind fun u=>
 (chk (room ((([a]++d)++h).length+u.length) 1)
 (some ((([a]++d)++h)++u)))))
 ((F103 N (wu64 c.2.2)).bind fun v=>
 (chk (room ((([a]++d)++h).length+v.length) 1)
 (some ((([a]++d)++h)++v))))))))))))
 ((F103 N (wu64 c.2.1)).bind fun i=>
 (chk (room (([a]++d).length+i.length) 1)
 ((idx b 2).bind fun c49=>
 (cond ((c49.toNat:Int)==45)
 (some (([a]++d)++i))
 ((idx b 2).bind fun c50=>
 ((F178 N (c50.toNat:Int)).bind fun Z=>
 (cond Z
 ((F104 N c.2.2).bind fun a0=>
 ((F103 N a0).bind fun w=>
 (chk (room ((([a]++d)++i).length+w.length) 1)
 (some ((([a]++d)++i)++w)))))
 ((F103 N (wu64 c.2.2)).bind fun x=>
 (chk (room ((([a]++d)++i).length+x.length) 1)
 (some ((([a]++d)++i)++x)))))))))))))))))))
 ((F103 N (wu64 c.1)).bind fun e=>
 (chk (room (1+e.length) 1)
 ((idx b 1).bind fun c56=>
 (cond ((c56.toNat:Int)==45)
 ((idx b 2).bind fun c57=>
 (cond ((c57.toNat:Int)==45)
 (some ([a]++e))
 ((idx b 2).bind fun c58=>
 ((F178 N (c58.toNat:Int)).bind fun a1=>
 (cond a1
 ((F104 N c.2.2).bind fun a2=>
 ((F103 N a2).bind fun y=>
 (chk (room (([a]++e).length+y.length) 1)
 (some (([a]++e)++y)))))
 ((F103 N (wu64 c.2.2)).bind fun z=>
 (chk (room (([a]++e).length+z.length) 1)
 (some (([a]++e)++z)))))))))
 ((idx b 1).bind fun c63=>
 ((F178 N (c63.toNat:Int)).bind fun a3=>
 (cond a3
 ((F104 N c.2.1).bind fun a4=>
 ((F103 N a4).bind fun j=>
 (chk (room (([a]++e).length+j.length) 1)
 ((idx b 2).bind fun c67=>
 (cond ((c67.toNat:Int)==45)
 (some (([a]++e)++j))
 ((idx b 2).bind fun c68=>
 ((F178 N (c68.toNat:Int)).bind fun a5=>
 (cond a5
 ((F104 N c.2.2).bind fun a6=>
 ((F103 N a6).bind fun A=>
 (chk (room ((([a]++e)++j).length+A.length) 1)
 (some ((([a]++e)++j)++A)))))
 ((F103 N (wu64 c.2.2)).bind fun B=>
 (chk (room ((([a]++e)++j).length+B.length) 1)
 (some ((([a]++e)++j)++B))))))))))))
 ((F103 N (wu64 c.2.1)).bind fun l=>
 (chk (room (([a]++e).length+l.length) 1)
 ((idx b 2).bind fun c74=>
 (cond ((c74.toNat:Int)==45)
 (some (([a]++e)++l))
 ((idx b 2).bind fun c75=>
 ((F178 N (c75.toNat:Int)).bind fun a7=>
 (cond a7
 ((F104 N c.2.2).bind fun a8=>
 ((F103 N a8).bind fun C=>
 (chk (room ((([a]++e)++l).length+C.length) 1)
 (some ((([a]++e)++l)++C)))))
 ((F103 N (wu64 c.2.2)).bind fun D=>
 (chk (room ((([a]++e)++l).length+D.length) 1)
 (some ((([a]++e)++l)++D)))))))))))))))))))))))))
def G105:SEnv:=(G178 N).put 105 s105 (F105 N)
theorem K105:EnvOK tab (G105 N):=(K178 N).put ((K178 N).on s105) _ _ _ (funext fun⟨a,b,c,d⟩=>by rw[F105];kernel_rfl)
def s106:Sig:=sg [.c (.sl TRun .bor)] [(false,[.sl (.int .u8) .d])]
def y106_0:SEnv:=(G105 N).on s106
def f106.T0_5:Tmpl:=tm [(0,.c (.sl TRun .bor)),(3,.c (.ref 0 9 0 (.int .u8))),(4,.c (.int .i64)),(5,.c (.int .i64))] [] [(0,9,.row 0 (.int .u8))] 1 [] 1
def f106.O0_5:Outs:=[(.exit 0,tm [(3,.c (.ref 0 9 0 (.int .u8)))] [] [(0,9,.row 0 (.int .u8))] 1 [] 1)]
def f106.L0_5:Nat→List Run×Int×Int×List Int→Option ((List Int))
 |0,_=>none
 |k+1,(a,f,b,c)=>(cond (decide (b<(a.length:Int)))
 ((idx a b).bind fun g=>
 ((F103 N (wu64 (wi64 (g.1-f)))).bind fun d=>
 (chk (room (c.length+d.length) 1)
 ((idx a b).bind fun h=>
 ((F103 N h.2).bind fun e=>
 (chk (room ((c++d).length+e.length) 1)
 ((idx a b).bind fun i=>
 f106.L0_5 k (a,i.1,(wi64 (b+1)),((c++d)++e)))))))))
 (some c))
theorem f106.M0_5:∀ k,f106.L0_5 N k=lp (y106_0 N) 0 5 (tq 106) 5 f106.T0_5 f106.O0_5 k
 |0=>rfl
 |k+1=>funext fun⟨a,b,c,d⟩=>by rw[f106.L0_5,f106.M0_5 k];kernel_rfl
def y106_1:SEnv:=(y106_0 N).addLoop N 0 5 f106.T0_5 f106.O0_5
def F106:List Run→Option (List Int)
 |a=>((F103 N (wu64 (a.length:Int))).bind fun b=>
 ((f106.L0_5 N N (a,0,0,b)).bind fun c=>
 some c))
def G106:SEnv:=(G105 N).put 106 s106 (F106 N)
theorem K106:EnvOK tab (G106 N):=(K105 N).put (((K105 N).on s106).addLoop N 0 5 f106.T0_5 f106.O0_5) _ _ _ (funext fun a=>by rw[F106,f106.M0_5 N N];kernel_rfl)
def s45:Sig:=⟨[.agg (shB TImage)],[(false,[.sl (.int .u8) .d])],0,[(0,13,33,.bool)],[],[(0,29,(.int .u8))],[]⟩
def y45_0:SEnv:=(G106 N).on s45
def f45.T0_4:Tmpl:=tm [(1,.c (.ptr 0 1 0 0 0)),(3,.c (.ref 0 13 1 (.int .u8))),(4,.c (.int .i64))] [] [(0,1,.box 0 (shB TImage)),(0,13,.row 1 (.int .u8))] 1 [] 2
def f45.O0_4:Outs:=[(.exit 0,tm [(1,.c (.ptr 0 1 0 0 0)),(3,.c (.ref 0 13 1 (.int .u8)))] [] [(0,1,.box 0 (shB TImage)),(0,13,.row 1 (.int .u8))] 1 [] 2)]
def f45.L0_4:Nat→Int×XImage (List Int)→Option ((XImage (List Int)))
 |0,_=>none
 |k+1,(d,c,e,f,b)=>(cond (decide (d<(c.length:Int)))
 ((idx c d).bind fun a=>
 (chk (room (b.length+1) 1)
 ((cond (a.1==4)
 (some true)
 (some (a.1==7))).bind fun l=>
 (cond l
 ((F100 N a.2.1).bind fun h=>
 (chk (room ((b++[a.1]).length+h.length) 1)
 (f45.L0_4 k ((wi64 (d+1)),c,e,f,((b++[a.1])++h)))))
 (cond (a.1==6)
 ((F100 N a.2.1).bind fun g=>
 (chk (room ((b++[a.1]).length+g.length) 1)
 ((F100 N a.2.2.1).bind fun i=>
 (chk (room (((b++[a.1])++g).length+i.length) 1)
 (f45.L0_4 k ((wi64 (d+1)),c,e,f,(((b++[a.1])++g)++i)))))))
 (cond (a.1==5)
 ((F101 N a.2.2.2).bind fun j=>
 (chk (room ((b++[a.1]).length+j.length) 1)
 (f45.L0_4 k ((wi64 (d+1)),c,e,f,((b++[a.1])++j)))))
 (f45.L0_4 k ((wi64 (d+1)),c,e,f,(b++[a.1])))))))))
 (some (c,e,f,b)))
theorem f45.M0_4:∀ k,f45.L0_4 N k=lp (y45_0 N) 0 4 (tq 45) 4 f45.T0_4 f45.O0_4 k
 |0=>rfl
 |k+1=>funext fun⟨a,b,c,d,e⟩=>by rw[f45.L0_4,f45.M0_4 k];kernel_rfl
def y45_1:SEnv:=(y45_0 N).addLoop N 0 4 f45.T0_4 f45.O0_4
def f45.T0_27:Tmpl:=tm [(1,.c (.ptr 0 1 0 0 0)),(3,.c (.ref 0 13 1 (.int .u8))),(6,.c (.int .i64))] [] [(0,1,.box 0 (shB TImage)),(0,13,.row 1 (.int .u8))] 1 [] 2
def f45.O0_27:Outs:=[(.exit 3,tm [(1,.c (.ptr 0 1 0 0 0)),(3,.c (.ref 0 13 1 (.int .u8)))] [] [(0,1,.box 0 (shB TImage)),(0,13,.row 1 (.int .u8))] 1 [] 2)]
def f45.L0_27:Nat→Int×XImage (List Int)→Option ((XImage (List Int)))
 |0,_=>none
 |k+1,(b,d,a,e,c)=>(cond (decide (b<(a.length:Int)))
 ((idx a b).bind fun g=>
 ((F102 N g).bind fun f=>
 (chk (room (c.length+f.length) 1)
 (f45.L0_27 k ((wi64 (b+1)),d,a,e,(c++f))))))
 (some (d,a,e,c)))
theorem f45.M0_27:∀ k,f45.L0_27 N k=lp (y45_1 N) 0 27 (tq 45) 27 f45.T0_27 f45.O0_27 k
 |0=>rfl
 |k+1=>funext fun⟨a,b,c,d,e⟩=>by rw[f45.L0_27,f45.M0_27 k];kernel_rfl
def y45_2:SEnv:=(y45_1 N).addLoop N 0 27 f45.T0_27 f45.O0_27
def f45.T0_46:Tmpl:=tm [(1,.c (.ptr 0 1 0 0 0)),(3,.c (.ref 0 13 1 (.int .u8))),(7,.c (.int .i64)),(8,.c (.ptr 0 8 2 0 0)),(9,.c (.int .i64))] [] [(0,1,.box 0 (shB TImage)),(0,13,.row 1 (.int .u8)),(0,8,.box 2 (cshOf TFunc))] 1 [] 3
def f45.O0_46:Outs:=[(.exit 7,tm [(1,.c (.ptr 0 1 0 0 0)),(3,.c (.ref 0 13 1 (.int .u8))),(7,.c (.int .i64)),(8,.c (.ptr 0 8 2 0 0))] [] [(0,1,.box 0 (shB TImage)),(0,13,.row 1 (.int .u8)),(0,8,.box 2 (cshOf TFunc))] 1 [] 3)]
def f45.L0_46:Nat→Int×Int×XImage (List Int×WFunc)→Option ((Int×XImage (List Int×WFunc)))
 |0,_=>none
 |k+1,(e,c,f,g,h,d,i,j,l,m,a,n,o)=>(cond (decide (c<(a.length:Int)))
 ((idx a c).bind fun b=>
 ((F105 N (b.1,b.2.1,b.2.2.1,b.2.2.2)).bind fun p=>
 (chk (room (d.length+p.length) 1)
 (f45.L0_46 k (e,(wi64 (c+1)),f,g,h,(d++p),i,j,l,m,a,n,o)))))
 (some (e,f,g,h,d,i,j,l,m,a,n,o)))
theorem f45.M0_46:∀ k,f45.L0_46 N k=lp (y45_2 N) 0 46 (tq 45) 46 f45.T0_46 f45.O0_46 k
 |0=>rfl
 |k+1=>funext fun⟨a,b,c,d,e,f,g,h,i,j,l,m,n⟩=>by rw[f45.L0_46,f45.M0_46 k];kernel_rfl
def y45_3:SEnv:=(y45_2 N).addLoop N 0 46 f45.T0_46 f45.O0_46
def f45.T0_36:Tmpl:=tm [(1,.c (.ptr 0 1 0 0 0)),(3,.c (.ref 0 13 1 (.int .u8))),(7,.c (.int .i64))] [] [(0,1,.box 0 (shB TImage)),(0,13,.row 1 (.int .u8))] 1 [] 2
def f45.O0_36:Outs:=[(.exit 5,tm [(3,.c (.ref 0 13 0 (.int .u8)))] [] [(0,13,.row 0 (.int .u8))] 1 [] 1)]
def f45.L0_36:Nat→Int×XImage (List Int)→Option ((List Int))
 |0,_=>none
 |k+1,(g,n,o,h,c)=>(cond (decide (g<(h.length:Int)))
 ((idx h g).bind fun a=>
 ((F102 N a.1).bind fun d=>
 (chk (room (c.length+d.length) 1)
 ((F100 N a.2.1).bind fun e=>
 (chk (room ((c++d).length+e.length) 1)
 ((F104 N a.2.2.1).bind fun p=>
 ((F103 N p).bind fun f=>
 (chk (room (((c++d)++e).length+f.length) 1)
 ((F101 N a.2.2.2.1).bind fun i=>
 (chk (room ((((c++d)++e)++f).length+i.length) 1)
 ((F100 N (a.2.2.2.2.1.length:Int)).bind fun l=>
 (chk (room (((((c++d)++e)++f)++i).length+l.length) 1)
 ((f45.L0_46 N N (g,0,n,o,h,(((((c++d)++e)++f)++i)++l),a.1,a.2.1,a.2.2.1,a.2.2.2.1,a.2.2.2.2.1,a.2.2.2.2.2.1,a.2.2.2.2.2.2)).bind fun b=>
 ((F106 N b.2.2.2.2.2.2.2.2.2.2.1).bind fun j=>
 (chk (room (b.2.2.2.2.1.length+j.length) 1)
 ((F106 N b.2.2.2.2.2.2.2.2.2.2.2).bind fun m=>
 (chk (room ((b.2.2.2.2.1++j).length+m.length) 1)
 (f45.L0_36 k ((wi64 (b.1+1)),b.2.1,b.2.2.1,b.2.2.2.1,((b.2.2.2.2.1++j)++m))))))))))))))))))))
 (some c))
theorem f45.M0_36:∀ k,f45.L0_36 N k=lp (y45_3 N) 0 36 (tq 45) 36 f45.T0_36 f45.O0_36 k
 |0=>rfl
 |k+1=>funext fun⟨a,b,c,d,e⟩=>by rw[f45.L0_36,f45.M0_36 k,f45.M0_46 N N];kernel_rfl
def y45_4:SEnv:=(y45_3 N).addLoop N 0 36 f45.T0_36 f45.O0_36
def F45:WImage→Option (List Int)
 |(c,f,g)=>((F100 N (c.length:Int)).bind fun h=>
 ((f45.L0_4 N N (0,c,f,g,h)).bind fun a=>
 ((F100 N (a.2.1.length:Int)).bind fun d=>
 (chk (room (a.2.2.2.length+d.length) 1)
 ((f45.L0_27 N N (0,a.1,a.2.1,a.2.2.1,(a.2.2.2++d))).bind fun b=>
 ((F100 N (b.2.2.1.length:Int)).bind fun e=>
 (chk (room (b.2.2.2.length+e.length) 1)
 ((f45.L0_36 N N (0,b.1,b.2.1,b.2.2.1,(b.2.2.2++e))).bind fun i=>
 some i))))))))
def G45:SEnv:=(G106 N).put 45 s45 (F45 N)
theorem K45:EnvOK tab (G45 N):=(K106 N).put ((((((K106 N).on s45).addLoop N 0 4 f45.T0_4 f45.O0_4).addLoop N 0 27 f45.T0_27 f45.O0_27).addLoop N 0 46 f45.T0_46 f45.O0_46).addLoop N 0 36 f45.T0_36 f45.O0_36) _ _ _ (funext fun⟨a,b,c⟩=>by rw[F45,f45.M0_4 N N,f45.M0_27 N N,f45.M0_36 N N];kernel_rfl)
def s17:Sig:=sg [.agg (cshOf TImage)] [(false,[.int .i64])]
def F17:WImage→Option Int
 |(a,b,c)=>((F44 N (a,b,c)).bind fun d=>
 (cond (!d)
 (some 8)
 ((F45 N (a,b,c)).bind fun e=>
 (cond (decide ((e.length:Int)>20000))
 (some 4)
 (some 0)))))
def G17:SEnv:=(G45 N).put 17 s17 (F17 N)
theorem K17:EnvOK tab (G17 N):=(K45 N).put ((K45 N).on s17) _ _ _ (funext fun⟨a,b,c⟩=>by rw[F17];kernel_rfl)
def s181:Sig:=⟨[.agg (shB TImage),.c (.int .i64),.c (.int .i64)],[(false,[.int .i64])],0,[(0,1,19,.bool)],[],[],[]⟩
def F181 (N:Nat):XImage (Int×Int)→Option Int
 |(h,i,b,c,a)=>((cond (decide (a<0))
 (some true)
 ((idx b c).bind fun d=>
 some (decide (a≥(d.2.2.2.1.length:Int))))).bind fun e=>
 (cond e
 (some (-1))
 ((idx b c).bind fun f=>
 ((idx f.2.2.2.1 a).bind fun g=>
 some g.2))))
def G181:SEnv:=(G17 N).put 181 s181 (F181 N)
theorem K181:EnvOK tab (G181 N):=(K17 N).put ((K17 N).on s181) _ _ _ (funext fun⟨a,b,c,d,e⟩=>by rw[F181];kernel_rfl)
def s182:Sig:=sg [.agg (shB TImage),.c (.int .i64)] [(false,[.int .u8])]
def F182 (N:Nat):XImage Int→Option Int
 |(b,d,e,a)=>(cond (decide (a<0))
 (some 0)
 ((idx b a).bind fun c=>
 some c.1))
def G182:SEnv:=(G181 N).put 182 s182 (F182 N)
theorem K182:EnvOK tab (G182 N):=(K181 N).put ((K181 N).on s182) _ _ _ (funext fun⟨a,b,c,d⟩=>by rw[F182];kernel_rfl)
def s183:Sig:=⟨[.agg (shB TGType)],[(false,[.bool])],0,[(0,1,2,.bool)],[],[],[]⟩
def F183 (N:Nat):WGType→Option Bool
 |(a,c,d,e)=>((cond (a==1)
 (some true)
 (cond (a==2)
 (some true)
 (some (a==4)))).bind fun b=>
 some b)
def G183:SEnv:=(G182 N).put 183 s183 (F183 N)
theorem K183:EnvOK tab (G183 N):=(K182 N).put ((K182 N).on s183) _ _ _ (funext fun⟨a,b,c,d⟩=>by rw[F183];kernel_rfl)
def s184:Sig:=⟨[.agg (shB TImage),.c (.int .i64),.c (.int .i64)],[(false,[.int .i64])],0,[(0,1,25,.bool)],[],[],[]⟩
def F184:XImage (Int×Int)→Option Int
 |(a,d,e,b,c)=>(((F182 N (a,d,e,b)).bind fun f=>
 (cond (f != 5)
 (some true)
 (cond (decide (c<0))
 (some true)
 ((idx a b).bind fun g=>
 some (decide (c≥(g.2.2.2.length:Int))))))).bind fun h=>
 (cond h
 (some (-1))
 ((idx a b).bind fun i=>
 ((idx i.2.2.2 c).bind fun j=>
 some j.2))))
def G184:SEnv:=(G183 N).put 184 s184 (F184 N)
theorem K184:EnvOK tab (G184 N):=(K183 N).put ((K183 N).on s184) _ _ _ (funext fun⟨a,b,c,d,e⟩=>by rw[F184];kernel_rfl)
def s185:Sig:=⟨[.agg (shB TImage),.c (.int .i64),.c (.int .u8),.c (.int .u8)],[(false,[.int .i64])],0,[(0,2,24,.bool)],[],[],[]⟩
def F185:XImage (Int×Int×Int)→Option Int
 |(b,d,e,a,f,g)=>((F182 N (b,d,e,a)).bind fun c=>
 ((cond (decide (a<0))
 (some true)
 (cond (c != f)
 (some (c != g))
 (some false))).bind fun h=>
 (cond h
 (some (-1))
 ((idx b a).bind fun i=>
 some i.2.1))))
def G185:SEnv:=(G184 N).put 185 s185 (F185 N)
theorem K185:EnvOK tab (G185 N):=(K184 N).put ((K184 N).on s185) _ _ _ (funext fun⟨a,b,c,d,e,f⟩=>by rw[F185];kernel_rfl)
def s186:Sig:=⟨[.agg (shB TImage),.c (.int .i64)],[(false,[.bool])],0,[(0,2,4,.bool)],[],[],[]⟩
def F186:XImage Int→Option Bool
 |(c,i,d,e)=>((idx d e).bind fun a=>
 ((cond (a.2.2.1==(-1))
 (cond (a.2.1==0)
 (some true)
 (cond (a.2.1==1)
 ((idx a.2.2.2.1 0).bind fun f=>
 ((idx c f.2).bind fun b=>
 ((F183 N (b.1,b.2.1,b.2.2.1,b.2.2.2)).bind fun g=>
 some g)))
 (some false)))
 (some false)).bind fun h=>
 some h))
def G186:SEnv:=(G185 N).put 186 s186 (F186 N)
theorem K186:EnvOK tab (G186 N):=(K185 N).put ((K185 N).on s186) _ _ _ (funext fun⟨a,b,c,d⟩=>by rw[F186];kernel_rfl)
def s110:Sig:=⟨[.agg (cshOf TImage),.c (.int .i64),.agg (cshOf TInstr)],[(false,[.bool])],0,[(0,6,39,.bool),(0,14,48,.bool),(0,26,58,.bool),(0,24,58,.bool),(0,22,58,.bool),(0,29,6,.bool),(0,32,6,.bool),(0,35,6,.bool),(0,38,6,.bool),(0,56,6,.bool),(0,59,6,.bool),(0,62,6,.bool),(0,65,6,.bool),(0,68,6,.bool),(0,70,208,.bool),(0,76,6,.bool),(0,78,227,.bool),(0,81,6,.bool),(0,84,6,.bool)],[],[],[]⟩
def F110:XImage (Int×WInstr)→Option Bool
 |(c,e,b,i,a,j,n,p)=>((F181 N (c,e,b,i,j)).bind fun f=>
 ((F181 N (c,e,b,i,n)).bind fun h=>
 ((F181 N (c,e,b,i,p)).bind fun l=>
 ((F182 N (c,e,b,f)).bind fun d=>
 ((F182 N (c,e,b,h)).bind fun g=>
 ((F182 N (c,e,b,l)).bind fun o=>
 ((cond (a==1)
 (some true)
 (some (a==32))).bind fun q=>
 (cond q
 (some (d==2))
 (cond (a==2)
 (some (d==3))
 ((cond (a==3)
 (some true)
 (some (a==23))).bind fun r=>
 (cond r
 (some (d==1))
 (cond (a==5)
 (some (f==h))
 ((cond (a==6)
 (some true)
 ((cond (a==7)
 (some true)
 ((cond (a==8)
 (some true)
 (some (a==9))).bind fun s=>
 some s)).bind fun t=>
 some t)).bind fun u=>
 (cond u
 ((cond (d==2)
 (cond (g==2)
 (some (o==2))
 (some false))
 (some false)).bind fun v=>
 some v)
 (cond (a==10)
 ((cond (d==1)
 (cond (g==2)
 (some (o==2))
 (some false))
 (some false)).bind fun w=>
 some w)
 (cond (a==11)
 ((cond (d==1)
 (cond (h==l)
 ((idx c h).bind fun m=>
 ((F183 N (m.1,m.2.1,m.2.2.1,m.2.2.2)).bind fun x=>
 some x))
 (some false))
 (some false)).bind fun y=>
 some y)
 (cond (a==12)
 ((cond (d==1)
 (some (g==1))
 (some false)).bind fun z=>
 some z)
 (cond (a==13)
 ((F184 N (c,e,b,h,p)).bind fun A=>
 some (A==f))
 (cond (a==14)
 ((F184 N (c,e,b,f,n)).bind fun B=>
 some (B==l))
 (cond (a==15)
 (some (d==4))
 (cond (a==16)
 ((F185 N (c,e,b,h,4,4)).bind fun C=>
 some (C==f))
 (cond (a==17)
 ((F185 N (c,e,b,f,4,4)).bind fun D=>
 some (D==h))
 (cond (a==18)
 ((cond (d==7)
 (some (g==2))
 (some false)).bind fun E=>
 some E)
 (cond (a==19)
 (((F185 N (c,e,b,h,7,6)).bind fun G=>
 (cond (G==f)
 (some (o==2))
 (some false))).bind fun H=>
 some H)
 (cond (a==20)
 (((F185 N (c,e,b,f,7,6)).bind fun I=>
 (cond (I==l)
 (some (g==2))
 (some false))).bind fun J=>
 some J)
 (cond (a==21)
 ((cond (d==2)
 (cond (g==3)
 (some true)
 (cond (g==7)
 (some true)
 (some (g==6))))
 (some false)).bind fun K=>
 some K)
 (cond (a==25)
 ((cond (j==(-1))
 (some true)
 ((idx b n).bind fun L=>
 some (L.2.2.1==f))).bind fun M=>
 some M)
 ((cond (a==26)
 (some true)
 (some (a==27))).bind fun O=>
 (cond O
 ((F186 N (c,e,b,j)).bind fun P=>
 some P)
 (cond (a==28)
 ((cond (d==2)
 (some true)
 (cond (d==1)
 (some true)
 (some (d==3)))).bind fun Q=>
 some Q)
 ((cond (a==29)
 (some true)
 (some (a==33))).bind fun R=>
 (cond R
 ((cond (d==1)
 (some (g==2))
 (some false)).bind fun S=>
 some S)
 (cond (a==34)
 ((cond (j==(-1))
 (some true)
 ((idx b i).bind fun T=>
 some (T.2.2.1==f))).bind fun U=>
 some U)
 (some true))))))))))))))))))))))))))))))))))
def G110:SEnv:=(G186 N).put 110 s110 (F110 N)
theorem K110:EnvOK tab (G110 N):=(K186 N).put ((K186 N).on s110) _ _ _ (funext fun⟨a,b,c,d,e,f,g,h⟩=>by rw[F110];kernel_rfl)
def s277:Sig:=⟨[.c (.int .i64),.c (.int .i64)],[(false,[.bool])],0,[(0,1,4,.bool)],[],[],[]⟩
def F277 (N:Nat):Int×Int→Option Bool
 |(a,b)=>((cond (decide (a≥0))
 (some (decide (a<b)))
 (some false)).bind fun c=>
 some c)
def G277:SEnv:=(G110 N).put 277 s277 (F277 N)
theorem K277:EnvOK tab (G277 N):=(K110 N).put ((K110 N).on s277) _ _ _ (funext fun⟨a,b⟩=>by rw[F277];kernel_rfl)
def s316:Sig:=sg [.c (.int .i64)] [(false,[.bool])]
def F316 (N:Nat):Int→Option Bool
 |a=>some (a != 0)
def G316:SEnv:=(G277 N).put 316 s316 (F316 N)
theorem K316:EnvOK tab (G316 N):=(K277 N).put ((K277 N).on s316) _ _ _ (funext fun a=>by rw[F316];kernel_rfl)
def s278:Sig:=sg [.c (.sl (.int .i64) .bor)] [(false,[.bool])]
def y278_0:SEnv:=(G316 N).on s278
def f278.T1004001007000_3:Tmpl:=tm [(0,.c (.sl (.int .i64) .bor)),(1,.clo 316 []),(7,.c (.int .i64)),(8,.c (.int .i64))] [[],[]] [] 3 [] 0
def f278.O1004001007000_3:Outs:=[(.ret,tm [(4,.c (.int .i64))] [[],[]] [] 3 [] 0),(.exit 0,tm [] [[],[]] [] 3 [] 0)]
def f278.L1004001007000_3:Nat→List Int×Int×Int→Option (Int⊕Unit)
 |0,_=>none
 |k+1,(b,c,a)=>(cond (decide (a<c))
 ((idx b a).bind fun d=>
 ((F316 N d).bind fun e=>
 (cond e
 (some (Sum.inl a))
 (f278.L1004001007000_3 k (b,c,(wi64 (a+1)))))))
 (some (Sum.inr ())))
theorem f278.M1004001007000_3:∀ k,f278.L1004001007000_3 N k=lp (y278_0 N) 1004001007000 3 (tq 225) 3 f278.T1004001007000_3 f278.O1004001007000_3 k
 |0=>rfl
 |k+1=>funext fun⟨a,b,c⟩=>by rw[f278.L1004001007000_3,f278.M1004001007000_3 k];kernel_rfl
def y278_1:SEnv:=(y278_0 N).addLoop N 1004001007000 3 f278.T1004001007000_3 f278.O1004001007000_3
def F278:List Int→Option Bool
 |a=>((f278.L1004001007000_3 N N (a,(a.length:Int),0)).bind fun b=>
 (match b with
 |.inl c=>some (!(decide (c≥0)))
 |.inr d=>some (!(decide ((-1:Int)≥0)))))
def G278:SEnv:=(G316 N).put 278 s278 (F278 N)
theorem K278:EnvOK tab (G278 N):=(K316 N).put (((K316 N).on s278).addLoop N 1004001007000 3 f278.T1004001007000_3 f278.O1004001007000_3) _ _ _ (funext fun a=>by rw[F278,f278.M1004001007000_3 N N];kernel_rfl)
def s279:Sig:=⟨[.c (.str)],[(false,[.bool])],0,[(0,1,17,.bool),(0,11,45,.bool)],[],[],[]⟩
def y279_0:SEnv:=(G278 N).on s279
def f279.T0_6:Tmpl:=tm [(19,.c (.sl (.int .u8) .d)),(20,.c (.int .i64)),(21,.c (.int .i64))] [] [] 1 [] 0
def f279.O0_6:Outs:=[(.ret,tm [(2,.c (.bool))] [] [] 1 [] 0),(.exit 0,tm [] [] [] 1 [] 0)]
def f279.L0_6 (N:Nat):Nat→List Int×Int×Int→Option (Bool⊕Unit)
 |0,_=>none
 |k+1,(c,d,b)=>(cond (decide (b<d))
 ((idx c b).bind fun a=>
 ((cond (decide ((ior .u8 a 32)<97))
 (cond (decide (a<48))
 (some true)
 (some (decide (a>57))))
 (cond (decide ((ior .u8 a 32)>122))
 (cond (decide (a<48))
 (some true)
 (some (decide (a>57))))
 (cond ((iand .u8 a 64)==0)
 (cond (decide (a<48))
 (some true)
 (some (decide (a>57))))
 (some false)))).bind fun e=>
 (cond e
 (some (Sum.inl false))
 (f279.L0_6 N k (c,d,(wi64 (b+1)))))))
 (some (Sum.inr ())))
theorem f279.M0_6:∀ k,f279.L0_6 N k=lp (y279_0 N) 0 6 (tq 279) 6 f279.T0_6 f279.O0_6 k
 |0=>rfl
 |k+1=>funext fun⟨a,b,c⟩=>by rw[f279.L0_6,f279.M0_6 k];kernel_rfl
def y279_1:SEnv:=(y279_0 N).addLoop N 0 6 f279.T0_6 f279.O0_6
def F279:List UInt8→Option Bool
 |a=>((cond ((a.length:Int)==0)
 (some true)
 (cond (decide ((a.length:Int)>16))
 (some true)
 ((idx a 0).bind fun c0=>
 some (decide ((c0.toNat:Int)≤57))))).bind fun b=>
 (cond b
 (some false)
 ((f279.L0_6 N N ((bytesL a),((bytesL a).length:Int),0)).bind fun c=>
 (match c with
 |.inl d=>some d
 |.inr e=>some true))))
def G279:SEnv:=(G278 N).put 279 s279 (F279 N)
theorem K279:EnvOK tab (G279 N):=(K278 N).put (((K278 N).on s279).addLoop N 0 6 f279.T0_6 f279.O0_6) _ _ _ (funext fun a=>by rw[F279,f279.M0_6 N N];kernel_rfl)
def s233:Sig:=⟨[.c (.sl TGType .bor),.c (.int .i64)],[(false,[.bool])],0,[(0,8,16,.bool),(0,6,16,.bool),(0,13,29,.bool)],[],[],[]⟩
def y233_0:SEnv:=(G279 N).on s233
def f233.T0_25:Tmpl:=tm [(1,.c (.int .i64)),(5,.c (.ptr 0 5 0 0 0)),(6,.clo 277 []),(7,.c (.mp 0 70 1)),(72,.c (.sl TField .d)),(73,.c (.int .i64)),(74,.c (.int .i64))] [] [(0,5,.box 0 (cshOf TGType)),(0,70,.set 1)] 1 [] 2
def f233.O0_25:Outs:=[(.ret,tm [(4,.c (.bool))] [] [] 1 [] 0),(.exit 1,tm [(5,.c (.ptr 0 5 0 0 0))] [] [(0,5,.box 0 (cshOf TGType))] 1 [] 1)]
def f233.L0_25:Nat→Int×List Field×Int×Int×XGType (List (List UInt8))→Option (Bool⊕WGType)
 |0,_=>none
 |k+1,(c,d,e,b,f,g,h,i,j)=>(cond (decide (b<e))
 ((idx d b).bind fun a=>
 ((F279 N a.1).bind fun l=>
 (cond (!l)
 (some (Sum.inl false))
 (cond (hasB j a.1)
 (some (Sum.inl false))
 ((F277 N (a.2,c)).bind fun m=>
 (cond (!m)
 (some (Sum.inl false))
 (f233.L0_25 k (c,d,e,(wi64 (b+1)),f,g,h,i,(addB j a.1)))))))))
 (some (Sum.inr (f,g,h,i))))
theorem f233.M0_25:∀ k,f233.L0_25 N k=lp (y233_0 N) 0 25 (tq 233) 25 f233.T0_25 f233.O0_25 k
 |0=>rfl
 |k+1=>funext fun⟨a,b,c,d,e,f,g,h,i⟩=>by rw[f233.L0_25,f233.M0_25 k];kernel_rfl
def y233_1:SEnv:=(y233_0 N).addLoop N 0 25 f233.T0_25 f233.O0_25
def F233:List GType×Int→Option Bool
 |(d,c)=>((idx d c).bind fun a=>
 ((cond (a.1==1)
 (some true)
 ((cond (a.1==2)
 (some true)
 (some (a.1==3))).bind fun e=>
 some e)).bind fun f=>
 (cond f
 ((F278 N [a.2.1,a.2.2.1,(a.2.2.2.length:Int)]).bind fun g=>
 some g)
 ((cond (a.1==4)
 (some true)
 (some (a.1==7))).bind fun h=>
 (cond h
 ((F277 N (a.2.1,(d.length:Int))).bind fun i=>
 (cond i
 ((F278 N [a.2.2.1,(a.2.2.2.length:Int)]).bind fun j=>
 some j)
 (some false)))
 (cond (a.1==6)
 ((F277 N (a.2.1,c)).bind fun l=>
 (cond l
 ((F277 N ((wi64 (a.2.2.1-1)),16)).bind fun m=>
 (cond m
 ((F278 N [(a.2.2.2.length:Int)]).bind fun n=>
 some n)
 (some false)))
 (some false)))
 (cond (a.1==5)
 ((f233.L0_25 N N (c,a.2.2.2,(a.2.2.2.length:Int),0,a.1,a.2.1,a.2.2.1,a.2.2.2,([]:List (List UInt8)))).bind fun o=>
 (match o with
 |.inl p=>some p
 |.inr b=>((F278 N [b.2.1,b.2.2.1]).bind fun q=>
 (cond q
 (cond (decide ((b.2.2.2.length:Int)>0))
 (some (decide ((b.2.2.2.length:Int)≤8)))
 (some false))
 (some false)))))
 (some false))))))))
def G233:SEnv:=(G279 N).put 233 s233 (F233 N)
theorem K233:EnvOK tab (G233 N):=(K279 N).put (((K279 N).on s233).addLoop N 0 25 f233.T0_25 f233.O0_25) _ _ _ (funext fun⟨a,b⟩=>by rw[F233,f233.M0_25 N N];kernel_rfl)
def s234:Sig:=⟨[.c (.sl TGType .bor)],[(false,[.sl (.int .i64) .d])],0,[(0,26,7,(.int .i64)),(0,23,7,(.int .i64)),(0,20,7,(.int .i64))],[],[(0,12,(.int .i64)),(0,17,(.int .i64))],[]⟩
def y234_0:SEnv:=(G233 N).on s234
def f234.T0_30:Tmpl:=tm [(0,.c (.sl TGType .bor)),(3,.c (.ref 0 3 0 (.int .i64))),(4,.c (.ref 0 17 1 (.int .i64))),(5,.c (.int .i64)),(7,.c (.int .i64)),(13,.c (.int .i64)),(18,.c (.sl TGType .bor)),(19,.c (.int .i64)),(20,.c (.int .i64)),(59,.c (.sl TField .d)),(60,.c (.int .i64)),(61,.c (.int .i64))] [] [(0,3,.row 0 (.int .i64)),(0,17,.row 1 (.int .i64))] 1 [] 2
def f234.O0_30:Outs:=[(.exit 5,tm [(0,.c (.sl TGType .bor)),(3,.c (.ref 0 3 0 (.int .i64))),(4,.c (.ref 0 17 1 (.int .i64))),(5,.c (.int .i64)),(7,.c (.int .i64)),(13,.c (.int .i64)),(18,.c (.sl TGType .bor)),(19,.c (.int .i64)),(20,.c (.int .i64))] [] [(0,3,.row 0 (.int .i64)),(0,17,.row 1 (.int .i64))] 1 [] 2)]
def f234.L0_30 (N:Nat):Nat→List GType×Int×Int×Int×List GType×Int×Int×List Field×Int×Int×List Int×List Int→Option ((List GType×Int×Int×Int×List GType×Int×Int×List Int×List Int))
 |0,_=>none
 |k+1,(c,d,e,f,g,h,i,j,l,b,m,a)=>(cond (decide (b<l))
 ((idx j b).bind fun n=>
 (chk (inR n.2 a.length)
 ((a[n.2.toNat]?).bind fun o=>
 f234.L0_30 N k (c,d,(wi64 (e+o)),f,g,h,i,j,l,(wi64 (b+1)),m,a))))
 (some (c,d,e,f,g,h,i,m,a)))
theorem f234.M0_30:∀ k,f234.L0_30 N k=lp (y234_0 N) 0 30 (tq 234) 30 f234.T0_30 f234.O0_30 k
 |0=>rfl
 |k+1=>funext fun⟨a,b,c,d,e,f,g,h,i,j,l,m⟩=>by rw[f234.L0_30,f234.M0_30 k];kernel_rfl
def y234_1:SEnv:=(y234_0 N).addLoop N 0 30 f234.T0_30 f234.O0_30
def f234.T0_11:Tmpl:=tm [(0,.c (.sl TGType .bor)),(3,.c (.ref 0 3 0 (.int .i64))),(4,.c (.ref 0 17 1 (.int .i64))),(13,.c (.int .i64)),(18,.c (.sl TGType .bor)),(19,.c (.int .i64)),(20,.c (.int .i64))] [] [(0,3,.row 0 (.int .i64)),(0,17,.row 1 (.int .i64))] 1 [] 2
def f234.O0_11:Outs:=[(.exit 2,tm [(0,.c (.sl TGType .bor)),(4,.c (.ref 0 17 0 (.int .i64))),(13,.c (.int .i64))] [] [(0,17,.row 0 (.int .i64))] 1 [] 1)]
def f234.L0_11:Nat→List GType×Int×List GType×Int×Int×List Int×List Int→Option ((List GType×Int×List Int))
 |0,_=>none
 |k+1,(f,g,h,i,d,c,e)=>(cond (decide (d<i))
 ((idx h d).bind fun b=>
 ((cond (b.1==4)
 (chk (inR b.2.1 c.length)
 ((c[b.2.1.toNat]?).bind fun j=>
 some (wi64 (1+j))))
 ((cond (b.1==7)
 (chk (inR b.2.1 c.length)
 ((c[b.2.1.toNat]?).bind fun l=>
 some (wi64 (1+(wi64 (16*l))))))
 ((cond (b.1==6)
 (chk (inR b.2.1 e.length)
 ((e[b.2.1.toNat]?).bind fun m=>
 some (wi64 (1+(wi64 (b.2.2.1*m))))))
 (some 1)).bind fun n=>
 some n)).bind fun o=>
 some o)).bind fun p=>
 ((f234.L0_30 N N (f,d,p,g,h,i,d,b.2.2.2,(b.2.2.2.length:Int),0,c,e)).bind fun a=>
 (chk (inR a.2.1 a.2.2.2.2.2.2.2.2.length)
 ((a.2.2.2.2.2.2.2.2[a.2.1.toNat]?).bind fun q=>
 f234.L0_11 k (a.1,a.2.2.2.1,a.2.2.2.2.1,a.2.2.2.2.2.1,(wi64 (a.2.2.2.2.2.2.1+1)),a.2.2.2.2.2.2.2.1,(a.2.2.2.2.2.2.2.2.set a.2.1.toNat (min a.2.2.1 5001))))))))
 (some (f,g,e)))
theorem f234.M0_11:∀ k,f234.L0_11 N k=lp (y234_1 N) 0 11 (tq 234) 11 f234.T0_11 f234.O0_11 k
 |0=>rfl
 |k+1=>funext fun⟨a,b,c,d,e,f,g⟩=>by rw[f234.L0_11,f234.M0_11 k,f234.M0_30 N N];kernel_rfl
def y234_2:SEnv:=(y234_1 N).addLoop N 0 11 f234.T0_11 f234.O0_11
def f234.T0_4:Tmpl:=tm [(0,.c (.sl TGType .bor)),(3,.c (.ref 0 3 0 (.int .i64))),(13,.c (.int .i64))] [] [(0,3,.row 0 (.int .i64))] 1 [] 1
def f234.O0_4:Outs:=[(.exit 0,tm [(3,.c (.ref 0 3 0 (.int .i64)))] [] [(0,3,.row 0 (.int .i64))] 1 [] 1)]
def f234.L0_4:Nat→List GType×Int×List Int→Option ((List Int))
 |0,_=>none
 |k+1,(a,c,d)=>(cond (decide (c<4))
 (chk (decide (0≤(a.length:Int)))
 (chk (decide (0≤(a.length:Int)))
 (chk (decide ((Int.toNat (a.length:Int))≤(Int.toNat (a.length:Int)))&&room (Int.toNat (a.length:Int)) 8)
 ((f234.L0_11 N N (a,c,a,(a.length:Int),0,d,(List.replicate (Int.toNat (a.length:Int)) (0:Int)))).bind fun b=>
 f234.L0_4 k (b.1,(wi64 (b.2.1+1)),b.2.2)))))
 (some d))
theorem f234.M0_4:∀ k,f234.L0_4 N k=lp (y234_2 N) 0 4 (tq 234) 4 f234.T0_4 f234.O0_4 k
 |0=>rfl
 |k+1=>funext fun⟨a,b,c⟩=>by rw[f234.L0_4,f234.M0_4 k,f234.M0_11 N N];kernel_rfl
def y234_3:SEnv:=(y234_2 N).addLoop N 0 4 f234.T0_4 f234.O0_4
def F234:List GType→Option (List Int)
 |a=>(chk (decide (0≤(a.length:Int)))
 (chk (decide (0≤(a.length:Int)))
 (chk (decide ((Int.toNat (a.length:Int))≤(Int.toNat (a.length:Int)))&&room (Int.toNat (a.length:Int)) 8)
 ((f234.L0_4 N N (a,0,(List.replicate (Int.toNat (a.length:Int)) (0:Int)))).bind fun b=>
 some b))))
def G234:SEnv:=(G233 N).put 234 s234 (F234 N)
theorem K234:EnvOK tab (G234 N):=(K233 N).put (((((K233 N).on s234).addLoop N 0 30 f234.T0_30 f234.O0_30).addLoop N 0 11 f234.T0_11 f234.O0_11).addLoop N 0 4 f234.T0_4 f234.O0_4) _ _ _ (funext fun a=>by rw[F234,f234.M0_4 N N];kernel_rfl)
def s151:Sig:=sg [.c (.sl TGType .bor)] [(false,[.int .i64])]
def y151_0:SEnv:=(G234 N).on s151
def f151.T0_6:Tmpl:=tm [(0,.c (.sl TGType .bor)),(10,.c (.int .i64)),(11,.c (.int .i64))] [] [] 1 [] 0
def f151.O0_6:Outs:=[(.ret,tm [(2,.c (.int .i64))] [] [] 1 [] 0),(.exit 0,tm [(0,.c (.sl TGType .bor))] [] [] 1 [] 0)]
def f151.L0_6:Nat→List GType×Int×Int→Option (Int⊕(List GType))
 |0,_=>none
 |k+1,(a,c,b)=>(cond (decide (b<c))
 ((F233 N (a,b)).bind fun d=>
 (cond (!d)
 (some (Sum.inl 8))
 (f151.L0_6 k (a,c,(wi64 (b+1))))))
 (some (Sum.inr a)))
theorem f151.M0_6:∀ k,f151.L0_6 N k=lp (y151_0 N) 0 6 (tq 151) 6 f151.T0_6 f151.O0_6 k
 |0=>rfl
 |k+1=>funext fun⟨a,b,c⟩=>by rw[f151.L0_6,f151.M0_6 k];kernel_rfl
def y151_1:SEnv:=(y151_0 N).addLoop N 0 6 f151.T0_6 f151.O0_6
def f151.T0_17:Tmpl:=tm [(20,.c (.sl (.int .i64) .d)),(21,.c (.int .i64)),(22,.c (.int .i64))] [] [] 1 [] 0
def f151.O0_17:Outs:=[(.ret,tm [(2,.c (.int .i64))] [] [] 1 [] 0),(.exit 2,tm [] [] [] 1 [] 0)]
def f151.L0_17 (N:Nat):Nat→List Int×Int×Int→Option (Int⊕Unit)
 |0,_=>none
 |k+1,(b,c,a)=>(cond (decide (a<c))
 ((idx b a).bind fun d=>
 (cond (decide (d>5000))
 (some (Sum.inl 8))
 (f151.L0_17 N k (b,c,(wi64 (a+1))))))
 (some (Sum.inr ())))
theorem f151.M0_17:∀ k,f151.L0_17 N k=lp (y151_1 N) 0 17 (tq 151) 17 f151.T0_17 f151.O0_17 k
 |0=>rfl
 |k+1=>funext fun⟨a,b,c⟩=>by rw[f151.L0_17,f151.M0_17 k];kernel_rfl
def y151_2:SEnv:=(y151_1 N).addLoop N 0 17 f151.T0_17 f151.O0_17
def F151:List GType→Option Int
 |a=>(cond (decide ((a.length:Int)>32))
 (some 8)
 ((f151.L0_6 N N (a,(a.length:Int),0)).bind fun c=>
 (match c with
 |.inl d=>some d
 |.inr e=>((F234 N e).bind fun b=>
 ((f151.L0_17 N N (b,(b.length:Int),0)).bind fun f=>
 (match f with
 |.inl g=>some g
 |.inr h=>some 0))))))
def G151:SEnv:=(G234 N).put 151 s151 (F151 N)
theorem K151:EnvOK tab (G151 N):=(K234 N).put ((((K234 N).on s151).addLoop N 0 6 f151.T0_6 f151.O0_6).addLoop N 0 17 f151.T0_17 f151.O0_17) _ _ _ (funext fun a=>by rw[F151,f151.M0_6 N N,f151.M0_17 N N];kernel_rfl)
def s153:Sig:=⟨[.c (.sl Textent .bor),.c (.sl TField .bor)],[(false,[.sl (.int .i64) .d]),(true,(cshOf Textent))],0,[],[],[(0,13,(.int .i64))],[]⟩
def y153_0:SEnv:=(G151 N).on s153
def f153.T0_4:Tmpl:=tm [(0,.c (.sl Textent .bor)),(5,.c (.ptr 0 5 0 0 0)),(6,.c (.ref 0 13 1 (.int .i64))),(7,.c (.ptr 0 7 2 0 0)),(15,.c (.sl TField .bor)),(16,.c (.int .i64)),(17,.c (.int .i64))] [] [(0,5,.box 0 (cshOf Textent)),(0,13,.row 1 (.int .i64)),(0,7,.box 2 (cshOf Textent))] 1 [] 3
def f153.O0_4:Outs:=[(.exit 0,tm [(5,.c (.ptr 0 5 0 0 0)),(6,.c (.ref 0 13 1 (.int .i64))),(7,.c (.ptr 0 7 2 0 0))] [] [(0,5,.box 0 (cshOf Textent)),(0,13,.row 1 (.int .i64)),(0,7,.box 2 (cshOf Textent))] 1 [] 3)]
def f153.L0_4 (N:Nat):Nat→List extent×List Field×XLimits (List Int×Int×Int)→Option ((Int×Int×List Int×Int×Int))
 |0,_=>none
 |k+1,(e,f,g,a,h,i,c,d,j)=>(cond (decide (a<g))
 ((idx f a).bind fun l=>
 ((idx e l.2).bind fun b=>
 (chk (inR a c.length)
 ((c[a.toNat]?).bind fun n=>
 (chk (inR a (c.set a.toNat (iandnot .i64 (wi64 ((wi64 (d+b.2))-1)) (wi64 (b.2-1)))).length)
 (((c.set a.toNat (iandnot .i64 (wi64 ((wi64 (d+b.2))-1)) (wi64 (b.2-1))))[a.toNat]?).bind fun m=>
 f153.L0_4 N k (e,f,g,(wi64 (a+1)),h,i,(c.set a.toNat (iandnot .i64 (wi64 ((wi64 (d+b.2))-1)) (wi64 (b.2-1)))),(min 1048576 (wi64 (m+b.1))),(max j b.2))))))))
 (some (h,i,c,d,j)))
theorem f153.M0_4:∀ k,f153.L0_4 N k=lp (y153_0 N) 0 4 (tq 153) 4 f153.T0_4 f153.O0_4 k
 |0=>rfl
 |k+1=>funext fun⟨a,b,c,d,e,f,g,h,i⟩=>by rw[f153.L0_4,f153.M0_4 k];kernel_rfl
def y153_1:SEnv:=(y153_0 N).addLoop N 0 4 f153.T0_4 f153.O0_4
def F153:List extent×List Field→Option (List Int×Int×Int)
 |(c,a)=>(chk (decide (0≤(a.length:Int)))
 (chk (decide (0≤(a.length:Int)))
 (chk (decide ((Int.toNat (a.length:Int))≤(Int.toNat (a.length:Int)))&&room (Int.toNat (a.length:Int)) 8)
 ((f153.L0_4 N N (c,a,(a.length:Int),0,0,0,(List.replicate (Int.toNat (a.length:Int)) (0:Int)),0,1)).bind fun b=>
 some (b.2.2.1,(iandnot .i64 (wi64 ((wi64 (b.2.2.2.1+b.2.2.2.2))-1)) (wi64 (b.2.2.2.2-1))),b.2.2.2.2)))))
def G153:SEnv:=(G151 N).put 153 s153 (F153 N)
theorem K153:EnvOK tab (G153 N):=(K151 N).put (((K151 N).on s153).addLoop N 0 4 f153.T0_4 f153.O0_4) _ _ _ (funext fun⟨a,b⟩=>by rw[F153,f153.M0_4 N N];kernel_rfl)
def s152:Sig:=⟨[.c (.sl TGType .bor)],[(false,[.sl Textent .d])],0,[(0,15,25,.bool)],[],[(0,9,Textent)],[]⟩
def y152_0:SEnv:=(G153 N).on s152
def f152.T0_4:Tmpl:=tm [(3,.c (.ref 0 9 0 Textent)),(10,.c (.sl TGType .bor)),(11,.c (.int .i64)),(12,.c (.int .i64))] [] [(0,9,.row 0 Textent)] 1 [] 1
def f152.O0_4:Outs:=[(.exit 0,tm [(3,.c (.ref 0 9 0 Textent))] [] [(0,9,.row 0 Textent)] 1 [] 1)]
def f152.L0_4:Nat→List GType×Int×Int×List extent→Option ((List extent))
 |0,_=>none
 |k+1,(d,e,a,b)=>(cond (decide (a<e))
 ((idx d a).bind fun c=>
 (cond (c.1==1)
 (chk (inR a b.length)
 ((b[a.toNat]?).bind fun i=>
 f152.L0_4 k (d,e,(wi64 (a+1)),(b.set a.toNat (1,1)))))
 ((cond (c.1==2)
 (some true)
 (some (c.1==4))).bind fun g=>
 (cond g
 (chk (inR a b.length)
 ((b[a.toNat]?).bind fun j=>
 f152.L0_4 k (d,e,(wi64 (a+1)),(b.set a.toNat (8,8)))))
 (cond (c.1==3)
 (chk (inR a b.length)
 ((b[a.toNat]?).bind fun l=>
 f152.L0_4 k (d,e,(wi64 (a+1)),(b.set a.toNat (16,8)))))
 (cond (c.1==7)
 (chk (inR a b.length)
 ((b[a.toNat]?).bind fun m=>
 f152.L0_4 k (d,e,(wi64 (a+1)),(b.set a.toNat (24,8)))))
 (cond (c.1==6)
 (chk (inR c.2.1 b.length)
 ((b[c.2.1.toNat]?).bind fun f=>
 (chk (inR a b.length)
 ((b[a.toNat]?).bind fun n=>
 f152.L0_4 k (d,e,(wi64 (a+1)),(b.set a.toNat ((min 1048576 (wi64 (c.2.2.1*f.1))),f.2)))))))
 (cond (c.1==5)
 ((F153 N (b,c.2.2.2)).bind fun h=>
 (chk (inR a b.length)
 ((b[a.toNat]?).bind fun o=>
 f152.L0_4 k (d,e,(wi64 (a+1)),(b.set a.toNat h.2)))))
 (f152.L0_4 k (d,e,(wi64 (a+1)),b))))))))))
 (some b))
theorem f152.M0_4:∀ k,f152.L0_4 N k=lp (y152_0 N) 0 4 (tq 152) 4 f152.T0_4 f152.O0_4 k
 |0=>rfl
 |k+1=>funext fun⟨a,b,c,d⟩=>by rw[f152.L0_4,f152.M0_4 k];kernel_rfl
def y152_1:SEnv:=(y152_0 N).addLoop N 0 4 f152.T0_4 f152.O0_4
def F152:List GType→Option (List extent)
 |a=>(chk (decide (0≤(a.length:Int)))
 (chk (decide (0≤(a.length:Int)))
 (chk (decide ((Int.toNat (a.length:Int))≤(Int.toNat (a.length:Int)))&&room (Int.toNat (a.length:Int)) 16)
 ((f152.L0_4 N N (a,(a.length:Int),0,(List.replicate (Int.toNat (a.length:Int)) (0,0)))).bind fun b=>
 some b))))
def G152:SEnv:=(G153 N).put 152 s152 (F152 N)
theorem K152:EnvOK tab (G152 N):=(K153 N).put (((K153 N).on s152).addLoop N 0 4 f152.T0_4 f152.O0_4) _ _ _ (funext fun a=>by rw[F152,f152.M0_4 N N];kernel_rfl)
def s161:Sig:=⟨[.c (.sl TGType .bor),.c (.int .i64)],[(false,[.sl Textent .d]),(false,[.int .i64])],0,[(0,5,20,.bool)],[],[],[]⟩
def F161:List GType×Int→Option (List extent×Int)
 |(a,b)=>((F151 N a).bind fun c=>
 (cond (c != 0)
 (some ([],c))
 ((cond (decide (b<0))
 (some true)
 (some (decide (b≥(a.length:Int))))).bind fun e=>
 (cond e
 (some ([],2))
 ((F152 N a).bind fun d=>
 ((idx d b).bind fun f=>
 (cond (decide (f.1>256))
 (some ([],16))
 (some (d,0)))))))))
def G161:SEnv:=(G152 N).put 161 s161 (F161 N)
theorem K161:EnvOK tab (G161 N):=(K152 N).put ((K152 N).on s161) _ _ _ (funext fun⟨a,b⟩=>by rw[F161];kernel_rfl)
def s89:Sig:=sg [.c (.sl TGType .bor),.c (.int .i64)] [(false,[.int .i64]),(false,[.int .i64]),(false,[.int .i64])]
def F89:List GType×Int→Option (Int×Int×Int)
 |(c,b)=>((F161 N (c,b)).bind fun a=>
 (cond (a.2 != 0)
 (some (0,0,a.2))
 ((idx a.1 b).bind fun d=>
 ((idx a.1 b).bind fun e=>
 some (d.1,e.2,0)))))
def G89:SEnv:=(G161 N).put 89 s89 (F89 N)
theorem K89:EnvOK tab (G89 N):=(K161 N).put ((K161 N).on s89) _ _ _ (funext fun⟨a,b⟩=>by rw[F89];kernel_rfl)
def s326:Sig:=sg [.c (.sl TField .bor)] [(false,[.bool])]
def y326_0:SEnv:=(G89 N).on s326
def f326.T1021001007000_3:Tmpl:=tm [(0,.c (.sl TField .bor)),(1,.clo 332 [.ptr 0 4 0 0 0]),(7,.c (.int .i64)),(8,.c (.int .i64))] [[],[]] [(0,4,.box 0 (cshOf TField))] 3 [] 1
def f326.O1021001007000_3:Outs:=[(.ret,tm [(4,.c (.int .i64))] [[],[]] [] 3 [] 0),(.exit 0,tm [] [[],[]] [] 3 [] 0)]
def f326.L1021001007000_3 (N:Nat):Nat→List Field×Int×Int×List UInt8×Int→Option (Int⊕Unit)
 |0,_=>none
 |k+1,(b,c,a,d,e)=>(cond (decide (a<c))
 ((idx b a).bind fun f=>
 (cond (f.1==d)
 (some (Sum.inl a))
 (f326.L1021001007000_3 N k (b,c,(wi64 (a+1)),d,e))))
 (some (Sum.inr ())))
theorem f326.M1021001007000_3:∀ k,f326.L1021001007000_3 N k=lp (y326_0 N) 1021001007000 3 (tq 335) 3 f326.T1021001007000_3 f326.O1021001007000_3 k
 |0=>rfl
 |k+1=>funext fun⟨a,b,c,d,e⟩=>by rw[f326.L1021001007000_3,f326.M1021001007000_3 k];kernel_rfl
def y326_1:SEnv:=(y326_0 N).addLoop N 1021001007000 3 f326.T1021001007000_3 f326.O1021001007000_3
def f326.T0_3:Tmpl:=tm [(0,.c (.sl TField .bor)),(5,.c (.sl TField .bor)),(6,.c (.int .i64)),(7,.c (.int .i64))] [] [] 1 [] 0
def f326.O0_3:Outs:=[(.ret,tm [(2,.c (.bool))] [] [] 1 [] 0),(.exit 0,tm [] [] [] 1 [] 0)]
def f326.L0_3:Nat→List Field×List Field×Int×Int→Option (Bool⊕Unit)
 |0,_=>none
 |k+1,(b,c,d,a)=>(cond (decide (a<d))
 ((idx c a).bind fun e=>
 ((F279 N e.1).bind fun f=>
 (cond (!f)
 (some (Sum.inl false))
 (chk (decide (0≤a))
 (chk (decide (a.toNat≤b.length))
 ((f326.L1021001007000_3 N N ((b.take a.toNat),((b.take a.toNat).length:Int),0,e.1,e.2)).bind fun g=>
 (match g with
 |.inl h=>(cond (decide (h≥0))
 (some (Sum.inl false))
 (f326.L0_3 k (b,c,d,(wi64 (a+1)))))
 |.inr i=>f326.L0_3 k (b,c,d,(wi64 (a+1))))))))))
 (some (Sum.inr ())))
theorem f326.M0_3:∀ k,f326.L0_3 N k=lp (y326_1 N) 0 3 (tq 326) 3 f326.T0_3 f326.O0_3 k
 |0=>rfl
 |k+1=>funext fun⟨a,b,c,d⟩=>by rw[f326.L0_3,f326.M0_3 k,f326.M1021001007000_3 N N];kernel_rfl
def y326_2:SEnv:=(y326_1 N).addLoop N 0 3 f326.T0_3 f326.O0_3
def F326:List Field→Option Bool
 |a=>((f326.L0_3 N N (a,a,(a.length:Int),0)).bind fun b=>
 (match b with
 |.inl c=>some c
 |.inr d=>some true))
def G326:SEnv:=(G89 N).put 326 s326 (F326 N)
theorem K326:EnvOK tab (G326 N):=(K89 N).put ((((K89 N).on s326).addLoop N 1021001007000 3 f326.T1021001007000_3 f326.O1021001007000_3).addLoop N 0 3 f326.T0_3 f326.O0_3) _ _ _ (funext fun a=>by rw[F326,f326.M0_3 N N];kernel_rfl)
def s322:Sig:=sg [] [(true,(cshOf Tuse))]
def F322 (N:Nat):Unit→Option Wuse
 |()=>some (0,15,false,true)
def G322:SEnv:=(G326 N).put 322 s322 (F322 N)
theorem K322:EnvOK tab (G322 N):=(K326 N).put ((K326 N).on s322) _ _ _ (funext fun ()=>by rw[F322];kernel_rfl)
def s323:Sig:=sg [] [(true,(cshOf Tuse))]
def F323 (N:Nat):Unit→Option Wuse
 |()=>some ((-9223372036854775808),9223372036854775807,false,false)
def G323:SEnv:=(G322 N).put 323 s323 (F323 N)
theorem K323:EnvOK tab (G323 N):=(K322 N).put ((K322 N).on s323) _ _ _ (funext fun ()=>by rw[F323];kernel_rfl)
def s324:Sig:=sg [.c (.int .i64)] [(true,(cshOf Tuse))]
def F324 (N:Nat):Int→Option Wuse
 |a=>some (0,(wi64 (a-1)),false,false)
def G324:SEnv:=(G323 N).put 324 s324 (F324 N)
theorem K324:EnvOK tab (G324 N):=(K323 N).put ((K323 N).on s324) _ _ _ (funext fun a=>by rw[F324];kernel_rfl)
def s325:Sig:=sg [] [(true,(cshOf Tuse))]
def F325 (N:Nat):Unit→Option Wuse
 |()=>some (0,15,true,false)
def G325:SEnv:=(G324 N).put 325 s325 (F325 N)
theorem K325:EnvOK tab (G325 N):=(K324 N).put ((K324 N).on s325) _ _ _ (funext fun ()=>by rw[F325];kernel_rfl)
def s308:Sig:=⟨[.c (.int .u8)],[(true,[.int .i64,.int .i64,.bool,.bool,.int .i64,.int .i64,.bool,.bool,.int .i64,.int .i64,.bool,.bool]),(false,[.int .i64])],0,[(0,24,7,.bool),(0,34,16,.bool),(0,48,19,.bool),(0,46,19,.bool),(0,44,19,.bool),(0,42,19,.bool),(0,40,19,.bool),(0,38,19,.bool),(0,60,27,.bool),(0,58,27,.bool),(0,56,27,.bool),(0,54,27,.bool),(0,52,27,.bool),(0,78,46,.bool),(0,76,46,.bool),(0,84,52,.bool)],[],[(0,62,Tuse),(0,67,Tuse),(0,72,Tuse),(0,76,Tuse),(0,91,Tuse),(0,97,Tuse),(0,103,Tuse),(0,108,Tuse),(0,112,Tuse),(0,117,Tuse),(0,121,Tuse),(0,126,Tuse),(0,132,Tuse),(0,137,Tuse),(0,141,Tuse)],[]⟩
def F308:Int→Option (Xuse (Xuse (Xuse Int)))
 |a=>((cond (a==30)
 (some true)
 (some (a==31))).bind fun K=>
 (cond K
 (some (0,0,false,false,0,0,false,false,0,0,false,false,0))
 (cond (a==1)
 ((F322 N ()).bind fun e=>
 ((F323 N ()).bind fun f=>
 some (e.1,e.2.1,e.2.2.1,e.2.2.2,f.1,f.2.1,f.2.2.1,f.2.2.2,0,0,false,false,2)))
 (cond (a==2)
 ((F322 N ()).bind fun g=>
 ((F324 N 32).bind fun h=>
 some (g.1,g.2.1,g.2.2.1,g.2.2.2,h.1,h.2.1,h.2.2.1,h.2.2.2,0,0,false,false,2)))
 (cond (a==3)
 ((F322 N ()).bind fun i=>
 ((F324 N 2).bind fun j=>
 some (i.1,i.2.1,i.2.2.1,i.2.2.2,j.1,j.2.1,j.2.2.1,j.2.2.2,0,0,false,false,2)))
 ((cond (a==4)
 (some true)
 (some (a==15))).bind fun L=>
 (cond L
 ((F322 N ()).bind fun l=>
 some (l.1,l.2.1,l.2.2.1,l.2.2.2,0,0,false,false,0,0,false,false,1))
 ((cond (a==6)
 (some true)
 ((cond (a==7)
 (some true)
 ((cond (a==8)
 (some true)
 ((cond (a==9)
 (some true)
 ((cond (a==10)
 (some true)
 ((cond (a==11)
 (some true)
 (some (a==19))).bind fun M=>
 some M)).bind fun O=>
 some O)).bind fun P=>
 some P)).bind fun Q=>
 some Q)).bind fun R=>
 some R)).bind fun S=>
 (cond S
 ((F325 N ()).bind fun b=>
 ((F322 N ()).bind fun c=>
 ((F325 N ()).bind fun d=>
 (cond b.2.2.1
 (some (c.1,c.2.1,c.2.2.1,c.2.2.2,d.1,d.2.1,d.2.2.1,d.2.2.2,b.1,b.2.1,b.2.2.1,b.2.2.2,3))
 (some (c.1,c.2.1,c.2.2.1,c.2.2.2,d.1,d.2.1,d.2.2.1,d.2.2.2,b.1,b.2.1,b.2.2.1,b.2.2.2,2))))))
 ((cond (a==5)
 (some true)
 ((cond (a==12)
 (some true)
 ((cond (a==16)
 (some true)
 ((cond (a==18)
 (some true)
 ((cond (a==21)
 (some true)
 (some (a==33))).bind fun T=>
 some T)).bind fun U=>
 some U)).bind fun V=>
 some V)).bind fun W=>
 some W)).bind fun X=>
 (cond X
 ((F322 N ()).bind fun m=>
 ((F325 N ()).bind fun n=>
 some (m.1,m.2.1,m.2.2.1,m.2.2.2,n.1,n.2.1,n.2.2.1,n.2.2.2,0,0,false,false,2)))
 (cond (a==13)
 ((F322 N ()).bind fun o=>
 ((F325 N ()).bind fun p=>
 ((F324 N 8).bind fun q=>
 some (o.1,o.2.1,o.2.2.1,o.2.2.2,p.1,p.2.1,p.2.2.1,p.2.2.2,q.1,q.2.1,q.2.2.1,q.2.2.2,3))))
 (cond (a==14)
 ((F325 N ()).bind fun r=>
 ((F324 N 8).bind fun s=>
 ((F325 N ()).bind fun t=>
 some (r.1,r.2.1,r.2.2.1,r.2.2.2,s.1,s.2.1,s.2.2.1,s.2.2.2,t.1,t.2.1,t.2.2.1,t.2.2.2,3))))
 (cond (a==20)
 ((F325 N ()).bind fun u=>
 ((F325 N ()).bind fun v=>
 ((F325 N ()).bind fun w=>
 some (u.1,u.2.1,u.2.2.1,u.2.2.2,v.1,v.2.1,v.2.2.1,v.2.2.2,w.1,w.2.1,w.2.2.1,w.2.2.2,3))))
 (cond (a==17)
 ((F325 N ()).bind fun x=>
 ((F325 N ()).bind fun y=>
 some (x.1,x.2.1,x.2.2.1,x.2.2.2,y.1,y.2.1,y.2.2.1,y.2.2.2,0,0,false,false,2)))
 (cond (a==22)
 ((F324 N 200).bind fun z=>
 some (z.1,z.2.1,z.2.2.1,z.2.2.2,0,0,false,false,0,0,false,false,1))
 (cond (a==23)
 ((F325 N ()).bind fun A=>
 ((F324 N 200).bind fun B=>
 some (A.1,A.2.1,A.2.2.1,A.2.2.2,B.1,B.2.1,B.2.2.1,B.2.2.2,0,0,false,false,2)))
 ((cond (a==24)
 (some true)
 ((cond (a==28)
 (some true)
 (some (a==32))).bind fun Y=>
 some Y)).bind fun Z=>
 (cond Z
 ((F325 N ()).bind fun C=>
 some (C.1,C.2.1,C.2.2.1,C.2.2.2,0,0,false,false,0,0,false,false,1))
 (cond (a==25)
 ((F322 N ()).bind fun I=>
 ((F324 N 32).bind fun D=>
 some ((-1),I.2.1,I.2.2.1,I.2.2.2,D.1,D.2.1,D.2.2.1,D.2.2.2,0,0,false,false,2)))
 ((cond (a==26)
 (some true)
 (some (a==27))).bind fun a0=>
 (cond a0
 ((F324 N 32).bind fun E=>
 some (E.1,E.2.1,E.2.2.1,E.2.2.2,0,0,false,false,0,0,false,false,1))
 (cond (a==29)
 ((F322 N ()).bind fun G=>
 ((F322 N ()).bind fun H=>
 some (G.1,G.2.1,G.2.2.1,G.2.2.2,H.1,H.2.1,H.2.2.1,H.2.2.2,0,0,false,false,2)))
 (cond (a==34)
 ((F325 N ()).bind fun J=>
 some ((-1),J.2.1,J.2.2.1,J.2.2.2,0,0,false,false,0,0,false,false,1))
 (some (0,0,false,false,0,0,false,false,0,0,false,false,(-1)))))))))))))))))))))))))))
def G308:SEnv:=(G325 N).put 308 s308 (F308 N)
theorem K308:EnvOK tab (G308 N):=(K325 N).put ((K325 N).on s308) _ _ _ (funext fun a=>by rw[F308];kernel_rfl)
def s309:Sig:=sg [.agg (cshOf TInstr)] [(true,[.int .i64,.int .i64,.int .i64])]
def F309 (N:Nat):WInstr→Option (Int×Int×Int)
 |(d,a,b,c)=>some (a,b,c)
def G309:SEnv:=(G308 N).put 309 s309 (F309 N)
theorem K309:EnvOK tab (G309 N):=(K308 N).put ((K308 N).on s309) _ _ _ (funext fun⟨a,b,c,d⟩=>by rw[F309];kernel_rfl)
def s307:Sig:=⟨[.agg (cshOf TInstr)],[(false,[.int .i64])],0,[(0,12,34,.bool),(0,100012,34,.bool)],[(0,7),(0,100007)],[],[]⟩
def F307:WInstr→Option Int
 |(c,d,e,f)=>((F308 N c).bind fun a=>
 (cond (decide (a.2.2.2.2.2.2.2.2.2.2.2.2<0))
 (some 8)
 ((F309 N (c,d,e,f)).bind fun b=>
 ((cond (decide (b.1<a.1))
 (some true)
 (some (decide (b.1>a.2.1)))).bind fun g=>
 (cond g
 (some 8)
 ((cond (decide (b.2.1<a.2.2.2.2.1))
 (some true)
 (some (decide (b.2.1>a.2.2.2.2.2.1)))).bind fun h=>
 (cond h
 (some 8)
 ((cond (decide (b.2.2<a.2.2.2.2.2.2.2.2.1))
 (some true)
 (some (decide (b.2.2>a.2.2.2.2.2.2.2.2.2.1)))).bind fun i=>
 (cond i
 (some 8)
 (some 0))))))))))
def G307:SEnv:=(G309 N).put 307 s307 (F307 N)
theorem K307:EnvOK tab (G307 N):=(K309 N).put ((K309 N).on s307) _ _ _ (funext fun⟨a,b,c,d⟩=>by rw[F307];kernel_rfl)
def s154:Sig:=⟨[.c (.int .i64)],[(false,[.int .i64])],0,[(0,1,8,.bool)],[],[],[]⟩
def F154 (N:Nat):Int→Option Int
 |a=>((cond (decide (a<1))
 (some true)
 (some (decide (a>200)))).bind fun b=>
 (cond b
 (some 2)
 (some 0)))
def G154:SEnv:=(G307 N).put 154 s154 (F154 N)
theorem K154:EnvOK tab (G154 N):=(K307 N).put ((K307 N).on s154) _ _ _ (funext fun a=>by rw[F154];kernel_rfl)
def s155:Sig:=⟨[.c (.sl TRun .bor),.c (.int .i64)],[(false,[.bool])],0,[(0,1,28,.bool)],[],[],[]⟩
def y155_0:SEnv:=(G154 N).on s155
def f155.T0_7:Tmpl:=tm [(5,.c (.ptr 0 5 0 0 0)),(33,.c (.sl TRun .bor)),(34,.c (.int .i64)),(35,.c (.int .i64))] [] [(0,5,.box 0 (cshOf TRun))] 1 [] 1
def f155.O0_7:Outs:=[(.ret,tm [(4,.c (.bool))] [] [] 1 [] 0),(.exit 0,tm [] [] [] 1 [] 0)]
def f155.L0_7 (N:Nat):Nat→List Run×Int×Int×Int×Int→Option (Bool⊕Unit)
 |0,_=>none
 |k+1,(c,d,b,e,f)=>(cond (decide (b<d))
 ((idx c b).bind fun a=>
 (cond (decide (a.1≤e))
 (some (Sum.inl false))
 (cond (a.1==a.1&&(a.2==f&&true))
 (some (Sum.inl false))
 (f155.L0_7 N k (c,d,(wi64 (b+1)),a.1,a.2)))))
 (some (Sum.inr ())))
theorem f155.M0_7:∀ k,f155.L0_7 N k=lp (y155_0 N) 0 7 (tq 155) 7 f155.T0_7 f155.O0_7 k
 |0=>rfl
 |k+1=>funext fun⟨a,b,c,d,e⟩=>by rw[f155.L0_7,f155.M0_7 k];kernel_rfl
def y155_1:SEnv:=(y155_0 N).addLoop N 0 7 f155.T0_7 f155.O0_7
def F155:List Run×Int→Option Bool
 |(a,c)=>((cond ((a.length:Int)==0)
 (some true)
 ((idx a 0).bind fun d=>
 (cond (d.1 != 0)
 (some true)
 ((idx a (wi64 ((a.length:Int)-1))).bind fun e=>
 some (decide (e.1≥c)))))).bind fun f=>
 (cond f
 (some false)
 ((idx a 0).bind fun b=>
 (chk (decide (1≤a.length))
 ((f155.L0_7 N N ((a.drop 1),((a.drop 1).length:Int),0,b.1,b.2)).bind fun g=>
 (match g with
 |.inl h=>some h
 |.inr i=>some true))))))
def G155:SEnv:=(G154 N).put 155 s155 (F155 N)
theorem K155:EnvOK tab (G155 N):=(K154 N).put (((K154 N).on s155).addLoop N 0 7 f155.T0_7 f155.O0_7) _ _ _ (funext fun⟨a,b⟩=>by rw[F155,f155.M0_7 N N];kernel_rfl)
def s84:Sig:=sg [.c (.sl TRun .bor),.c (.int .i64)] [(false,[.int .i64])]
def F84:List Run×Int→Option Int
 |(c,a)=>((F154 N a).bind fun b=>
 (cond (b != 0)
 (some b)
 ((F155 N (c,a)).bind fun d=>
 (cond (!d)
 (some 8)
 (some 0)))))
def G84:SEnv:=(G155 N).put 84 s84 (F84 N)
theorem K84:EnvOK tab (G84 N):=(K155 N).put ((K155 N).on s84) _ _ _ (funext fun⟨a,b⟩=>by rw[F84];kernel_rfl)
def s310:Sig:=⟨[.c (.sl TGType .bor),.agg (shB TFunc)],[(false,[.bool])],0,[(0,1,49,.bool),(0,11,66,.bool),(0,26,4,.bool)],[],[],[]⟩
def y310_0:SEnv:=(G84 N).on s310
def f310.T0_6:Tmpl:=tm [(0,.c (.sl TGType .bor)),(3,.c (.ptr 0 3 0 0 0)),(51,.c (.sl TField .bor)),(52,.c (.int .i64)),(53,.c (.int .i64))] [] [(0,3,.box 0 (shB TFunc))] 1 [] 1
def f310.O0_6:Outs:=[(.ret,tm [(4,.c (.bool))] [] [] 1 [] 0),(.exit 0,tm [(3,.c (.ptr 0 3 0 0 0))] [] [(0,3,.box 0 (shB TFunc))] 1 [] 1)]
def f310.L0_6 (N:Nat):Nat→List GType×List Field×Int×Int×WFunc→Option (Bool⊕WFunc)
 |0,_=>none
 |k+1,(b,c,d,a,e,f,g,h,i,j,l)=>(cond (decide (a<d))
 ((idx c a).bind fun m=>
 ((cond (decide (m.2<0))
 (some true)
 (some (decide (m.2≥(b.length:Int))))).bind fun n=>
 (cond n
 (some (Sum.inl false))
 (f310.L0_6 N k (b,c,d,(wi64 (a+1)),e,f,g,h,i,j,l)))))
 (some (Sum.inr (e,f,g,h,i,j,l))))
theorem f310.M0_6:∀ k,f310.L0_6 N k=lp (y310_0 N) 0 6 (tq 310) 6 f310.T0_6 f310.O0_6 k
 |0=>rfl
 |k+1=>funext fun⟨a,b,c,d,e,f,g,h,i,j,l⟩=>by rw[f310.L0_6,f310.M0_6 k];kernel_rfl
def y310_1:SEnv:=(y310_0 N).addLoop N 0 6 f310.T0_6 f310.O0_6
def f310.T0_17:Tmpl:=tm [(3,.c (.ptr 0 3 0 0 0)),(69,.c (.sl TInstr .bor)),(70,.c (.int .i64)),(71,.c (.int .i64))] [] [(0,3,.box 0 (shB TFunc))] 1 [] 1
def f310.O0_17:Outs:=[(.ret,tm [(4,.c (.bool))] [] [] 1 [] 0),(.exit 2,tm [(3,.c (.ptr 0 3 0 0 0))] [] [(0,3,.box 0 (shB TFunc))] 1 [] 1)]
def f310.L0_17:Nat→List Instr×Int×Int×WFunc→Option (Bool⊕WFunc)
 |0,_=>none
 |k+1,(c,d,b,e,f,g,h,i,j,l)=>(cond (decide (b<d))
 ((idx c b).bind fun a=>
 ((F307 N (a.1,a.2.1,a.2.2.1,a.2.2.2)).bind fun m=>
 (cond (m != 0)
 (some (Sum.inl false))
 (f310.L0_17 k (c,d,(wi64 (b+1)),e,f,g,h,i,j,l)))))
 (some (Sum.inr (e,f,g,h,i,j,l))))
theorem f310.M0_17:∀ k,f310.L0_17 N k=lp (y310_1 N) 0 17 (tq 310) 17 f310.T0_17 f310.O0_17 k
 |0=>rfl
 |k+1=>funext fun⟨a,b,c,d,e,f,g,h,i,j⟩=>by rw[f310.L0_17,f310.M0_17 k];kernel_rfl
def y310_2:SEnv:=(y310_1 N).addLoop N 0 17 f310.T0_17 f310.O0_17
def F310:List GType×WFunc→Option Bool
 |(f,g,d,e,b,h,i,j)=>(((F279 N g).bind fun l=>
 (cond (!l)
 (some true)
 (cond (decide ((b.length:Int)>16))
 (some true)
 ((F326 N b).bind fun m=>
 (cond (!m)
 (some true)
 (cond (decide (d<0))
 (some true)
 (cond (decide (d>(b.length:Int)))
 (some true)
 (cond (decide (e<(-1)))
 (some true)
 (some (decide (e≥(f.length:Int)))))))))))).bind fun n=>
 (cond n
 (some false)
 ((f310.L0_6 N N (f,b,(b.length:Int),0,g,d,e,b,h,i,j)).bind fun o=>
 (match o with
 |.inl p=>some p
 |.inr a=>((f310.L0_17 N N (a.2.2.2.2.1,(a.2.2.2.2.1.length:Int),0,a.1,a.2.1,a.2.2.1,a.2.2.2.1,a.2.2.2.2.1,a.2.2.2.2.2.1,a.2.2.2.2.2.2)).bind fun q=>
 (match q with
 |.inl r=>some r
 |.inr c=>(((F84 N (c.2.2.2.2.2.1,(c.2.2.2.2.1.length:Int))).bind fun s=>
 (cond (s==0)
 ((F84 N (c.2.2.2.2.2.2,(c.2.2.2.2.1.length:Int))).bind fun t=>
 some (t==0))
 (some false))).bind fun u=>
 some u)))))))
def G310:SEnv:=(G84 N).put 310 s310 (F310 N)
theorem K310:EnvOK tab (G310 N):=(K84 N).put ((((K84 N).on s310).addLoop N 0 6 f310.T0_6 f310.O0_6).addLoop N 0 17 f310.T0_17 f310.O0_17) _ _ _ (funext fun⟨a,b,c,d,e,f,g,h⟩=>by rw[F310,f310.M0_6 N N,f310.M0_17 N N];kernel_rfl)
def s272:Sig:=⟨[.agg (shB TImage)],[(false,[.bool])],0,[(0,1,33,.bool)],[],[],[]⟩
def y272_0:SEnv:=(G310 N).on s272
def f272.T0_6:Tmpl:=tm [(1,.c (.ptr 0 1 0 0 0)),(36,.c (.int .i64)),(37,.c (.int .i64))] [] [(0,1,.box 0 (shB TImage))] 1 [] 1
def f272.O0_6:Outs:=[(.ret,tm [(2,.c (.bool))] [] [] 1 [] 0),(.exit 0,tm [(1,.c (.ptr 0 1 0 0 0))] [] [(0,1,.box 0 (shB TImage))] 1 [] 1)]
def f272.L0_6:Nat→Int×Int×WImage→Option (Bool⊕WImage)
 |0,_=>none
 |k+1,(c,a,b,d,e)=>(cond (decide (a<c))
 ((F89 N (b,a)).bind fun f=>
 (cond (f.2.2 != 0)
 (some (Sum.inl false))
 (f272.L0_6 k (c,(wi64 (a+1)),b,d,e))))
 (some (Sum.inr (b,d,e))))
theorem f272.M0_6:∀ k,f272.L0_6 N k=lp (y272_0 N) 0 6 (tq 272) 6 f272.T0_6 f272.O0_6 k
 |0=>rfl
 |k+1=>funext fun⟨a,b,c,d,e⟩=>by rw[f272.L0_6,f272.M0_6 k];kernel_rfl
def y272_1:SEnv:=(y272_0 N).addLoop N 0 6 f272.T0_6 f272.O0_6
def f272.T0_18:Tmpl:=tm [(1,.c (.ptr 0 1 0 0 0)),(52,.c (.sl .str .bor)),(53,.c (.int .i64)),(54,.c (.int .i64))] [] [(0,1,.box 0 (shB TImage))] 1 [] 1
def f272.O0_18:Outs:=[(.ret,tm [(2,.c (.bool))] [] [] 1 [] 0),(.exit 2,tm [(1,.c (.ptr 0 1 0 0 0))] [] [(0,1,.box 0 (shB TImage))] 1 [] 1)]
def f272.L0_18 (N:Nat):Nat→List (List UInt8)×Int×Int×WImage→Option (Bool⊕WImage)
 |0,_=>none
 |k+1,(b,c,a,d,e,f)=>(cond (decide (a<c))
 ((idx b a).bind fun g=>
 (cond (decide ((g.length:Int)>64))
 (some (Sum.inl false))
 (f272.L0_18 N k (b,c,(wi64 (a+1)),d,e,f))))
 (some (Sum.inr (d,e,f))))
theorem f272.M0_18:∀ k,f272.L0_18 N k=lp (y272_1 N) 0 18 (tq 272) 18 f272.T0_18 f272.O0_18 k
 |0=>rfl
 |k+1=>funext fun⟨a,b,c,d,e,f⟩=>by rw[f272.L0_18,f272.M0_18 k];kernel_rfl
def y272_2:SEnv:=(y272_1 N).addLoop N 0 18 f272.T0_18 f272.O0_18
def f272.T0_30:Tmpl:=tm [(1,.c (.ptr 0 1 0 0 0)),(9,.c (.mp 0 62 1)),(64,.c (.sl TFunc .bor)),(65,.c (.int .i64)),(66,.c (.int .i64))] [] [(0,1,.box 0 (shB TImage)),(0,62,.set 1)] 1 [] 2
def f272.O0_30:Outs:=[(.ret,tm [(2,.c (.bool))] [] [] 1 [] 0),(.exit 4,tm [] [] [] 1 [] 0)]
def f272.L0_30:Nat→List Func×Int×Int×XImage (List (List UInt8))→Option (Bool⊕Unit)
 |0,_=>none
 |k+1,(c,d,b,e,g,h,f)=>(cond (decide (b<d))
 ((idx c b).bind fun a=>
 (cond (hasB f a.1)
 (some (Sum.inl false))
 ((F310 N (e,a.1,a.2.1,a.2.2.1,a.2.2.2.1,a.2.2.2.2.1,a.2.2.2.2.2.1,a.2.2.2.2.2.2)).bind fun i=>
 (cond (!i)
 (some (Sum.inl false))
 (f272.L0_30 k (c,d,(wi64 (b+1)),e,g,h,(addB f a.1)))))))
 (some (Sum.inr ())))
theorem f272.M0_30:∀ k,f272.L0_30 N k=lp (y272_2 N) 0 30 (tq 272) 30 f272.T0_30 f272.O0_30 k
 |0=>rfl
 |k+1=>funext fun⟨a,b,c,d,e,f,g⟩=>by rw[f272.L0_30,f272.M0_30 k];kernel_rfl
def y272_3:SEnv:=(y272_2 N).addLoop N 0 30 f272.T0_30 f272.O0_30
def F272:WImage→Option Bool
 |(c,e,d)=>(((F151 N c).bind fun f=>
 (cond (f != 0)
 (some true)
 (cond (decide ((e.length:Int)>32))
 (some true)
 (cond ((d.length:Int)==0)
 (some true)
 (some (decide ((d.length:Int)>32))))))).bind fun g=>
 (cond g
 (some false)
 ((f272.L0_6 N N ((c.length:Int),0,c,e,d)).bind fun h=>
 (match h with
 |.inl i=>some i
 |.inr a=>((f272.L0_18 N N (a.2.1,(a.2.1.length:Int),0,a.1,a.2.1,a.2.2)).bind fun j=>
 (match j with
 |.inl l=>some l
 |.inr b=>((f272.L0_30 N N (b.2.2,(b.2.2.length:Int),0,b.1,b.2.1,b.2.2,([]:List (List UInt8)))).bind fun m=>
 (match m with
 |.inl n=>some n
 |.inr o=>some true))))))))
def G272:SEnv:=(G310 N).put 272 s272 (F272 N)
theorem K272:EnvOK tab (G272 N):=(K310 N).put (((((K310 N).on s272).addLoop N 0 6 f272.T0_6 f272.O0_6).addLoop N 0 18 f272.T0_18 f272.O0_18).addLoop N 0 30 f272.T0_30 f272.O0_30) _ _ _ (funext fun⟨a,b,c⟩=>by rw[F272,f272.M0_6 N N,f272.M0_18 N N,f272.M0_30 N N];kernel_rfl)
def s312:Sig:=⟨[.c (.int .u64)],[(false,[.sl (.int .u8) .d])],1,[],[(0,4)],[(0,2,(.int .u8)),(1014000,5,(.int .u8)),(1018000,5,(.int .u8))],[]⟩
def y312_0:SEnv:=(G272 N).on s312
def f312.T0_100004:Tmpl:=tm [(0,.c (.int .u64)),(3,.c (.ptr 0 3 0 0 0)),(4,.clo 327 [.ptr 0 3 0 0 0])] [] [(0,3,.box 0 [.ref 0 1020934 1 (.int .u8)]),(0,1020934,.row 1 (.int .u8))] 1 [] 2
def f312.O0_100004:Outs:=[(.exit 0,tm [(0,.c (.int .u64)),(3,.c (.ptr 0 3 0 0 0)),(4,.clo 327 [.ptr 0 3 0 0 0])] [] [(0,3,.box 0 [.ref 0 1020934 1 (.int .u8)]),(0,1020934,.row 1 (.int .u8))] 1 [] 2)]
def f312.L0_100004 (N:Nat):Nat→Int×List Int→Option ((Int×List Int))
 |0,_=>none
 |k+1,(a,b)=>(cond (decide (a≥128))
 (chk (room (b.length+1) 1)
 (f312.L0_100004 N k ((Int.fdiv a 128),(b++[(ior .u8 (wu8 a) 128)]))))
 (some (a,b)))
theorem f312.M0_100004:∀ k,f312.L0_100004 N k=lp (y312_0 N) 0 100004 (tq 312) 4 f312.T0_100004 f312.O0_100004 k
 |0=>rfl
 |k+1=>funext fun⟨a,b⟩=>by rw[f312.L0_100004,f312.M0_100004 k];kernel_rfl
def y312_1:SEnv:=(y312_0 N).addLoop N 0 100004 f312.T0_100004 f312.O0_100004
def F312:Int→Option (List Int)
 |a=>(cond (decide (a≥128))
 (chk (room 1 1)
 ((f312.L0_100004 N N ((Int.fdiv a 128),[(ior .u8 (wu8 a) 128)])).bind fun b=>
 (chk (room (b.2.length+1) 1)
 (some (b.2++[(wu8 b.1)])))))
 (chk (room 1 1)
 (some [(wu8 a)])))
def G312:SEnv:=(G272 N).put 312 s312 (F312 N)
theorem K312:EnvOK tab (G312 N):=(K272 N).put (((K272 N).on s312).addLoop N 0 100004 f312.T0_100004 f312.O0_100004) _ _ _ (funext fun a=>by rw[F312,f312.M0_100004 N N];kernel_rfl)
def s313:Sig:=sg [.c (.int .i64)] [(false,[.sl (.int .u8) .d])]
def F313:Int→Option (List Int)
 |a=>((F312 N (ixor .u64 (wu64 ((wu64 a)*2)) (wu64 (Int.fdiv a 9223372036854775808)))).bind fun b=>
 some b)
def G313:SEnv:=(G312 N).put 313 s313 (F313 N)
theorem K313:EnvOK tab (G313 N):=(K312 N).put ((K312 N).on s313) _ _ _ (funext fun a=>by rw[F313];kernel_rfl)
def s314:Sig:=⟨[.agg (cshOf TInstr)],[(false,[.sl (.int .u8) .d]),(false,[.int .i64])],0,[(0,100017,39,.bool),(0,17,39,.bool)],[(0,9),(0,100009)],[(0,23,(.int .u8))],[]⟩
def F314:WInstr→Option (List Int×Int)
 |(a,m,n,o)=>((F307 N (a,m,n,o)).bind fun p=>
 (cond (p != 0)
 (some ([],p))
 ((F308 N a).bind fun b=>
 ((F309 N (a,m,n,o)).bind fun c=>
 (cond (decide (0≥b.2.2.2.2.2.2.2.2.2.2.2.2))
 (cond (decide (1≥b.2.2.2.2.2.2.2.2.2.2.2.2))
 (cond (decide (2≥b.2.2.2.2.2.2.2.2.2.2.2.2))
 (some ([a],0))
 (cond (decide (b.2.2.2.2.2.2.2.2.1<0))
 ((F313 N c.2.2).bind fun q=>
 (chk (room (1+q.length) 1)
 (some (([a]++q),0))))
 ((F312 N (wu64 c.2.2)).bind fun r=>
 (chk (room (1+r.length) 1)
 (some (([a]++r),0))))))
 (cond (decide (b.2.2.2.2.1<0))
 ((F313 N c.2.1).bind fun f=>
 (chk (room (1+f.length) 1)
 (cond (decide (2≥b.2.2.2.2.2.2.2.2.2.2.2.2))
 (some (([a]++f),0))
 (cond (decide (b.2.2.2.2.2.2.2.2.1<0))
 ((F313 N c.2.2).bind fun s=>
 (chk (room (([a]++f).length+s.length) 1)
 (some ((([a]++f)++s),0))))
 ((F312 N (wu64 c.2.2)).bind fun t=>
 (chk (room (([a]++f).length+t.length) 1)
 (some ((([a]++f)++t),0))))))))
 ((F312 N (wu64 c.2.1)).bind fun g=>
 (chk (room (1+g.length) 1)
 (cond (decide (2≥b.2.2.2.2.2.2.2.2.2.2.2.2))
 (some (([a]++g),0))
 (cond (decide (b.2.2.2.2.2.2.2.2.1<0))
 ((F313 N c.2.2).bind fun u=>
 (chk (room (([a]++g).length+u.length) 1)
 (some ((([a]++g)++u),0))))
 ((F312 N (wu64 c.2.2)).bind fun v=>
 (chk (room (([a]++g).length+v.length) 1)
 (some ((([a]++g)++v),0))))))))))
 (cond (decide (b.1<0))
 ((F313 N c.1).bind fun d=>
 (chk (room (1+d.length) 1)
 (cond (decide (1≥b.2.2.2.2.2.2.2.2.2.2.2.2))
 (cond (decide (2≥b.2.2.2.2.2.2.2.2.2.2.2.2))
 (some (([a]++d),0))
 (cond (decide (b.2.2.2.2.2.2.2.2.1<0))
 ((F313 N c.2.2).bind fun w=>
 (chk (room (([a]++d).length+w.length) 1)
 (some ((([a]++d)++w),0))))
 ((F312 N (wu64 c.2.2)).bind fun x=>
 (chk (room (([a]++d).length+x.length) 1)
 (some ((([a]++d)++x),0))))))
 (cond (decide (b.2.2.2.2.1<0))
 ((F313 N c.2.1).bind fun h=>
 (chk (room (([a]++d).length+h.length) 1)
 (cond (decide (2≥b.2.2.2.2.2.2.2.2.2.2.2.2))
 (some ((([a]++d)++h),0))
 (cond (decide (b.2.2.2.2.2.2.2.2.1<0))
 ((F313 N c.2.2).bind fun y=>
 (chk (room ((([a]++d)++h).length+y.length) 1)
 (some (((([a]++d)++h)++y),0))))
 ((F312 N (wu64 c.2.2)).bind fun z=>
 (chk (room ((([a]++d)++h).length+z.length) 1)
 (some (((([a]++d)++h)++z),0))))))))
 ((F312 N (wu64 c.2.1)).bind fun i=>
 (chk (room (([a]++d).length+i.length) 1)
 (cond (decide (2≥b.2.2.2.2.2.2.2.2.2.2.2.2))
 (some ((([a]++d)++i),0))
 (cond (decide (b.2.2.2.2.2.2.2.2.1<0))
 ((F313 N c.2.2).bind fun A=>
 (chk (room ((([a]++d)++i).length+A.length) 1)
 (some (((([a]++d)++i)++A),0))))
 ((F312 N (wu64 c.2.2)).bind fun B=>
 (chk (room ((([a]++d)++i).length+B.length) 1)
 (some (((([a]++d)++i)++B),0))))))))))))
 ((F312 N (wu64 c.1)).bind fun e=>
 (chk (room (1+e.length) 1)
 (cond (decide (1≥b.2.2.2.2.2.2.2.2.2.2.2.2))
 (cond (decide (2≥b.2.2.2.2.2.2.2.2.2.2.2.2))
 (some (([a]++e),0))
 (cond (decide (b.2.2.2.2.2.2.2.2.1<0))
 ((F313 N c.2.2).bind fun C=>
 (chk (room (([a]++e).length+C.length) 1)
 (some ((([a]++e)++C),0))))
 ((F312 N (wu64 c.2.2)).bind fun D=>
 (chk (room (([a]++e).length+D.length) 1)
 (some ((([a]++e)++D),0))))))
 (cond (decide (b.2.2.2.2.1<0))
 ((F313 N c.2.1).bind fun j=>
 (chk (room (([a]++e).length+j.length) 1)
 (cond (decide (2≥b.2.2.2.2.2.2.2.2.2.2.2.2))
 (some ((([a]++e)++j),0))
 (cond (decide (b.2.2.2.2.2.2.2.2.1<0))
 ((F313 N c.2.2).bind fun E=>
 (chk (room ((([a]++e)++j).length+E.length) 1)
 (some (((([a]++e)++j)++E),0))))
 ((F312 N (wu64 c.2.2)).bind fun G=>
 (chk (room ((([a]++e)++j).length+G.length) 1)
 (some (((([a]++e)++j)++G),0))))))))
 ((F312 N (wu64 c.2.1)).bind fun l=>
 (chk (room (([a]++e).length+l.length) 1)
 (cond (decide (2≥b.2.2.2.2.2.2.2.2.2.2.2.2))
 (some ((([a]++e)++l),0))
 (cond (decide (b.2.2.2.2.2.2.2.2.1<0))
 ((F313 N c.2.2).bind fun H=>
 (chk (room ((([a]++e)++l).length+H.length) 1)
 (some (((([a]++e)++l)++H),0))))
 ((F312 N (wu64 c.2.2)).bind fun I=>
 (chk (room ((([a]++e)++l).length+I.length) 1)
 (some (((([a]++e)++l)++I),0))))))))))))))))))
def G314:SEnv:=(G313 N).put 314 s314 (F314 N)
theorem K314:EnvOK tab (G314 N):=(K313 N).put ((K313 N).on s314) _ _ _ (funext fun⟨a,b,c,d⟩=>by rw[F314];kernel_rfl)
def s315:Sig:=sg [.c (.sl TRun .bor),.c (.int .i64)] [(false,[.sl (.int .u8) .d]),(false,[.int .i64])]
def y315_0:SEnv:=(G314 N).on s315
def f315.T0_9:Tmpl:=tm [(7,.c (.ref 0 20 0 (.int .u8))),(8,.c (.int .i64)),(21,.c (.sl TRun .bor)),(22,.c (.int .i64)),(23,.c (.int .i64))] [] [(0,20,.row 0 (.int .u8))] 1 [] 1
def f315.O0_9:Outs:=[(.exit 0,tm [(7,.c (.ref 0 20 0 (.int .u8)))] [] [(0,20,.row 0 (.int .u8))] 1 [] 1)]
def f315.L0_9:Nat→Int×List Run×Int×Int×List Int→Option ((List Int))
 |0,_=>none
 |k+1,(h,e,f,b,a)=>(cond (decide (b<f))
 ((idx e b).bind fun c=>
 ((F312 N (wu64 (wi64 (c.1-h)))).bind fun d=>
 (chk (room (a.length+d.length) 1)
 ((F312 N c.2).bind fun g=>
 (chk (room ((a++d).length+g.length) 1)
 (f315.L0_9 k (c.1,e,f,(wi64 (b+1)),((a++d)++g))))))))
 (some a))
theorem f315.M0_9:∀ k,f315.L0_9 N k=lp (y315_0 N) 0 9 (tq 315) 9 f315.T0_9 f315.O0_9 k
 |0=>rfl
 |k+1=>funext fun⟨a,b,c,d,e⟩=>by rw[f315.L0_9,f315.M0_9 k];kernel_rfl
def y315_1:SEnv:=(y315_0 N).addLoop N 0 9 f315.T0_9 f315.O0_9
def F315:List Run×Int→Option (List Int×Int)
 |(a,c)=>((F84 N (a,c)).bind fun b=>
 (cond (b != 0)
 (some ([],b))
 ((F312 N (wu64 (a.length:Int))).bind fun d=>
 ((f315.L0_9 N N (0,a,(a.length:Int),0,d)).bind fun e=>
 some (e,0)))))
def G315:SEnv:=(G314 N).put 315 s315 (F315 N)
theorem K315:EnvOK tab (G315 N):=(K314 N).put (((K314 N).on s315).addLoop N 0 9 f315.T0_9 f315.O0_9) _ _ _ (funext fun⟨a,b⟩=>by rw[F315,f315.M0_9 N N];kernel_rfl)
def s231:Sig:=⟨[.agg (shB TImage)],[(false,[.sl (.int .u8) .d]),(false,[.int .i64])],0,[(1015000,12,29,.bool)],[],[(1015000,23,(.int .u8)),(1042000,70,(.sl TRun))],[]⟩
def y231_0:SEnv:=(G315 N).on s231
def f231.T1015001051000_3:Tmpl:=tm [(0,.c (.ptr 0 4 0 0 0)),(10,.c (.sl TField .d)),(11,.c (.int .i64)),(12,.c (.int .i64))] [[(0,.c (.ptr 0 4 0 0 0))],[(1,.c (.ptr 0 1 1 0 0)),(4,.c (.ptr 0 4 0 0 0))]] [(0,4,.box 0 [.sl (.int .u8) (.app 2)]),(0,1,.box 1 (shB TImage))] 3 [2] 3
def f231.O1015001051000_3:Outs:=[(.exit 0,tm [] [[(0,.c (.ptr 0 4 0 0 0))],[(1,.c (.ptr 0 1 1 0 0)),(4,.c (.ptr 0 4 0 0 0))]] [(0,4,.box 0 [.sl (.int .u8) (.app 2)]),(0,1,.box 1 (shB TImage))] 3 [2] 3)]
def f231.L1015001051000_3:Nat→List Field×Int×Int×List Int×WImage→Option ((List Int×WImage))
 |0,_=>none
 |k+1,(e,f,d,a,g,h,i)=>(cond (decide (d<f))
 ((idx e d).bind fun b=>
 ((F312 N (wu64 (b.1.length:Int))).bind fun c=>
 (chk (room (a.length+c.length) 1)
 (chk (room ((a++c).length+(bytesL b.1).length) 1)
 ((F312 N (wu64 b.2)).bind fun j=>
 (chk (room (((a++c)++(bytesL b.1)).length+j.length) 1)
 (f231.L1015001051000_3 k (e,f,(wi64 (d+1)),(((a++c)++(bytesL b.1))++j),g,h,i))))))))
 (some (a,g,h,i)))
theorem f231.M1015001051000_3:∀ k,f231.L1015001051000_3 N k=lp (y231_0 N) 1015001051000 3 (tq 311) 3 f231.T1015001051000_3 f231.O1015001051000_3 k
 |0=>rfl
 |k+1=>funext fun⟨a,b,c,d,e,f,g⟩=>by rw[f231.L1015001051000_3,f231.M1015001051000_3 k];kernel_rfl
def y231_1:SEnv:=(y231_0 N).addLoop N 1015001051000 3 f231.T1015001051000_3 f231.O1015001051000_3
def f231.T1015000_3:Tmpl:=tm [(0,.c (.ptr 0 4 0 0 0)),(10,.c (.sl TGType .bor)),(11,.c (.int .i64)),(12,.c (.int .i64))] [[(1,.c (.ptr 0 1 1 0 0)),(4,.c (.ptr 0 4 0 0 0))]] [(0,4,.box 0 [.sl (.int .u8) (.app 2)]),(0,1,.box 1 (shB TImage))] 2 [2] 3
def f231.O1015000_3:Outs:=[(.exit 0,tm [] [[(1,.c (.ptr 0 1 0 0 0)),(4,.c (.ptr 0 4 1 0 0))]] [(0,1,.box 0 (shB TImage)),(0,4,.box 1 [.sl (.int .u8) (.app 2)])] 2 [2] 3)]
def f231.L1015000_3:Nat→List GType×Int×Int×List Int×WImage→Option ((XImage (List Int)))
 |0,_=>none
 |k+1,(d,e,c,b,f,g,h)=>(cond (decide (c<e))
 ((idx d c).bind fun a=>
 (chk (room (b.length+1) 1)
 ((cond (a.1==4)
 (some true)
 (some (a.1==7))).bind fun o=>
 (cond o
 ((F312 N (wu64 a.2.1)).bind fun l=>
 (chk (room ((b++[a.1]).length+l.length) 1)
 (f231.L1015000_3 k (d,e,(wi64 (c+1)),((b++[a.1])++l),f,g,h))))
 (cond (a.1==6)
 ((F312 N (wu64 a.2.1)).bind fun j=>
 (chk (room ((b++[a.1]).length+j.length) 1)
 ((F312 N (wu64 a.2.2.1)).bind fun m=>
 (chk (room (((b++[a.1])++j).length+m.length) 1)
 (f231.L1015000_3 k (d,e,(wi64 (c+1)),(((b++[a.1])++j)++m),f,g,h))))))
 (cond (a.1==5)
 ((F312 N (wu64 (a.2.2.2.length:Int))).bind fun n=>
 (chk (room ((b++[a.1]).length+n.length) 1)
 ((f231.L1015001051000_3 N N (a.2.2.2,(a.2.2.2.length:Int),0,((b++[a.1])++n),f,g,h)).bind fun i=>
 f231.L1015000_3 k (d,e,(wi64 (c+1)),i.1,i.2.1,i.2.2.1,i.2.2.2))))
 (f231.L1015000_3 k (d,e,(wi64 (c+1)),(b++[a.1]),f,g,h))))))))
 (some (f,g,h,b)))
theorem f231.M1015000_3:∀ k,f231.L1015000_3 N k=lp (y231_1 N) 1015000 3 (tq 273) 3 f231.T1015000_3 f231.O1015000_3 k
 |0=>rfl
 |k+1=>funext fun⟨a,b,c,d,e,f,g⟩=>by rw[f231.L1015000_3,f231.M1015000_3 k,f231.M1015001051000_3 N N];kernel_rfl
def y231_2:SEnv:=(y231_1 N).addLoop N 1015000 3 f231.T1015000_3 f231.O1015000_3
def f231.T0_9:Tmpl:=tm [(1,.c (.ptr 0 1 0 0 0)),(4,.c (.ptr 0 4 1 0 0)),(21,.c (.sl .str .bor)),(22,.c (.int .i64)),(23,.c (.int .i64))] [] [(0,1,.box 0 (shB TImage)),(0,4,.box 1 [.sl (.int .u8) (.app 2)])] 1 [2] 3
def f231.O0_9:Outs:=[(.exit 0,tm [(1,.c (.ptr 0 1 0 0 0)),(4,.c (.ptr 0 4 1 0 0))] [] [(0,1,.box 0 (shB TImage)),(0,4,.box 1 [.sl (.int .u8) (.app 2)])] 1 [2] 3)]
def f231.L0_9:Nat→List (List UInt8)×Int×Int×XImage (List Int)→Option ((XImage (List Int)))
 |0,_=>none
 |k+1,(e,f,b,g,h,i,a)=>(cond (decide (b<f))
 ((idx e b).bind fun c=>
 ((F312 N (wu64 (c.length:Int))).bind fun d=>
 (chk (room (a.length+d.length) 1)
 (chk (room ((a++d).length+(bytesL c).length) 1)
 (f231.L0_9 k (e,f,(wi64 (b+1)),g,h,i,((a++d)++(bytesL c))))))))
 (some (g,h,i,a)))
theorem f231.M0_9:∀ k,f231.L0_9 N k=lp (y231_2 N) 0 9 (tq 231) 9 f231.T0_9 f231.O0_9 k
 |0=>rfl
 |k+1=>funext fun⟨a,b,c,d,e,f,g⟩=>by rw[f231.L0_9,f231.M0_9 k];kernel_rfl
def y231_3:SEnv:=(y231_2 N).addLoop N 0 9 f231.T0_9 f231.O0_9
def f231.T1042001035000_3:Tmpl:=tm [(0,.c (.ptr 0 4 0 0 0)),(10,.c (.sl TField .d)),(11,.c (.int .i64)),(12,.c (.int .i64))] [[(0,.c (.ptr 0 4 0 0 0)),(3,.c (.ptr 1 3 1 0 0))],[(4,.c (.ptr 0 4 0 0 0))]] [(0,4,.box 0 [.sl (.int .u8) (.app 2)]),(1,3,.box 1 (cshOf TFunc))] 3 [2] 3
def f231.O1042001035000_3:Outs:=[(.exit 0,tm [] [[(0,.c (.ptr 0 4 0 0 0)),(3,.c (.ptr 1 3 1 0 0))],[(4,.c (.ptr 0 4 0 0 0))]] [(0,4,.box 0 [.sl (.int .u8) (.app 2)]),(1,3,.box 1 (cshOf TFunc))] 3 [2] 3)]
def f231.L1042001035000_3:Nat→List Field×Int×Int×List Int×WFunc→Option ((List Int×WFunc))
 |0,_=>none
 |k+1,(e,f,d,a,g,h,i,j,l,m,n)=>(cond (decide (d<f))
 ((idx e d).bind fun b=>
 ((F312 N (wu64 (b.1.length:Int))).bind fun c=>
 (chk (room (a.length+c.length) 1)
 (chk (room ((a++c).length+(bytesL b.1).length) 1)
 ((F312 N (wu64 b.2)).bind fun o=>
 (chk (room (((a++c)++(bytesL b.1)).length+o.length) 1)
 (f231.L1042001035000_3 k (e,f,(wi64 (d+1)),(((a++c)++(bytesL b.1))++o),g,h,i,j,l,m,n))))))))
 (some (a,g,h,i,j,l,m,n)))
theorem f231.M1042001035000_3:∀ k,f231.L1042001035000_3 N k=lp (y231_3 N) 1042001035000 3 (tq 311) 3 f231.T1042001035000_3 f231.O1042001035000_3 k
 |0=>rfl
 |k+1=>funext fun⟨a,b,c,d,e,f,g,h,i,j,l⟩=>by rw[f231.L1042001035000_3,f231.M1042001035000_3 k];kernel_rfl
def y231_4:SEnv:=(y231_3 N).addLoop N 1042001035000 3 f231.T1042001035000_3 f231.O1042001035000_3
def f231.T1042000_8:Tmpl:=tm [(0,.c (.ptr 0 4 0 0 0)),(3,.c (.ptr 1 3 1 0 0)),(42,.c (.sl TInstr .d)),(43,.c (.int .i64)),(44,.c (.int .i64))] [[(4,.c (.ptr 0 4 0 0 0))]] [(0,4,.box 0 [.sl (.int .u8) (.app 2)]),(1,3,.box 1 (cshOf TFunc))] 2 [2] 3
def f231.O1042000_8:Outs:=[(.ret,tm [(4,.c (.int .i64))] [[(4,.c (.ptr 0 4 0 0 0))]] [(0,4,.box 0 [.sl (.int .u8) (.app 1)])] 2 [1] 2),(.exit 0,tm [(0,.c (.ptr 0 4 0 0 0)),(3,.c (.ptr 1 3 1 0 0))] [[(4,.c (.ptr 0 4 0 0 0))]] [(0,4,.box 0 [.sl (.int .u8) (.app 2)]),(1,3,.box 1 (cshOf TFunc))] 2 [2] 3)]
def f231.L1042000_8:Nat→List Instr×Int×Int×List Int×WFunc→Option ((Int×List Int)⊕(List Int×WFunc))
 |0,_=>none
 |k+1,(e,f,d,a,g,h,i,j,l,m,n)=>(cond (decide (d<f))
 ((idx e d).bind fun b=>
 ((F314 N (b.1,b.2.1,b.2.2.1,b.2.2.2)).bind fun c=>
 (cond (c.2 != 0)
 (some (Sum.inl (c.2,a)))
 (chk (room (a.length+c.1.length) 1)
 (f231.L1042000_8 k (e,f,(wi64 (d+1)),(a++c.1),g,h,i,j,l,m,n))))))
 (some (Sum.inr (a,g,h,i,j,l,m,n))))
theorem f231.M1042000_8:∀ k,f231.L1042000_8 N k=lp (y231_4 N) 1042000 8 (tq 276) 8 f231.T1042000_8 f231.O1042000_8 k
 |0=>rfl
 |k+1=>funext fun⟨a,b,c,d,e,f,g,h,i,j,l⟩=>by rw[f231.L1042000_8,f231.M1042000_8 k];kernel_rfl
def y231_5:SEnv:=(y231_4 N).addLoop N 1042000 8 f231.T1042000_8 f231.O1042000_8
def f231.T1042000_21:Tmpl:=tm [(0,.c (.ptr 0 4 0 0 0)),(3,.c (.ptr 1 3 1 0 0)),(70,.c (.sl (.sl TRun) .full)),(71,.c (.int .i64)),(72,.c (.int .i64))] [[(4,.c (.ptr 0 4 0 0 0))]] [(0,4,.box 0 [.sl (.int .u8) (.app 2)]),(1,3,.box 1 (cshOf TFunc))] 2 [2] 3
def f231.O1042000_21:Outs:=[(.ret,tm [(4,.c (.int .i64))] [[(4,.c (.ptr 0 4 0 0 0))]] [(0,4,.box 0 [.sl (.int .u8) (.app 1)])] 2 [1] 2),(.exit 2,tm [] [[(4,.c (.ptr 0 4 0 0 0))]] [(0,4,.box 0 [.sl (.int .u8) (.app 1)])] 2 [1] 2)]
def f231.L1042000_21:Nat→List (List Run)×Int×Int×List Int×WFunc→Option ((Int×List Int)⊕(List Int))
 |0,_=>none
 |k+1,(d,e,c,a,g,h,i,j,f,l,m)=>(cond (decide (c<e))
 ((idx d c).bind fun n=>
 ((F315 N (n,(f.length:Int))).bind fun b=>
 (cond (b.2 != 0)
 (some (Sum.inl (b.2,a)))
 (chk (room (a.length+b.1.length) 1)
 (f231.L1042000_21 k (d,e,(wi64 (c+1)),(a++b.1),g,h,i,j,f,l,m))))))
 (some (Sum.inr a)))
theorem f231.M1042000_21:∀ k,f231.L1042000_21 N k=lp (y231_5 N) 1042000 21 (tq 276) 21 f231.T1042000_21 f231.O1042000_21 k
 |0=>rfl
 |k+1=>funext fun⟨a,b,c,d,e,f,g,h,i,j,l⟩=>by rw[f231.L1042000_21,f231.M1042000_21 k];kernel_rfl
def y231_6:SEnv:=(y231_5 N).addLoop N 1042000 21 f231.T1042000_21 f231.O1042000_21
def f231.T0_19:Tmpl:=tm [(4,.c (.ptr 0 4 0 0 0)),(35,.c (.sl TFunc .bor)),(36,.c (.int .i64)),(37,.c (.int .i64))] [] [(0,4,.box 0 [.sl (.int .u8) (.app 1)])] 1 [1] 2
def f231.O0_19:Outs:=[(.ret,tm [(2,.c (.nil true)),(3,.c (.int .i64))] [] [] 1 [] 0),(.exit 2,tm [(4,.c (.ptr 0 4 0 0 0))] [] [(0,4,.box 0 [.sl (.int .u8) (.app 1)])] 1 [1] 2)]
def f231.L0_19:Nat→List Func×Int×Int×List Int→Option (Int⊕(List Int))
 |0,_=>none
 |k+1,(g,h,f,d)=>(cond (decide (f<h))
 ((idx g f).bind fun a=>
 ((F312 N (wu64 (a.1.length:Int))).bind fun e=>
 (chk (room (d.length+e.length) 1)
 (chk (room ((d++e).length+(bytesL a.1).length) 1)
 ((F312 N (wu64 a.2.1)).bind fun i=>
 (chk (room (((d++e)++(bytesL a.1)).length+i.length) 1)
 ((F313 N a.2.2.1).bind fun j=>
 (chk (room ((((d++e)++(bytesL a.1))++i).length+j.length) 1)
 ((F312 N (wu64 (a.2.2.2.1.length:Int))).bind fun n=>
 (chk (room (((((d++e)++(bytesL a.1))++i)++j).length+n.length) 1)
 ((f231.L1042001035000_3 N N (a.2.2.2.1,(a.2.2.2.1.length:Int),0,(((((d++e)++(bytesL a.1))++i)++j)++n),a.1,a.2.1,a.2.2.1,a.2.2.2.1,a.2.2.2.2.1,a.2.2.2.2.2.1,a.2.2.2.2.2.2)).bind fun b=>
 ((F312 N (wu64 (b.2.2.2.2.2.1.length:Int))).bind fun o=>
 (chk (room (b.1.length+o.length) 1)
 ((f231.L1042000_8 N N (b.2.2.2.2.2.1,(b.2.2.2.2.2.1.length:Int),0,(b.1++o),b.2.1,b.2.2.1,b.2.2.2.1,b.2.2.2.2.1,b.2.2.2.2.2.1,b.2.2.2.2.2.2.1,b.2.2.2.2.2.2.2)).bind fun p=>
 (match p with
 |.inl l=>(cond (l.1 != 0)
 (some (Sum.inl l.1))
 (f231.L0_19 k (g,h,(wi64 (f+1)),l.2)))
 |.inr c=>((f231.L1042000_21 N N ([c.2.2.2.2.2.2.1,c.2.2.2.2.2.2.2],2,0,c.1,c.2.1,c.2.2.1,c.2.2.2.1,c.2.2.2.2.1,c.2.2.2.2.2.1,c.2.2.2.2.2.2.1,c.2.2.2.2.2.2.2)).bind fun q=>
 (match q with
 |.inl m=>(cond (m.1 != 0)
 (some (Sum.inl m.1))
 (f231.L0_19 k (g,h,(wi64 (f+1)),m.2)))
 |.inr r=>f231.L0_19 k (g,h,(wi64 (f+1)),r))))))))))))))))))
 (some (Sum.inr d)))
theorem f231.M0_19:∀ k,f231.L0_19 N k=lp (y231_6 N) 0 19 (tq 231) 19 f231.T0_19 f231.O0_19 k
 |0=>rfl
 |k+1=>funext fun⟨a,b,c,d⟩=>by rw[f231.L0_19,f231.M0_19 k,f231.M1042001035000_3 N N,f231.M1042000_8 N N,f231.M1042000_21 N N];kernel_rfl
def y231_7:SEnv:=(y231_6 N).addLoop N 0 19 f231.T0_19 f231.O0_19
def F231:WImage→Option (List Int×Int)
 |(b,d,e)=>((F272 N (b,d,e)).bind fun j=>
 (cond (!j)
 (some ([],8))
 ((F312 N (wu64 (b.length:Int))).bind fun f=>
 (chk (room f.length 1)
 ((f231.L1015000_3 N N (b,(b.length:Int),0,f,b,d,e)).bind fun a=>
 ((F312 N (wu64 (a.2.1.length:Int))).bind fun g=>
 (chk (room (a.2.2.2.length+g.length) 1)
 ((f231.L0_9 N N (a.2.1,(a.2.1.length:Int),0,a.1,a.2.1,a.2.2.1,(a.2.2.2++g))).bind fun c=>
 ((F312 N (wu64 (c.2.2.1.length:Int))).bind fun h=>
 (chk (room (c.2.2.2.length+h.length) 1)
 ((f231.L0_19 N N (c.2.2.1,(c.2.2.1.length:Int),0,(c.2.2.2++h))).bind fun l=>
 (match l with
 |.inl m=>some ([],m)
 |.inr i=>(cond (decide ((i.length:Int)>20000))
 (some ([],4))
 (some (i,0)))))))))))))))
def G231:SEnv:=(G315 N).put 231 s231 (F231 N)
theorem K231:EnvOK tab (G231 N):=(K315 N).put (((((((((K315 N).on s231).addLoop N 1015001051000 3 f231.T1015001051000_3 f231.O1015001051000_3).addLoop N 1015000 3 f231.T1015000_3 f231.O1015000_3).addLoop N 0 9 f231.T0_9 f231.O0_9).addLoop N 1042001035000 3 f231.T1042001035000_3 f231.O1042001035000_3).addLoop N 1042000 8 f231.T1042000_8 f231.O1042000_8).addLoop N 1042000 21 f231.T1042000_21 f231.O1042000_21).addLoop N 0 19 f231.T0_19 f231.O0_19) _ _ _ (funext fun⟨a,b,c⟩=>by rw[F231,f231.M1015000_3 N N,f231.M0_9 N N,f231.M0_19 N N];kernel_rfl)
def s148:Sig:=sg [.agg (cshOf TImage)] [(false,[.int .i64])]
def F148:WImage→Option Int
 |(a,b,c)=>((F231 N (a,b,c)).bind fun d=>
 some d.2)
def G148:SEnv:=(G231 N).put 148 s148 (F148 N)
theorem K148:EnvOK tab (G148 N):=(K231 N).put ((K231 N).on s148) _ _ _ (funext fun⟨a,b,c⟩=>by rw[F148];kernel_rfl)
def s290:Sig:=⟨[.c (.sl TField .bor),.c (.int .i64)],[(false,[.bool])],0,[(0,1,4,.bool)],[],[],[]⟩
def F290 (N:Nat):List Field×Int→Option Bool
 |(b,a)=>((cond (decide (a≥0))
 (some (decide (a<(b.length:Int))))
 (some false)).bind fun c=>
 some c)
def G290:SEnv:=(G148 N).put 290 s290 (F290 N)
theorem K290:EnvOK tab (G290 N):=(K148 N).put ((K148 N).on s290) _ _ _ (funext fun⟨a,b⟩=>by rw[F290];kernel_rfl)
def s293:Sig:=sg [.agg (shB Tfunction),.c (.int .i64)] [(false,[.int .i64])]
def F293:Xfunction Int→Option Int
 |(e,f,g,h,i,j,a,l,m,n,b)=>((F290 N (a,b)).bind fun c=>
 (cond (!c)
 (some (-1))
 ((idx a b).bind fun d=>
 some d.2)))
def G293:SEnv:=(G290 N).put 293 s293 (F293 N)
theorem K293:EnvOK tab (G293 N):=(K290 N).put ((K290 N).on s293) _ _ _ (funext fun⟨a,b,c,d,e,f,g,h,i,j,l⟩=>by rw[F293];kernel_rfl)
def s330:Sig:=sg [.c (.sl (.int .u8) .bor),.c (.int .u8)] [(false,[.int .i64])]
def y330_0:SEnv:=(G293 N).on s330
def f330.T0_3:Tmpl:=tm [(0,.c (.sl (.int .u8) .bor)),(1,.c (.int .u8)),(7,.c (.int .i64)),(8,.c (.int .i64))] [] [] 1 [] 0
def f330.O0_3:Outs:=[(.ret,tm [(4,.c (.int .i64))] [] [] 1 [] 0),(.exit 0,tm [] [] [] 1 [] 0)]
def f330.L0_3 (N:Nat):Nat→List Int×Int×Int×Int→Option (Int⊕Unit)
 |0,_=>none
 |k+1,(b,c,d,a)=>(cond (decide (a<d))
 ((idx b a).bind fun e=>
 (cond (c==e)
 (some (Sum.inl a))
 (f330.L0_3 N k (b,c,d,(wi64 (a+1))))))
 (some (Sum.inr ())))
theorem f330.M0_3:∀ k,f330.L0_3 N k=lp (y330_0 N) 0 3 (tq 330) 3 f330.T0_3 f330.O0_3 k
 |0=>rfl
 |k+1=>funext fun⟨a,b,c,d⟩=>by rw[f330.L0_3,f330.M0_3 k];kernel_rfl
def y330_1:SEnv:=(y330_0 N).addLoop N 0 3 f330.T0_3 f330.O0_3
def F330:List Int×Int→Option Int
 |(a,b)=>((f330.L0_3 N N (a,b,(a.length:Int),0)).bind fun c=>
 (match c with
 |.inl d=>some d
 |.inr e=>some (-1)))
def G330:SEnv:=(G293 N).put 330 s330 (F330 N)
theorem K330:EnvOK tab (G330 N):=(K293 N).put (((K293 N).on s330).addLoop N 0 3 f330.T0_3 f330.O0_3) _ _ _ (funext fun⟨a,b⟩=>by rw[F330,f330.M0_3 N N];kernel_rfl)
def s318:Sig:=sg [.c (.sl (.int .u8) .bor),.c (.int .u8)] [(false,[.bool])]
def F318:List Int×Int→Option Bool
 |(a,b)=>((F330 N (a,b)).bind fun c=>
 some (decide (c≥0)))
def G318:SEnv:=(G330 N).put 318 s318 (F318 N)
theorem K318:EnvOK tab (G318 N):=(K330 N).put ((K330 N).on s318) _ _ _ (funext fun⟨a,b⟩=>by rw[F318];kernel_rfl)
def s296:Sig:=⟨[.agg (shB Tfunction),.c (.int .i64),.c (.sl (.int .u8) .bor)],[(false,[.bool])],0,[(0,1,6,.bool)],[],[],[]⟩
def F296:Xfunction (Int×List Int)→Option Bool
 |(b,g,h,i,j,l,m,n,o,p,a,c)=>((cond (decide (a≥0))
 ((idx b a).bind fun d=>
 ((F318 N (c,d.1)).bind fun e=>
 some e))
 (some false)).bind fun f=>
 some f)
def G296:SEnv:=(G318 N).put 296 s296 (F296 N)
theorem K296:EnvOK tab (G296 N):=(K318 N).put ((K318 N).on s296) _ _ _ (funext fun⟨a,b,c,d,e,f,g,h,i,j,l,m⟩=>by rw[F296];kernel_rfl)
def s298:Sig:=sg [.agg (shB Tfunction),.c (.int .i64),.c (.int .i64),.c (.int .i64)] [(false,[.bool])]
def F298:Xfunction (Int×Int×Int)→Option Bool
 |(a,d,e,f,g,h,i,j,l,m,b,c,n)=>((F296 N (a,d,e,f,g,h,i,j,l,m,b,[5])).bind fun o=>
 (cond o
 ((idx a b).bind fun p=>
 ((F290 N (p.2.2.2,c)).bind fun q=>
 (cond q
 ((idx a b).bind fun r=>
 ((idx r.2.2.2 c).bind fun s=>
 some (s.2==n)))
 (some false))))
 (some false)))
def G298:SEnv:=(G296 N).put 298 s298 (F298 N)
theorem K298:EnvOK tab (G298 N):=(K296 N).put ((K296 N).on s298) _ _ _ (funext fun⟨a,b,c,d,e,f,g,h,i,j,l,m,n⟩=>by rw[F298];kernel_rfl)
def s299:Sig:=⟨[.agg (shB Tfunction),.c (.int .i64),.c (.int .i64),.c (.sl (.int .u8) .bor)],[(false,[.bool])],0,[(0,1,8,.bool)],[],[],[]⟩
def F299:Xfunction (Int×Int×List Int)→Option Bool
 |(a,c,d,e,f,g,h,i,j,l,b,m,n)=>(((F296 N (a,c,d,e,f,g,h,i,j,l,b,n)).bind fun o=>
 (cond o
 ((idx a b).bind fun p=>
 some (p.2.1==m))
 (some false))).bind fun q=>
 some q)
def G299:SEnv:=(G298 N).put 299 s299 (F299 N)
theorem K299:EnvOK tab (G299 N):=(K298 N).put ((K298 N).on s299) _ _ _ (funext fun⟨a,b,c,d,e,f,g,h,i,j,l,m,n⟩=>by rw[F299];kernel_rfl)
def s300:Sig:=sg [.agg (shB Tfunction),.agg (shB TFunc)] [(false,[.bool])]
def F300:Xfunction WFunc→Option Bool
 |(b,c,d,e,f,g,h,i,j,l,q,a,m,n,r,s,t)=>(cond (decide (m<0))
 (cond (a==0)
 (some true)
 (cond (a==1)
 ((idx n 0).bind fun o=>
 ((F296 N (b,c,d,e,f,g,h,i,j,l,o.2,[1,2,4])).bind fun p=>
 some p))
 (some false)))
 (some false))
def G300:SEnv:=(G299 N).put 300 s300 (F300 N)
theorem K300:EnvOK tab (G300 N):=(K299 N).put ((K299 N).on s300) _ _ _ (funext fun⟨a,b,c,d,e,f,g,h,i,j,l,m,n,o,p,q,r⟩=>by rw[F300];kernel_rfl)
def s265:Sig:=⟨[.agg (cshOf Tfunction),.agg (cshOf TInstr)],[(false,[.bool])],0,[(0,7,26,.bool),(0,15,39,.bool),(0,27,50,.bool),(0,25,50,.bool),(0,23,50,.bool),(0,69,4,.bool),(0,71,202,.bool),(0,79,220,.bool),(0,85,4,.bool)],[],[(0,31,(.int .i64)),(0,59,(.int .i64)),(0,70,(.int .i64)),(0,144,(.int .i64)),(0,157,(.int .i64)),(0,170,(.int .i64)),(0,177,(.int .i64)),(0,229,(.int .i64))],[]⟩
def y265_0:SEnv:=(G300 N).on s265
def f265.T1032001006001007000_3:Tmpl:=tm [(0,.c (.sl (.int .i64) .full)),(1,.clo 295 [.ptr 0 2 0 0 0]),(7,.c (.int .i64)),(8,.c (.int .i64))] [[],[],[]] [(0,2,.box 0 (cshOf Tfunction))] 4 [] 1
def f265.O1032001006001007000_3:Outs:=[(.ret,tm [(4,.c (.int .i64))] [[],[],[]] [] 4 [] 0),(.exit 0,tm [] [[],[],[]] [] 4 [] 0)]
def f265.L1032001006001007000_3:Nat→List Int×Int×Int×Wfunction→Option (Int⊕Unit)
 |0,_=>none
 |k+1,(b,c,a,d,e,f,g,h,i,j,l,m,n)=>(cond (decide (a<c))
 ((idx b a).bind fun o=>
 ((F296 N (d,e,f,g,h,i,j,l,m,n,o,[2])).bind fun p=>
 (cond (!p)
 (some (Sum.inl a))
 (f265.L1032001006001007000_3 k (b,c,(wi64 (a+1)),d,e,f,g,h,i,j,l,m,n)))))
 (some (Sum.inr ())))
theorem f265.M1032001006001007000_3:∀ k,f265.L1032001006001007000_3 N k=lp (y265_0 N) 1032001006001007000 3 (tq 225) 3 f265.T1032001006001007000_3 f265.O1032001006001007000_3 k
 |0=>rfl
 |k+1=>funext fun⟨a,b,c,d,e,f,g,h,i,j,l,m,n⟩=>by rw[f265.L1032001006001007000_3,f265.M1032001006001007000_3 k];kernel_rfl
def y265_1:SEnv:=(y265_0 N).addLoop N 1032001006001007000 3 f265.T1032001006001007000_3 f265.O1032001006001007000_3
def f265.T1060001006001007000_3:Tmpl:=tm [(0,.c (.sl (.int .i64) .full)),(1,.clo 295 [.ptr 0 2 0 0 0]),(7,.c (.int .i64)),(8,.c (.int .i64))] [[],[],[]] [(0,2,.box 0 (cshOf Tfunction))] 4 [] 1
def f265.O1060001006001007000_3:Outs:=[(.ret,tm [(4,.c (.int .i64))] [[],[],[]] [] 4 [] 0),(.exit 0,tm [] [[],[],[]] [] 4 [] 0)]
def f265.L1060001006001007000_3:Nat→List Int×Int×Int×Wfunction→Option (Int⊕Unit)
 |0,_=>none
 |k+1,(b,c,a,d,e,f,g,h,i,j,l,m,n)=>(cond (decide (a<c))
 ((idx b a).bind fun o=>
 ((F296 N (d,e,f,g,h,i,j,l,m,n,o,[2])).bind fun p=>
 (cond (!p)
 (some (Sum.inl a))
 (f265.L1060001006001007000_3 k (b,c,(wi64 (a+1)),d,e,f,g,h,i,j,l,m,n)))))
 (some (Sum.inr ())))
theorem f265.M1060001006001007000_3:∀ k,f265.L1060001006001007000_3 N k=lp (y265_1 N) 1060001006001007000 3 (tq 225) 3 f265.T1060001006001007000_3 f265.O1060001006001007000_3 k
 |0=>rfl
 |k+1=>funext fun⟨a,b,c,d,e,f,g,h,i,j,l,m,n⟩=>by rw[f265.L1060001006001007000_3,f265.M1060001006001007000_3 k];kernel_rfl
def y265_2:SEnv:=(y265_1 N).addLoop N 1060001006001007000 3 f265.T1060001006001007000_3 f265.O1060001006001007000_3
def f265.T1071001006001007000_3:Tmpl:=tm [(0,.c (.sl (.int .i64) .full)),(1,.clo 295 [.ptr 0 2 0 0 0]),(7,.c (.int .i64)),(8,.c (.int .i64))] [[],[],[]] [(0,2,.box 0 (cshOf Tfunction))] 4 [] 1
def f265.O1071001006001007000_3:Outs:=[(.ret,tm [(4,.c (.int .i64))] [[],[],[]] [] 4 [] 0),(.exit 0,tm [] [[],[],[]] [] 4 [] 0)]
def f265.L1071001006001007000_3:Nat→List Int×Int×Int×Wfunction→Option (Int⊕Unit)
 |0,_=>none
 |k+1,(b,c,a,d,e,f,g,h,i,j,l,m,n)=>(cond (decide (a<c))
 ((idx b a).bind fun o=>
 ((F296 N (d,e,f,g,h,i,j,l,m,n,o,[2])).bind fun p=>
 (cond (!p)
 (some (Sum.inl a))
 (f265.L1071001006001007000_3 k (b,c,(wi64 (a+1)),d,e,f,g,h,i,j,l,m,n)))))
 (some (Sum.inr ())))
theorem f265.M1071001006001007000_3:∀ k,f265.L1071001006001007000_3 N k=lp (y265_2 N) 1071001006001007000 3 (tq 225) 3 f265.T1071001006001007000_3 f265.O1071001006001007000_3 k
 |0=>rfl
 |k+1=>funext fun⟨a,b,c,d,e,f,g,h,i,j,l,m,n⟩=>by rw[f265.L1071001006001007000_3,f265.M1071001006001007000_3 k];kernel_rfl
def y265_3:SEnv:=(y265_2 N).addLoop N 1071001006001007000 3 f265.T1071001006001007000_3 f265.O1071001006001007000_3
def f265.T1145001006001007000_3:Tmpl:=tm [(0,.c (.sl (.int .i64) .full)),(1,.clo 295 [.ptr 0 2 0 0 0]),(7,.c (.int .i64)),(8,.c (.int .i64))] [[],[],[]] [(0,2,.box 0 (cshOf Tfunction))] 4 [] 1
def f265.O1145001006001007000_3:Outs:=[(.ret,tm [(4,.c (.int .i64))] [[],[],[]] [] 4 [] 0),(.exit 0,tm [] [[],[],[]] [] 4 [] 0)]
def f265.L1145001006001007000_3:Nat→List Int×Int×Int×Wfunction→Option (Int⊕Unit)
 |0,_=>none
 |k+1,(b,c,a,d,e,f,g,h,i,j,l,m,n)=>(cond (decide (a<c))
 ((idx b a).bind fun o=>
 ((F296 N (d,e,f,g,h,i,j,l,m,n,o,[2])).bind fun p=>
 (cond (!p)
 (some (Sum.inl a))
 (f265.L1145001006001007000_3 k (b,c,(wi64 (a+1)),d,e,f,g,h,i,j,l,m,n)))))
 (some (Sum.inr ())))
theorem f265.M1145001006001007000_3:∀ k,f265.L1145001006001007000_3 N k=lp (y265_3 N) 1145001006001007000 3 (tq 225) 3 f265.T1145001006001007000_3 f265.O1145001006001007000_3 k
 |0=>rfl
 |k+1=>funext fun⟨a,b,c,d,e,f,g,h,i,j,l,m,n⟩=>by rw[f265.L1145001006001007000_3,f265.M1145001006001007000_3 k];kernel_rfl
def y265_4:SEnv:=(y265_3 N).addLoop N 1145001006001007000 3 f265.T1145001006001007000_3 f265.O1145001006001007000_3
def f265.T1158001006001007000_3:Tmpl:=tm [(0,.c (.sl (.int .i64) .full)),(1,.clo 295 [.ptr 0 2 0 0 0]),(7,.c (.int .i64)),(8,.c (.int .i64))] [[],[],[]] [(0,2,.box 0 (cshOf Tfunction))] 4 [] 1
def f265.O1158001006001007000_3:Outs:=[(.ret,tm [(4,.c (.int .i64))] [[],[],[]] [] 4 [] 0),(.exit 0,tm [] [[],[],[]] [] 4 [] 0)]
def f265.L1158001006001007000_3:Nat→List Int×Int×Int×Wfunction→Option (Int⊕Unit)
 |0,_=>none
 |k+1,(b,c,a,d,e,f,g,h,i,j,l,m,n)=>(cond (decide (a<c))
 ((idx b a).bind fun o=>
 ((F296 N (d,e,f,g,h,i,j,l,m,n,o,[2])).bind fun p=>
 (cond (!p)
 (some (Sum.inl a))
 (f265.L1158001006001007000_3 k (b,c,(wi64 (a+1)),d,e,f,g,h,i,j,l,m,n)))))
 (some (Sum.inr ())))
theorem f265.M1158001006001007000_3:∀ k,f265.L1158001006001007000_3 N k=lp (y265_4 N) 1158001006001007000 3 (tq 225) 3 f265.T1158001006001007000_3 f265.O1158001006001007000_3 k
 |0=>rfl
 |k+1=>funext fun⟨a,b,c,d,e,f,g,h,i,j,l,m,n⟩=>by rw[f265.L1158001006001007000_3,f265.M1158001006001007000_3 k];kernel_rfl
def y265_5:SEnv:=(y265_4 N).addLoop N 1158001006001007000 3 f265.T1158001006001007000_3 f265.O1158001006001007000_3
def f265.T1171001006001007000_3:Tmpl:=tm [(0,.c (.sl (.int .i64) .full)),(1,.clo 295 [.ptr 0 2 0 0 0]),(7,.c (.int .i64)),(8,.c (.int .i64))] [[],[],[]] [(0,2,.box 0 (cshOf Tfunction))] 4 [] 1
def f265.O1171001006001007000_3:Outs:=[(.ret,tm [(4,.c (.int .i64))] [[],[],[]] [] 4 [] 0),(.exit 0,tm [] [[],[],[]] [] 4 [] 0)]
def f265.L1171001006001007000_3:Nat→List Int×Int×Int×Wfunction→Option (Int⊕Unit)
 |0,_=>none
 |k+1,(b,c,a,d,e,f,g,h,i,j,l,m,n)=>(cond (decide (a<c))
 ((idx b a).bind fun o=>
 ((F296 N (d,e,f,g,h,i,j,l,m,n,o,[2])).bind fun p=>
 (cond (!p)
 (some (Sum.inl a))
 (f265.L1171001006001007000_3 k (b,c,(wi64 (a+1)),d,e,f,g,h,i,j,l,m,n)))))
 (some (Sum.inr ())))
theorem f265.M1171001006001007000_3:∀ k,f265.L1171001006001007000_3 N k=lp (y265_5 N) 1171001006001007000 3 (tq 225) 3 f265.T1171001006001007000_3 f265.O1171001006001007000_3 k
 |0=>rfl
 |k+1=>funext fun⟨a,b,c,d,e,f,g,h,i,j,l,m,n⟩=>by rw[f265.L1171001006001007000_3,f265.M1171001006001007000_3 k];kernel_rfl
def y265_6:SEnv:=(y265_5 N).addLoop N 1171001006001007000 3 f265.T1171001006001007000_3 f265.O1171001006001007000_3
def f265.T1178001006001007000_3:Tmpl:=tm [(0,.c (.sl (.int .i64) .full)),(1,.clo 295 [.ptr 0 2 0 0 0]),(7,.c (.int .i64)),(8,.c (.int .i64))] [[],[],[(2,.c (.ptr 0 2 0 0 0))]] [(0,2,.box 0 (cshOf Tfunction))] 4 [] 1
def f265.O1178001006001007000_3:Outs:=[(.ret,tm [(4,.c (.int .i64))] [[],[],[(2,.c (.ptr 0 2 0 0 0))]] [(0,2,.box 0 (cshOf Tfunction))] 4 [] 1),(.exit 0,tm [] [[],[],[(2,.c (.ptr 0 2 0 0 0))]] [(0,2,.box 0 (cshOf Tfunction))] 4 [] 1)]
def f265.L1178001006001007000_3:Nat→List Int×Int×Int×Wfunction→Option ((Int×Wfunction)⊕Wfunction)
 |0,_=>none
 |k+1,(m,n,a,b,c,d,e,f,g,h,i,j,l)=>(cond (decide (a<n))
 ((idx m a).bind fun o=>
 ((F296 N (b,c,d,e,f,g,h,i,j,l,o,[2])).bind fun p=>
 (cond (!p)
 (some (Sum.inl (a,b,c,d,e,f,g,h,i,j,l)))
 (f265.L1178001006001007000_3 k (m,n,(wi64 (a+1)),b,c,d,e,f,g,h,i,j,l)))))
 (some (Sum.inr (b,c,d,e,f,g,h,i,j,l))))
theorem f265.M1178001006001007000_3:∀ k,f265.L1178001006001007000_3 N k=lp (y265_6 N) 1178001006001007000 3 (tq 225) 3 f265.T1178001006001007000_3 f265.O1178001006001007000_3 k
 |0=>rfl
 |k+1=>funext fun⟨a,b,c,d,e,f,g,h,i,j,l,m,n⟩=>by rw[f265.L1178001006001007000_3,f265.M1178001006001007000_3 k];kernel_rfl
def y265_7:SEnv:=(y265_6 N).addLoop N 1178001006001007000 3 f265.T1178001006001007000_3 f265.O1178001006001007000_3
def f265.T1230001006001007000_3:Tmpl:=tm [(0,.c (.sl (.int .i64) .full)),(1,.clo 295 [.ptr 0 2 0 0 0]),(7,.c (.int .i64)),(8,.c (.int .i64))] [[],[],[]] [(0,2,.box 0 (cshOf Tfunction))] 4 [] 1
def f265.O1230001006001007000_3:Outs:=[(.ret,tm [(4,.c (.int .i64))] [[],[],[]] [] 4 [] 0),(.exit 0,tm [] [[],[],[]] [] 4 [] 0)]
def f265.L1230001006001007000_3:Nat→List Int×Int×Int×Wfunction→Option (Int⊕Unit)
 |0,_=>none
 |k+1,(b,c,a,d,e,f,g,h,i,j,l,m,n)=>(cond (decide (a<c))
 ((idx b a).bind fun o=>
 ((F296 N (d,e,f,g,h,i,j,l,m,n,o,[2])).bind fun p=>
 (cond (!p)
 (some (Sum.inl a))
 (f265.L1230001006001007000_3 k (b,c,(wi64 (a+1)),d,e,f,g,h,i,j,l,m,n)))))
 (some (Sum.inr ())))
theorem f265.M1230001006001007000_3:∀ k,f265.L1230001006001007000_3 N k=lp (y265_7 N) 1230001006001007000 3 (tq 225) 3 f265.T1230001006001007000_3 f265.O1230001006001007000_3 k
 |0=>rfl
 |k+1=>funext fun⟨a,b,c,d,e,f,g,h,i,j,l,m,n⟩=>by rw[f265.L1230001006001007000_3,f265.M1230001006001007000_3 k];kernel_rfl
def y265_8:SEnv:=(y265_7 N).addLoop N 1230001006001007000 3 f265.T1230001006001007000_3 f265.O1230001006001007000_3
def F265:Xfunction WInstr→Option Bool
 |(c,d,a,e,f,b,g,h,i,j,l,s,t,u)=>((F293 N (c,d,a,e,f,b,g,h,i,j,s)).bind fun m=>
 ((F293 N (c,d,a,e,f,b,g,h,i,j,t)).bind fun n=>
 ((F293 N (c,d,a,e,f,b,g,h,i,j,u)).bind fun r=>
 ((cond (l==1)
 (some true)
 (some (l==32))).bind fun v=>
 (cond v
 ((f265.L1032001006001007000_3 N N ([m],1,0,c,d,a,e,f,b,g,h,i,j)).bind fun w=>
 (match w with
 |.inl x=>some (!(decide (x≥0)))
 |.inr b6=>some (!(decide ((-1:Int)≥0)))))
 (cond (l==2)
 ((F296 N (c,d,a,e,f,b,g,h,i,j,m,[3])).bind fun y=>
 some y)
 ((cond (l==3)
 (some true)
 (some (l==23))).bind fun z=>
 (cond z
 ((F296 N (c,d,a,e,f,b,g,h,i,j,m,[1])).bind fun A=>
 some A)
 (cond (l==5)
 (some (m==n))
 ((cond (l==6)
 (some true)
 ((cond (l==7)
 (some true)
 ((cond (l==8)
 (some true)
 (some (l==9))).bind fun B=>
 some B)).bind fun C=>
 some C)).bind fun D=>
 (cond D
 ((f265.L1060001006001007000_3 N N ([m,n,r],3,0,c,d,a,e,f,b,g,h,i,j)).bind fun E=>
 (match E with
 |.inl G=>some (!(decide (G≥0)))
 |.inr b7=>some (!(decide ((-1:Int)≥0)))))
 (cond (l==10)
 ((F296 N (c,d,a,e,f,b,g,h,i,j,m,[1])).bind fun H=>
 (cond H
 ((f265.L1071001006001007000_3 N N ([n,r],2,0,c,d,a,e,f,b,g,h,i,j)).bind fun I=>
 (match I with
 |.inl J=>some (!(decide (J≥0)))
 |.inr b8=>some (!(decide ((-1:Int)≥0)))))
 (some false)))
 (cond (l==11)
 ((F296 N (c,d,a,e,f,b,g,h,i,j,m,[1])).bind fun K=>
 (cond K
 (cond (n==r)
 ((F296 N (c,d,a,e,f,b,g,h,i,j,n,[2,1,4])).bind fun L=>
 some L)
 (some false))
 (some false)))
 (cond (l==12)
 ((F296 N (c,d,a,e,f,b,g,h,i,j,m,[1])).bind fun M=>
 (cond M
 ((F296 N (c,d,a,e,f,b,g,h,i,j,n,[1])).bind fun O=>
 some O)
 (some false)))
 (cond (l==13)
 ((F298 N (c,d,a,e,f,b,g,h,i,j,n,u,m)).bind fun P=>
 some P)
 (cond (l==14)
 ((F298 N (c,d,a,e,f,b,g,h,i,j,m,t,r)).bind fun Q=>
 some Q)
 (cond (l==15)
 ((F296 N (c,d,a,e,f,b,g,h,i,j,m,[4])).bind fun R=>
 some R)
 (cond (l==16)
 ((F299 N (c,d,a,e,f,b,g,h,i,j,n,m,[4])).bind fun S=>
 some S)
 (cond (l==17)
 ((F299 N (c,d,a,e,f,b,g,h,i,j,m,n,[4])).bind fun T=>
 some T)
 (cond (l==18)
 ((F296 N (c,d,a,e,f,b,g,h,i,j,m,[7])).bind fun U=>
 (cond U
 ((f265.L1145001006001007000_3 N N ([n],1,0,c,d,a,e,f,b,g,h,i,j)).bind fun V=>
 (match V with
 |.inl W=>some (!(decide (W≥0)))
 |.inr b9=>some (!(decide ((-1:Int)≥0)))))
 (some false)))
 (cond (l==19)
 ((F299 N (c,d,a,e,f,b,g,h,i,j,n,m,[7,6])).bind fun X=>
 (cond X
 ((f265.L1158001006001007000_3 N N ([r],1,0,c,d,a,e,f,b,g,h,i,j)).bind fun Y=>
 (match Y with
 |.inl Z=>some (!(decide (Z≥0)))
 |.inr c0=>some (!(decide ((-1:Int)≥0)))))
 (some false)))
 (cond (l==20)
 ((F299 N (c,d,a,e,f,b,g,h,i,j,m,r,[7,6])).bind fun a0=>
 (cond a0
 ((f265.L1171001006001007000_3 N N ([n],1,0,c,d,a,e,f,b,g,h,i,j)).bind fun a1=>
 (match a1 with
 |.inl a2=>some (!(decide (a2≥0)))
 |.inr c1=>some (!(decide ((-1:Int)≥0)))))
 (some false)))
 (cond (l==21)
 ((f265.L1178001006001007000_3 N N ([m],1,0,c,d,a,e,f,b,g,h,i,j)).bind fun a3=>
 (match a3 with
 |.inl o=>(cond (!(decide (o.1≥0)))
 ((F296 N (o.2.1,o.2.2.1,o.2.2.2.1,o.2.2.2.2.1,o.2.2.2.2.2.1,o.2.2.2.2.2.2.1,o.2.2.2.2.2.2.2.1,o.2.2.2.2.2.2.2.2.1,o.2.2.2.2.2.2.2.2.2.1,o.2.2.2.2.2.2.2.2.2.2,n,[3,7,6])).bind fun a4=>
 some a4)
 (some false))
 |.inr p=>((F296 N (p.1,p.2.1,p.2.2.1,p.2.2.2.1,p.2.2.2.2.1,p.2.2.2.2.2.1,p.2.2.2.2.2.2.1,p.2.2.2.2.2.2.2.1,p.2.2.2.2.2.2.2.2.1,p.2.2.2.2.2.2.2.2.2,n,[3,7,6])).bind fun a5=>
 some a5)))
 (cond (l==25)
 ((cond (decide (s<0))
 (some true)
 ((idx a t).bind fun a6=>
 some (a6.2.2.1==m))).bind fun a7=>
 some a7)
 ((cond (l==26)
 (some true)
 (some (l==27))).bind fun a8=>
 (cond a8
 ((idx a s).bind fun q=>
 ((F300 N (c,d,a,e,f,b,g,h,i,j,q.1,q.2.1,q.2.2.1,q.2.2.2.1,q.2.2.2.2.1,q.2.2.2.2.2.1,q.2.2.2.2.2.2)).bind fun a9=>
 some a9))
 (cond (l==28)
 ((F296 N (c,d,a,e,f,b,g,h,i,j,m,[2,1,3])).bind fun b0=>
 some b0)
 ((cond (l==29)
 (some true)
 (some (l==33))).bind fun b1=>
 (cond b1
 ((F296 N (c,d,a,e,f,b,g,h,i,j,m,[1])).bind fun b2=>
 (cond b2
 ((f265.L1230001006001007000_3 N N ([n],1,0,c,d,a,e,f,b,g,h,i,j)).bind fun b3=>
 (match b3 with
 |.inl b4=>some (!(decide (b4≥0)))
 |.inr c2=>some (!(decide ((-1:Int)≥0)))))
 (some false)))
 (cond (l==34)
 ((cond (decide (s<0))
 (some true)
 (some (b==m))).bind fun b5=>
 some b5)
 (some true)))))))))))))))))))))))))))))))
def G265:SEnv:=(G300 N).put 265 s265 (F265 N)
theorem K265:EnvOK tab (G265 N):=(K300 N).put ((((((((((K300 N).on s265).addLoop N 1032001006001007000 3 f265.T1032001006001007000_3 f265.O1032001006001007000_3).addLoop N 1060001006001007000 3 f265.T1060001006001007000_3 f265.O1060001006001007000_3).addLoop N 1071001006001007000 3 f265.T1071001006001007000_3 f265.O1071001006001007000_3).addLoop N 1145001006001007000 3 f265.T1145001006001007000_3 f265.O1145001006001007000_3).addLoop N 1158001006001007000 3 f265.T1158001006001007000_3 f265.O1158001006001007000_3).addLoop N 1171001006001007000 3 f265.T1171001006001007000_3 f265.O1171001006001007000_3).addLoop N 1178001006001007000 3 f265.T1178001006001007000_3 f265.O1178001006001007000_3).addLoop N 1230001006001007000 3 f265.T1230001006001007000_3 f265.O1230001006001007000_3) _ _ _ (funext fun⟨a,b,c,d,e,f,g,h,i,j,l,m,n,o⟩=>by rw[F265,f265.M1032001006001007000_3 N N,f265.M1060001006001007000_3 N N,f265.M1071001006001007000_3 N N,f265.M1145001006001007000_3 N N,f265.M1158001006001007000_3 N N,f265.M1171001006001007000_3 N N,f265.M1178001006001007000_3 N N,f265.M1230001006001007000_3 N N];kernel_rfl)
end
end Go.Proofs.YtjejefeomeddhaaGreat
