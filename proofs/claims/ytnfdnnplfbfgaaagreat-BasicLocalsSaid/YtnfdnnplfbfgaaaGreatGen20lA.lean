/- Parts of the proof. -/
import Derived.Test.YtnfdnnplfbfgaaaGreatTab20l
set_option linter.unusedSimpArgs false
set_option linter.defProp false
namespace Go.Proofs.YtnfdnnplfbfgaaaGreat
set_option linter.unusedVariables false
open Go Go.bS Go.Sym
noncomputable section
variable(N:Nat)
@[reducible]def iE:Ty:=(.prod (.int .i64) (.int .u64))
abbrev e8:Type:=Int×Int
@[reducible]def cS:Ty:=(.prod .str (.int .i64))
abbrev Field:Type:=(List UInt8)×Int
@[reducible]def eX:Ty:=(.prod (.int .i64) (.int .i64))
abbrev pG:Type:=Int×Int
@[reducible]def aF:Ty:=(.prod (.int .u64) (.sl (.int .u8)))
abbrev Region:Type:=Int×tmI
@[reducible]def sj:Ty:=(.prod (.int .i64) (.prod (.int .i64) (.prod .bool .bool)))
@[reducible]def BF:Ty:=(.prod (.int .i64) (.prod (.int .i64) eX))
@[reducible]def bt:Ty:=(.prod (.int .u8) (.prod (.int .i64) eX))
abbrev Instr:Type:=Int×(Int×pG)
@[reducible]def AH:Ty:=(.prod (.int .u64) (.prod (.int .i64) (.prod (.int .i64) (.prod (.int .u64) (.int .u64)))))
abbrev Km:Type:=Int×(Int×(Int×(Int×Int)))
@[reducible]def aR:Ty:=(.prod (.int .u8) (.prod (.int .i64) (.prod (.int .i64) (.sl cS))))
abbrev aA:Type:=Int×(Int×(Int×List Field))
@[reducible]def Ia:Ty:=(.prod (.sl (.int .i64)) BF)
@[reducible]def kA:Ty:=(.prod (.int .u8) (.prod (.int .u64) (.prod (.int .u64) (.prod (.int .u64) (.prod (.int .u64) (.int .i64))))))
abbrev eY:Type:=Int×(Int×(Int×(Int×(Int×Int))))
@[reducible]def aan:Ty:=(.prod (.sl iE) (.prod (.sl iE) eX))
@[reducible]def qg:Ty:=(.prod (.sl aR) (.sl aF))
abbrev memory:Type:=(List aA)×(List Region)
@[reducible]def dV:Ty:=(.prod .str (.prod (.int .i64) (.prod (.int .i64) (.prod (.sl cS) (.prod (.sl bt) (.prod (.sl iE) (.sl iE)))))))
abbrev Func:Type:=(List UInt8)×(Int×(Int×(List Field×(List Instr×(List e8×List e8)))))
@[reducible]def bp:Ty:=(.prod (.sl aR) (.prod (.sl .str) (.sl dV)))
abbrev ajw:Type:=(List aA)×(List (List UInt8)×List Func)
@[reducible]def bL:Ty:=(.prod bp dV)
abbrev function:Type:=ajw×Func
@[reducible]def fF:Ty:=(.prod bp (.prod BF (.prod aF (.prod (.sl aF) (.prod (.sl kA) (.int .i64))))))
abbrev aao:Type:=Int×Int×Bool×Bool
abbrev aeu(α:Type):Type:=Int×Int×Bool×Bool×α
abbrev xZ:Type:=Int×Int×Int×Int
abbrev x8(α:Type):Type:=Int×Int×Int×Int×α
abbrev iF:Type:=Int×Int×Int×Int
abbrev MY(α:Type):Type:=Int×Int×Int×Int×α
abbrev oo:Type:=Int×Int×Int×(List Field)
abbrev Df(α:Type):Type:=Int×Int×Int×List Field×α
abbrev BG:Type:=tmI×Int×Int×Int×Int
abbrev Ko:Type:=Int×Int×Int×Int×Int×Int
abbrev OS:Type:=(List e8)×List e8×Int×Int
abbrev iw:Type:=(List UInt8)×Int×Int×List Field×List Instr×List e8×(List e8)
abbrev ajx(α:Type):Type:=(List UInt8)×Int×Int×List Field×List Instr×List e8×List e8×α
abbrev dz:Type:=(List aA)×List (List UInt8)×(List Func)
abbrev bU(α:Type):Type:=(List aA)×List (List UInt8)×List Func×α
abbrev dJ:Type:=(List aA)×List (List UInt8)×List Func×List UInt8×Int×Int×List Field×List Instr×List e8×(List e8)
abbrev dW(α:Type):Type:=(List aA)×List (List UInt8)×List Func×List UInt8×Int×Int×List Field×List Instr×List e8×List e8×α
abbrev pH:Type:=(List aA)×List (List UInt8)×List Func×Int×Int×Int×Int×Int×tmI×List Region×List eY×Int
abbrev pI(α:Type):Type:=(List aA)×List (List UInt8)×List Func×Int×Int×Int×Int×Int×tmI×List Region×List eY×Int×α
def Gz(_:Nat):ai:=ai.base bE (lk []) (lk []) (lk []) (lkU []) (lk [])
def Kz:az bE (Gz N):=aac ..
def s21:bH:=sg [.c (.sl aR .aY)] [tmf [.bool]]
def abZ:ai:=(Gz N).on s21
def aG0:aX:=tmn [(0,.c (.sl aR .aY)),(3,.I),(4,.I)]
def aG1:aW:=[tmr [(2,.Q)],(.exit 2,tmn [(0,.c (.sl aR .aY)),(3,.I)])]
def Ok(N:Nat):Nat->List aA×Int×Int->Option (Bool⊕(List aA×Int))|0,_=>none|k+1,(a,b,c)=>(idx a b).bind λd=>cond (c<d.2.2.2.length) ((idx a b).bind λe=>(idx e.2.2.2 c).bind λf=>cond ((f.1.length:Int)>100) (some (Sum.inl true)) (Ok N k (a,b,(au (c+1))))) (some (Sum.inr (a,b)))
def bg6:∀k,Ok N k=tmq (abZ N) 15 21 aG0 aG1 k:=lpI (λ_=>rfl) λk=>by kernel_rfl
def ab0:ai:=(abZ N).aa N 0 15 aG0 aG1
def aG2:aX:=tmn [(0,.c (.sl aR .aY)),(3,.I)]
def aG3:aW:=[tmr [(2,.Q)],tmx]
def ah6:Nat->List aA×Int->Option (Bool⊕Unit)|0,_=>none|k+1,(a,b)=>cond (b<a.length) ((idx a b).bind λd=>cond ((d.2.2.2.length:Int)>20) (some (Sum.inl true)) ((Ok N N (a,b,0)).bind λe=>match e with|.inl f=>some (Sum.inl f)|.inr c=>ah6 k (c.1,(au (c.2+1))))) (some (Sum.inr ()))
def aG4:∀k,ah6 N k=tmq (ab0 N) 6 21 aG2 aG3 k|0=>rfl|k+1=>funext λ⟨a,b⟩=>by rw[ah6,aG4 k,bg6 N N];kernel_rfl
def avN:ai:=(ab0 N).aa N 0 6 aG2 aG3
def F21:List aA->Option Bool|a=>cond ((a.length:Int)>40) true ((ah6 N N (a,0)).bind λb=>match b with|.inl c=>c|.inr d=>false)
def G21:ai:=(Gz N).put 21 s21 (F21 N)
def K21:az bE (G21 N):=(Kz N).pu (avN N) (Kz N).o.l.l (funext λa=>by rw[F21,aG4 N N];kernel_rfl)
def s10:bH:=⟨[.agg (cv bp)],[tmf [.bool]],0,[(0,1,22,.bool),(0,23,85,.bool)],[],[],[]⟩
def ab1:ai:=(G21 N).on s10
def aG5:aX:=tm [(1,.P 0 1 0),(3,.I)] [] [(0,1,.box 0 (cv bp))] 1 [] 1
def aG6:aW:=[tmr [(2,.Q)],(.exit 0,tm [(1,.P 0 1 0)] [] [(0,1,.box 0 (cv bp))] 1 [] 1)]
def aw1(N:Nat):Nat->Int×dz->Option (Bool⊕dz)|0,_=>none|k+1,(b,c,a,d)=>cond (b<a.length) ((idx a b).bind λe=>cond ((e.length:Int)>100) (some (Sum.inl true)) (aw1 N k ((au (b+1)),c,a,d))) (some (Sum.inr (c,a,d)))
def bg7:∀k,aw1 N k=tmq (ab1 N) 6 10 aG5 aG6 k:=lpI (λ_=>rfl) λk=>by kernel_rfl
def ab2:ai:=(ab1 N).aa N 0 6 aG5 aG6
def aG7:aX:=tm [(1,.P 0 1 0),(4,.I),(5,.I),(6,.P 0 6 1),(7,.I)] [] [(0,1,.box 0 (cv bp)),(0,6,.box 1 (bq dV))] 1 [] 2
def aG8:aW:=[tmr [(2,.Q)],(.exit 4,tm [(1,.P 0 1 0),(4,.I),(5,.I)] [] [(0,1,.box 0 (cv bp))] 1 [] 1)]
def Or(N:Nat):Nat->Int×Int×Int×dJ->Option (Bool⊕(Int×Int×dz))|0,_=>none|k+1,(c,d,a,e,f,g,h,i,j,b,l,m,n)=>cond (a<b.length) ((idx b a).bind λo=>cond ((o.1.length:Int)>100) (some (Sum.inl true)) (Or N k (c,d,(au (a+1)),e,f,g,h,i,j,b,l,m,n))) (some (Sum.inr (c,d,e,f,g)))
def bg8:∀k,Or N k=tmq (ab2 N) 28 10 aG7 aG8 k:=lpI (λ_=>rfl) λk=>by kernel_rfl
def ab3:ai:=(ab2 N).aa N 0 28 aG7 aG8
def aG9:aX:=tm [(1,.P 0 1 0),(4,.I),(5,.I)] [] [(0,1,.box 0 (cv bp))] 1 [] 1
def aH0:aW:=[tmr [(2,.Q)],(.exit 2,tmz)]
def ah7:Nat->Int×Int×dz->Option (Bool⊕Unit)|0,_=>none|k+1,(e,c,f,g,d)=>cond (c<d.length) ((idx d c).bind λa=>(cond ((a.1.length:Int)>100) (some true) (cond ((a.2.2.2.1.length:Int)>20) (some true) (cond ((a.2.2.2.2.1.length:Int)>210) (some true) (cond ((a.2.2.2.2.2.1.length:Int)>210) (some true) (cond ((a.2.2.2.2.2.2.length:Int)>210) (some true) (some (decide ((au (e+(a.2.2.2.2.1.length:Int)))>1000)))))))).bind λh=>cond h (some (Sum.inl true)) ((Or N N ((au (e+(a.2.2.2.2.1.length:Int))),c,0,f,g,d,a.1,a.2.1,a.2.2.1,a.2.2.2.1,a.2.2.2.2.1,a.2.2.2.2.2.1,a.2.2.2.2.2.2)).bind λi=>match i with|.inl j=>some (Sum.inl j)|.inr b=>ah7 k (b.1,(au (b.2.1+1)),b.2.2.1,b.2.2.2.1,b.2.2.2.2))) (some (Sum.inr ()))
def aH1:∀k,ah7 N k=tmq (ab3 N) 17 10 aG9 aH0 k|0=>rfl|k+1=>funext λ⟨a,b,c,d,e⟩=>by rw[ah7,aH1 k,bg8 N N];kernel_rfl
def avP:ai:=(ab3 N).aa N 0 17 aG9 aH0
def F10:dz->Option Bool|(b,c,d)=>((F21 N b).bind λe=>cond e (some true) (cond ((c.length:Int)>40) (some true) (some (decide ((d.length:Int)>40))))).bind λf=>cond f true ((aw1 N N (0,b,c,d)).bind λg=>match g with|.inl h=>h|.inr a=>(ah7 N N (0,0,a.1,a.2.1,a.2.2)).bind λi=>match i with|.inl j=>j|.inr l=>false)
def G10:ai:=(G21 N).put 10 s10 (F10 N)
def K10:az bE (G10 N):=(K21 N).pu (avP N) (K21 N).o.l.l.l (funext λ⟨a,b,c⟩=>by rw[F10,bg7 N N,aH1 N N];kernel_rfl)
def s4:bH:=⟨[.agg (cv fF)],[tmf [.bool]],0,[(0,1,25,.bool)],[],[],[]⟩
def ajy:ai:=(G10 N).on s4
def aH2:aX:=tm [(1,.P 0 1 0),(3,.I)] [] [(0,1,.box 0 (cv fF))] 1 [] 1
def aH3:aW:=[tmr [(2,.Q)],tmx]
def aw2(N:Nat):Nat->Int×pH->Option (Bool⊕Unit)|0,_=>none|k+1,(a,c,d,e,f,g,h,i,j,l,b,m,n)=>cond (a<b.length) ((idx b a).bind λo=>cond ((o.2.length:Int)>4200) (some (Sum.inl true)) (aw2 N k ((au (a+1)),c,d,e,f,g,h,i,j,l,b,m,n))) (some (Sum.inr ()))
def bg9:∀k,aw2 N k=tmq (ajy N) 6 4 aH2 aH3 k:=lpI (λ_=>rfl) λk=>by kernel_rfl
def aAw:ai:=(ajy N).aa N 0 6 aH2 aH3
def F4:pH->Option Bool|(a,b,c,g,h,i,j,l,d,e,f,m)=>((F10 N (a,b,c)).bind λn=>cond n (some true) (cond ((d.length:Int)>4200) (some true) (cond ((e.length:Int)>20) (some true) (some (decide ((f.length:Int)>20)))))).bind λo=>cond o true ((aw2 N N (0,a,b,c,g,h,i,j,l,d,e,f,m)).bind λp=>match p with|.inl q=>q|.inr r=>false)
def G4:ai:=(G10 N).put 4 s4 (F4 N)
def K4:az bE (G4 N):=(K10 N).pu (aAw N) (K10 N).o.l (funext λ⟨a,b,c,d,e,f,g,h,i,j,l,m⟩=>by rw[F4,bg9 N N];kernel_rfl)
def ajz:bH:=⟨[.I,.I],[tmf [.bool]],0,[(0,1,4,.bool)],[],[],[]⟩
def Kq(N:Nat):Int×Int->Option Bool|(a,b)=>(cond (a>=0) (some (decide (a<b))) (some false)).bind λc=>c
def ajA:ai:=(G4 N).put 165 ajz (Kq N)
def ajB:az bE (ajA N):=(K4 N).pl (by kernel_rfl)
def ajC:bH:=sg [.I] [tmf [.bool]]
def aap(N:Nat):Int->Option Bool|a=>some (a !=0)
def aev:ai:=(ajA N).put 211 ajC (aap N)
def ajD:az bE (aev N):=(ajB N).pl (by kernel_rfl)
def aew:bH:=sg [.c (.sl .I .aY)] [tmf [.bool]]
def T3:ai:=(aev N).on aew
def aH4:aX:=tm [(0,.c (.sl .I .aY)),(1,.fL 211 []),(7,.I),(8,.I)] [[],[]] [] 3 [] 0
def aH5:aW:=[(.ret,tm [(4,.I)] [[],[]] [] 3 [] 0),(.exit 0,tm [] [[],[]] [] 3 [] 0)]
def ah8:Nat->tmI×Int×Int->Option (Int⊕Unit)|0,_=>none|k+1,(b,c,a)=>cond (a<c) ((idx b a).bind λd=>(aap N d).bind λe=>cond e (some (Sum.inl a)) (ah8 k (b,c,(au (a+1))))) (some (Sum.inr ()))
def bh0:∀k,ah8 N k=lp (T3 N) 1004001007000 3 (tq 113) 3 aH4 aH5 k:=lpI (λ_=>rfl) λk=>by kernel_rfl
def arG:ai:=(T3 N).aa N 1004001007000 3 aH4 aH5
def Kr:tmI->Option Bool|a=>(ah8 N N (a,(a.length:Int),0)).bind λb=>match b with|.inl c=>some (!(decide (c>=0)))|.inr d=>some (!(decide ((-1:Int)>=0)))
def aex:ai:=(aev N).put 166 aew (Kr N)
def ajE:az bE (aex N):=(ajD N).pu (arG N) (ajD N).o.l (funext λa=>by rw[Kr,bh0 N N];kernel_rfl)
def aey:bH:=⟨[.T],[tmf [.bool]],0,[(0,1,17,.bool),(0,11,45,.bool)],[],[],[]⟩
def T4:ai:=(aex N).on aey
def aH6:aX:=tmn [(19,.D .B),(20,.I),(21,.I)]
def aH7:aW:=[tmr [(2,.Q)],tmx]
def aw4(N:Nat):Nat->tmI×Int×Int->Option (Bool⊕Unit)|0,_=>none|k+1,(c,d,b)=>cond (b<d) ((idx c b).bind λa=>(cond ((BD .u8 a 32)<97) (cond (a<48) (some true) (some (decide (a>57)))) (cond ((BD .u8 a 32)>122) (cond (a<48) (some true) (some (decide (a>57)))) (cond ((tZ .u8 a 64)==0) (cond (a<48) (some true) (some (decide (a>57)))) (some false)))).bind λe=>cond e (some (Sum.inl false)) (aw4 N k (c,d,(au (b+1))))) (some (Sum.inr ()))
def bh1:∀k,aw4 N k=tmq (T4 N) 6 167 aH6 aH7 k:=lpI (λ_=>rfl) λk=>by kernel_rfl
def arH:ai:=(T4 N).aa N 0 6 aH6 aH7
def MZ:List UInt8->Option Bool|a=>(cond ((a.length:Int)==0) (some true) (cond ((a.length:Int)>16) (some true) ((idx a 0).bind λc0=>some (decide ((c0.toNat:Int)<=57))))).bind λb=>cond b false ((aw4 N N ((bP a),((bP a).length:Int),0)).bind λc=>match c with|.inl d=>d|.inr e=>true)
def aez:ai:=(aex N).put 167 aey (MZ N)
def ajF:az bE (aez N):=(ajE N).pu (arH N) (ajE N).o.l (funext λa=>by rw[MZ,bh1 N N];kernel_rfl)
def aeA:bH:=⟨[.c (.sl aR .aY),.I],[tmf [.bool]],0,[(0,8,16,.bool),(0,6,16,.bool),(0,13,29,.bool)],[],[],[]⟩
def T5:ai:=(aez N).on aeA
def aH8:aX:=tm [(1,.I),(5,.P 0 5 0),(6,.fL 165 []),(7,.c (.mp 0 70 1)),(72,.D cS),(73,.I),(74,.I)] [] [(0,5,.box 0 (bq aR)),(0,70,.set 1)] 1 [] 2
def aH9:aW:=[tmr [(4,.Q)],(.exit 1,tm [(5,.P 0 5 0)] [] [(0,5,.box 0 (bq aR))] 1 [] 1)]
def ah9:Nat->Int×List Field×Int×Int×Df (List (List UInt8))->Option (Bool⊕oo)|0,_=>none|k+1,(c,d,e,b,f,g,h,i,j)=>cond (b<e) ((idx d b).bind λa=>(MZ N a.1).bind λl=>cond (!l) (some (Sum.inl false)) (cond (hasB j a.1) (some (Sum.inl false)) ((Kq N (a.2,c)).bind λm=>cond (!m) (some (Sum.inl false)) (ah9 k (c,d,e,(au (b+1)),f,g,h,i,(tc j a.1)))))) (some (Sum.inr (f,g,h,i)))
def bh2:∀k,ah9 N k=tmq (T5 N) 25 123 aH8 aH9 k:=lpI (λ_=>rfl) λk=>by kernel_rfl
def arI:ai:=(T5 N).aa N 0 25 aH8 aH9
def T8:List aA×Int->Option Bool|(d,c)=>(idx d c).bind λa=>(cond (a.1==1) (some true) ((cond (a.1==2) (some true) (some (a.1==3))).bind λe=>some e)).bind λf=>cond f ((Kr N [a.2.1,a.2.2.1,(a.2.2.2.length:Int)]).bind λg=>g) ((cond (a.1==4) (some true) (some (a.1==7))).bind λh=>cond h ((Kq N (a.2.1,(d.length:Int))).bind λi=>cond i ((Kr N [a.2.2.1,(a.2.2.2.length:Int)]).bind λj=>j) false) (cond (a.1==6) ((Kq N (a.2.1,c)).bind λl=>cond l ((Kq N ((au (a.2.2.1-1)),16)).bind λm=>cond m ((Kr N [(a.2.2.2.length:Int)]).bind λn=>n) false) false) (cond (a.1==5) ((ah9 N N (c,a.2.2.2,(a.2.2.2.length:Int),0,a.1,a.2.1,a.2.2.1,a.2.2.2,([]:List (List UInt8)))).bind λo=>match o with|.inl p=>p|.inr b=>(Kr N [b.2.1,b.2.2.1]).bind λq=>cond q (cond ((b.2.2.2.length:Int)>0) (some (decide ((b.2.2.2.length:Int)<=8))) false) false) false)))
def aeB:ai:=(aez N).put 123 aeA (T8 N)
def ajG:az bE (aeB N):=(ajF N).pu (arI N) (ajF N).o.l (funext λ⟨a,b⟩=>by rw[T8,bh2 N N];kernel_rfl)
def aeC:bH:=⟨[.c (.sl aR .aY)],[tmf [.D .I]],0,[(0,26,7,.I),(0,23,7,.I),(0,20,7,.I)],[],[(0,12,.I),(0,17,.I)],[]⟩
def T9:ai:=(aeB N).on aeC
def aI0:aX:=tm [(0,.c (.sl aR .aY)),(3,.R 0 3 0 .I),(4,.R 0 17 1 .I),(5,.I),(7,.I),(13,.I),(18,.c (.sl aR .aY)),(19,.I),(20,.I),(59,.D cS),(60,.I),(61,.I)] [] [(0,3,.row 0 .I),(0,17,.row 1 .I)] 1 [] 2
def aI1:aW:=[(.exit 5,tm [(0,.c (.sl aR .aY)),(3,.R 0 3 0 .I),(4,.R 0 17 1 .I),(5,.I),(7,.I),(13,.I),(18,.c (.sl aR .aY)),(19,.I),(20,.I)] [] [(0,3,.row 0 .I),(0,17,.row 1 .I)] 1 [] 2)]
def ai0(N:Nat):Nat->List aA×Int×Int×Int×List aA×Int×Int×List Field×Int×Int×tmI×tmI->Option (List aA×Int×Int×Int×List aA×Int×Int×tmI×tmI)|0,_=>none|k+1,(c,d,e,f,g,h,i,j,l,b,m,a)=>cond (b<l) ((idx j b).bind λn=>aH (fM n.2 a.length) ((a[n.2.toNat]?).bind λo=>ai0 N k (c,d,(au (e+o)),f,g,h,i,j,l,(au (b+1)),m,a))) (c,d,e,f,g,h,i,m,a)
def bh3:∀k,ai0 N k=tmq (T9 N) 30 124 aI0 aI1 k:=lpI (λ_=>rfl) λk=>by kernel_rfl
def Ua:ai:=(T9 N).aa N 0 30 aI0 aI1
def aI2:aX:=tm [(0,.c (.sl aR .aY)),(3,.R 0 3 0 .I),(4,.R 0 17 1 .I),(13,.I),(18,.c (.sl aR .aY)),(19,.I),(20,.I)] [] [(0,3,.row 0 .I),(0,17,.row 1 .I)] 1 [] 2
def aI3:aW:=[(.exit 2,tm [(0,.c (.sl aR .aY)),(4,.R 0 17 0 .I),(13,.I)] [] [(0,17,.row 0 .I)] 1 [] 1)]
def Ly:Nat->List aA×Int×List aA×Int×Int×tmI×tmI->Option (List aA×Int×tmI)|0,_=>none|k+1,(f,g,h,i,d,c,e)=>cond (d<i) ((idx h d).bind λb=>(cond (b.1==4) (aH (fM b.2.1 c.length) ((c[b.2.1.toNat]?).bind λj=>some (au (1+j)))) ((cond (b.1==7) (aH (fM b.2.1 c.length) ((c[b.2.1.toNat]?).bind λl=>some (au (1+(au (16*l)))))) ((cond (b.1==6) (aH (fM b.2.1 e.length) ((e[b.2.1.toNat]?).bind λm=>some (au (1+(au (b.2.2.1*m)))))) (some 1)).bind λn=>some n)).bind λo=>some o)).bind λp=>(ai0 N N (f,d,p,g,h,i,d,b.2.2.2,(b.2.2.2.length:Int),0,c,e)).bind λa=>aH (fM a.2.1 a.2.2.2.2.2.2.2.2.length) ((a.2.2.2.2.2.2.2.2[a.2.1.toNat]?).bind λq=>Ly k (a.1,a.2.2.2.1,a.2.2.2.2.1,a.2.2.2.2.2.1,(au (a.2.2.2.2.2.2.1+1)),a.2.2.2.2.2.2.2.1,(a.2.2.2.2.2.2.2.2.set a.2.1.toNat (min a.2.2.1 5001))))) (f,g,e)
def aI4:∀k,Ly N k=tmq (Ua N) 11 124 aI2 aI3 k|0=>rfl|k+1=>funext λ⟨a,b,c,d,e,f,g⟩=>by rw[Ly,aI4 k,bh3 N N];kernel_rfl
def Ub:ai:=(Ua N).aa N 0 11 aI2 aI3
def aI5:aX:=tm [(0,.c (.sl aR .aY)),(3,.R 0 3 0 .I),(13,.I)] [] [(0,3,.row 0 .I)] 1 [] 1
def aI6:aW:=[(.exit 0,tm [(3,.R 0 3 0 .I)] [] [(0,3,.row 0 .I)] 1 [] 1)]
def Pi:Nat->List aA×Int×tmI->Option tmI|0,_=>none|k+1,(a,c,d)=>cond (c<4) (aH (decide (0<=(a.length:Int))) (aH (decide (0<=(a.length:Int))) (aH (decide ((Int.toNat (a.length:Int))<=(Int.toNat (a.length:Int)))&&room (Int.toNat (a.length:Int)) 8) ((Ly N N (a,c,a,(a.length:Int),0,d,(List.replicate (Int.toNat (a.length:Int)) (0:Int)))).bind λb=>Pi k (b.1,(au (b.2.1+1)),b.2.2))))) d
def aI7:∀k,Pi N k=tmq (Ub N) 4 124 aI5 aI6 k|0=>rfl|k+1=>funext λ⟨a,b,c⟩=>by rw[Pi,aI7 k,aI4 N N];kernel_rfl
def arJ:ai:=(Ub N).aa N 0 4 aI5 aI6
def Uc:List aA->Option tmI|a=>aH (decide (0<=(a.length:Int))) (aH (decide (0<=(a.length:Int))) (aH (decide ((Int.toNat (a.length:Int))<=(Int.toNat (a.length:Int)))&&room (Int.toNat (a.length:Int)) 8) ((Pi N N (a,0,(List.replicate (Int.toNat (a.length:Int)) (0:Int)))).bind λb=>b)))
def aeD:ai:=(aeB N).put 124 aeC (Uc N)
def ajH:az bE (aeD N):=(ajG N).pu (arJ N) (ajG N).o.l.l.l (funext λa=>by rw[Uc,aI7 N N];kernel_rfl)
def s74:bH:=sg [.c (.sl aR .aY)] [tmf [.I]]
def ab5:ai:=(aeD N).on s74
def aI8:aX:=tmn [(0,.c (.sl aR .aY)),(10,.I),(11,.I)]
def aI9:aW:=[tmr [(2,.I)],(.exit 0,tmn [(0,.c (.sl aR .aY))])]
def aw5:Nat->List aA×Int×Int->Option (Int⊕(List aA))|0,_=>none|k+1,(a,c,b)=>cond (b<c) ((T8 N (a,b)).bind λd=>cond (!d) (some (Sum.inl 8)) (aw5 k (a,c,(au (b+1))))) (some (Sum.inr a))
def bh4:∀k,aw5 N k=tmq (ab5 N) 6 74 aI8 aI9 k:=lpI (λ_=>rfl) λk=>by kernel_rfl
def ab6:ai:=(ab5 N).aa N 0 6 aI8 aI9
def aJ0:aX:=tmn [(20,.D .I),(21,.I),(22,.I)]
def aJ1:aW:=[tmr [(2,.I)],(.exit 2,tmz)]
def aw6(N:Nat):Nat->tmI×Int×Int->Option (Int⊕Unit)|0,_=>none|k+1,(b,c,a)=>cond (a<c) ((idx b a).bind λd=>cond (d>5000) (some (Sum.inl 8)) (aw6 N k (b,c,(au (a+1))))) (some (Sum.inr ()))
def bh5:∀k,aw6 N k=tmq (ab6 N) 17 74 aJ0 aJ1 k:=lpI (λ_=>rfl) λk=>by kernel_rfl
def avR:ai:=(ab6 N).aa N 0 17 aJ0 aJ1
def F74:List aA->Option Int|a=>cond ((a.length:Int)>32) (some 8) ((aw5 N N (a,(a.length:Int),0)).bind λc=>match c with|.inl d=>d|.inr e=>(Uc N e).bind λb=>(aw6 N N (b,(b.length:Int),0)).bind λf=>match f with|.inl g=>g|.inr h=>some 0)
def G74:ai:=(aeD N).put 74 s74 (F74 N)
def K74:az bE (G74 N):=(ajH N).pu (avR N) (ajH N).o.l.l (funext λa=>by rw[F74,bh4 N N,bh5 N N];kernel_rfl)
def s76:bH:=⟨[.c (.sl eX .aY),.c (.sl cS .aY)],[tmf [.D .I],(true,(bq eX))],0,[],[],[(0,13,.I)],[]⟩
def ab8:ai:=(G74 N).on s76
def aJ2:aX:=tm [(0,.c (.sl eX .aY)),(5,.P 0 5 0),(6,.R 0 13 1 .I),(7,.P 0 7 2),(15,.c (.sl cS .aY)),(16,.I),(17,.I)] [] [(0,5,.box 0 (bq eX)),(0,13,.row 1 .I),(0,7,.box 2 (bq eX))] 1 [] 3
def aJ3:aW:=[(.exit 0,tm [(5,.P 0 5 0),(6,.R 0 13 1 .I),(7,.P 0 7 2)] [] [(0,5,.box 0 (bq eX)),(0,13,.row 1 .I),(0,7,.box 2 (bq eX))] 1 [] 3)]
def aw7(N:Nat):Nat->List pG×List Field×x8 (tmI×Int×Int)->Option (Int×Int×tmI×Int×Int)|0,_=>none|k+1,(e,f,g,a,h,i,c,d,j)=>cond (a<g) ((idx f a).bind λl=>(idx e l.2).bind λb=>aH (fM a c.length) ((c[a.toNat]?).bind λn=>aH (fM a (c.set a.toNat (qf .i64 (au ((au (d+b.2))-1)) (au (b.2-1)))).length) (((c.set a.toNat (qf .i64 (au ((au (d+b.2))-1)) (au (b.2-1))))[a.toNat]?).bind λm=>aw7 N k (e,f,g,(au (a+1)),h,i,(c.set a.toNat (qf .i64 (au ((au (d+b.2))-1)) (au (b.2-1)))),(min 1048576 (au (m+b.1))),(max j b.2))))) (h,i,c,d,j)
def bh6:∀k,aw7 N k=tmq (ab8 N) 4 76 aJ2 aJ3 k:=lpI (λ_=>rfl) λk=>by kernel_rfl
def avT:ai:=(ab8 N).aa N 0 4 aJ2 aJ3
def F76:List pG×List Field->Option (tmI×Int×Int)|(c,a)=>aH (decide (0<=(a.length:Int))) (aH (decide (0<=(a.length:Int))) (aH (decide ((Int.toNat (a.length:Int))<=(Int.toNat (a.length:Int)))&&room (Int.toNat (a.length:Int)) 8) ((aw7 N N (c,a,(a.length:Int),0,0,0,(List.replicate (Int.toNat (a.length:Int)) (0:Int)),0,1)).bind λb=>some (b.2.2.1,(qf .i64 (au ((au (b.2.2.2.1+b.2.2.2.2))-1)) (au (b.2.2.2.2-1))),b.2.2.2.2))))
def G76:ai:=(G74 N).put 76 s76 (F76 N)
def K76:az bE (G76 N):=(K74 N).pu (avT N) (K74 N).o.l (funext λ⟨a,b⟩=>by rw[F76,bh6 N N];kernel_rfl)
def s75:bH:=⟨[.c (.sl aR .aY)],[tmf [.D eX]],0,[(0,15,25,.bool)],[],[(0,9,eX)],[]⟩
def ab9:ai:=(G76 N).on s75
def aJ4:aX:=tm [(3,.R 0 9 0 eX),(10,.c (.sl aR .aY)),(11,.I),(12,.I)] [] [(0,9,.row 0 eX)] 1 [] 1
def aJ5:aW:=[(.exit 0,tm [(3,.R 0 9 0 eX)] [] [(0,9,.row 0 eX)] 1 [] 1)]
def Hm:Nat->List aA×Int×Int×List pG->Option (List pG)|0,_=>none|k+1,(d,e,a,b)=>cond (a<e) ((idx d a).bind λc=>cond (c.1==1) (aH (fM a b.length) ((b[a.toNat]?).bind λi=>Hm k (d,e,(au (a+1)),(b.set a.toNat (1,1))))) ((cond (c.1==2) (some true) (some (c.1==4))).bind λg=>cond g (aH (fM a b.length) ((b[a.toNat]?).bind λj=>Hm k (d,e,(au (a+1)),(b.set a.toNat (8,8))))) (cond (c.1==3) (aH (fM a b.length) ((b[a.toNat]?).bind λl=>Hm k (d,e,(au (a+1)),(b.set a.toNat (16,8))))) (cond (c.1==7) (aH (fM a b.length) ((b[a.toNat]?).bind λm=>Hm k (d,e,(au (a+1)),(b.set a.toNat (24,8))))) (cond (c.1==6) (aH (fM c.2.1 b.length) ((b[c.2.1.toNat]?).bind λf=>aH (fM a b.length) ((b[a.toNat]?).bind λn=>Hm k (d,e,(au (a+1)),(b.set a.toNat ((min 1048576 (au (c.2.2.1*f.1))),f.2)))))) (cond (c.1==5) ((F76 N (b,c.2.2.2)).bind λh=>aH (fM a b.length) ((b[a.toNat]?).bind λo=>Hm k (d,e,(au (a+1)),(b.set a.toNat h.2)))) (Hm k (d,e,(au (a+1)),b)))))))) b
def bh7:∀k,Hm N k=tmq (ab9 N) 4 75 aJ4 aJ5 k:=lpI (λ_=>rfl) λk=>by kernel_rfl
def avV:ai:=(ab9 N).aa N 0 4 aJ4 aJ5
def F75:List aA->Option (List pG)|a=>aH (decide (0<=(a.length:Int))) (aH (decide (0<=(a.length:Int))) (aH (decide ((Int.toNat (a.length:Int))<=(Int.toNat (a.length:Int)))&&room (Int.toNat (a.length:Int)) 16) ((Hm N N (a,(a.length:Int),0,(List.replicate (Int.toNat (a.length:Int)) (0,0)))).bind λb=>b)))
def G75:ai:=(G76 N).put 75 s75 (F75 N)
def K75:az bE (G75 N):=(K76 N).pu (avV N) (K76 N).o.l (funext λa=>by rw[F75,bh7 N N];kernel_rfl)
def s85:bH:=⟨[.c (.sl aR .aY),.I],[tmf [.D eX],tmf [.I]],0,[(0,5,20,.bool)],[],[],[]⟩
def F85:List aA×Int->Option (List pG×Int)|(a,b)=>(F74 N a).bind λc=>cond (c !=0) (some ([],c)) ((cond (b<0) (some true) (some (decide (b>=a.length)))).bind λe=>cond e (some ([],2)) ((F75 N a).bind λd=>(idx d b).bind λf=>cond (f.1>256) (some ([],16)) (some (d,0))))
def G85:ai:=(G75 N).put 85 s85 (F85 N)
def K85:az bE (G85 N):=(K75 N).pl (by kernel_rfl)
def s40:bH:=sg [.c (.sl aR .aY),.I] [tmf [.I],tmf [.I],tmf [.I]]
def Ud:List aA×Int->Option (Int×Int×Int)|(c,b)=>(F85 N (c,b)).bind λa=>cond (a.2!=0) (some (0,0,a.2)) ((idx a.1 b).bind λd=>(idx a.1 b).bind λe=>some (d.1,e.2,0))
def G40:ai:=(G85 N).put 40 s40 (Ud N)
def K40:az bE (G40 N):=(K85 N).pl (by kernel_rfl)
def aeF:bH:=sg [.c (.sl cS .aY)] [tmf [.bool]]
def Ue:ai:=(G40 N).on aeF
def aJ6:aX:=tm [(0,.c (.sl cS .aY)),(1,.fL 266 [.P 0 4 0]),(7,.I),(8,.I)] [[],[]] [(0,4,.box 0 (bq cS))] 3 [] 1
def aJ7:aW:=[(.ret,tm [(4,.I)] [[],[]] [] 3 [] 0),(.exit 0,tm [] [[],[]] [] 3 [] 0)]
def LE(N:Nat):Nat->List Field×Int×Int×List UInt8×Int->Option (Int⊕Unit)|0,_=>none|k+1,(b,c,a,d,e)=>cond (a<c) ((idx b a).bind λf=>cond (f.1==d) (some (Sum.inl a)) (LE N k (b,c,(au (a+1)),d,e))) (some (Sum.inr ()))
def bh8:∀k,LE N k=lp (Ue N) 1021001007000 3 (tq 279) 3 aJ6 aJ7 k:=lpI (λ_=>rfl) λk=>by kernel_rfl
def Uf:ai:=(Ue N).aa N 1021001007000 3 aJ6 aJ7
def aJ8:aX:=tmn [(0,.c (.sl cS .aY)),(5,.c (.sl cS .aY)),(6,.I),(7,.I)]
def aJ9:aW:=[tmr [(2,.Q)],tmx]
def Pl:Nat->List Field×List Field×Int×Int->Option (Bool⊕Unit)|0,_=>none|k+1,(b,c,d,a)=>cond (a<d) ((idx c a).bind λe=>(MZ N e.1).bind λf=>cond (!f) (some (Sum.inl false)) (aH (decide (0<=a)) (aH (decide (a.toNat<=b.length)) ((LE N N ((b.take a.toNat),((b.take a.toNat).length:Int),0,e.1,e.2)).bind λg=>match g with|.inl h=>cond (h>=0) (some (Sum.inl false)) (Pl k (b,c,d,(au (a+1))))|.inr i=>Pl k (b,c,d,(au (a+1))))))) (some (Sum.inr ()))
def aK0:∀k,Pl N k=tmq (Uf N) 3 245 aJ8 aJ9 k|0=>rfl|k+1=>funext λ⟨a,b,c,d⟩=>by rw[Pl,aK0 k,bh8 N N];kernel_rfl
def arQ:ai:=(Uf N).aa N 0 3 aJ8 aJ9
def Ug:List Field->Option Bool|a=>(Pl N N (a,a,(a.length:Int),0)).bind λb=>match b with|.inl c=>c|.inr d=>true
def ajI:ai:=(G40 N).put 245 aeF (Ug N)
def ajJ:az bE (ajI N):=(K40 N).pu (arQ N) (K40 N).o.l.l (funext λa=>by rw[Ug,aK0 N N];kernel_rfl)
def ajK:bH:=sg [] [(true,(bq sj))]
def zk(N:Nat):Unit->Option aao|()=>some (0,15,false,true)
def ajL:ai:=(ajI N).put 241 ajK (zk N)
def ajM:az bE (ajL N):=(ajJ N).pl (funext λ()=>by rw[zk];kernel_rfl)
def ajN:bH:=sg [] [(true,(bq sj))]
def aaq(N:Nat):Unit->Option aao|()=>some ((-9223372036854775808),9223372036854775807,false,false)
def ajO:ai:=(ajL N).put 242 ajN (aaq N)
def ajP:az bE (ajO N):=(ajM N).pl (funext λ()=>by rw[aaq];kernel_rfl)
def ajQ:bH:=sg [.I] [(true,(bq sj))]
def Dk(N:Nat):Int->Option aao|a=>some (0,(au (a-1)),false,false)
def ajR:ai:=(ajO N).put 243 ajQ (Dk N)
def ajS:az bE (ajR N):=(ajP N).pl (by kernel_rfl)
def ajT:bH:=sg [] [(true,(bq sj))]
def ud(N:Nat):Unit->Option aao|()=>some (0,15,true,false)
def ajU:ai:=(ajR N).put 244 ajT (ud N)
def ajV:az bE (ajU N):=(ajS N).pl (funext λ()=>by rw[ud];kernel_rfl)
def ajW:bH:=⟨[.B],[(true,[.I,.I,.bool,.bool,.I,.I,.bool,.bool,.I,.I,.bool,.bool]),tmf [.I]],0,[(0,24,7,.bool),(0,34,16,.bool),(0,48,19,.bool),(0,46,19,.bool),(0,44,19,.bool),(0,42,19,.bool),(0,40,19,.bool),(0,38,19,.bool),(0,60,27,.bool),(0,58,27,.bool),(0,56,27,.bool),(0,54,27,.bool),(0,52,27,.bool),(0,78,46,.bool),(0,76,46,.bool),(0,84,52,.bool)],[],[(0,62,sj),(0,67,sj),(0,72,sj),(0,76,sj),(0,91,sj),(0,97,sj),(0,103,sj),(0,108,sj),(0,112,sj),(0,117,sj),(0,121,sj),(0,126,sj),(0,132,sj),(0,137,sj),(0,141,sj)],[]⟩
def Ib:Int->Option (aeu (aeu (aeu Int)))|a=>(cond (a==30) (some true) (some (a==31))).bind λK=>cond K (some (0,0,false,false,0,0,false,false,0,0,false,false,0)) (cond (a==1) ((zk N ()).bind λe=>(aaq N ()).bind λf=>some (e.1,e.2.1,e.2.2.1,e.2.2.2,f.1,f.2.1,f.2.2.1,f.2.2.2,0,0,false,false,2)) (cond (a==2) ((zk N ()).bind λg=>(Dk N 32).bind λh=>some (g.1,g.2.1,g.2.2.1,g.2.2.2,h.1,h.2.1,h.2.2.1,h.2.2.2,0,0,false,false,2)) (cond (a==3) ((zk N ()).bind λi=>(Dk N 2).bind λj=>some (i.1,i.2.1,i.2.2.1,i.2.2.2,j.1,j.2.1,j.2.2.1,j.2.2.2,0,0,false,false,2)) ((cond (a==4) (some true) (some (a==15))).bind λL=>cond L ((zk N ()).bind λl=>some (l.1,l.2.1,l.2.2.1,l.2.2.2,0,0,false,false,0,0,false,false,1)) ((cond (a==6) (some true) ((cond (a==7) (some true) ((cond (a==8) (some true) ((cond (a==9) (some true) ((cond (a==10) (some true) ((cond (a==11) (some true) (some (a==19))).bind λM=>some M)).bind λO=>some O)).bind λP=>some P)).bind λQ=>some Q)).bind λR=>some R)).bind λS=>cond S ((ud N ()).bind λb=>(zk N ()).bind λc=>(ud N ()).bind λd=>cond b.2.2.1 (some (c.1,c.2.1,c.2.2.1,c.2.2.2,d.1,d.2.1,d.2.2.1,d.2.2.2,b.1,b.2.1,b.2.2.1,b.2.2.2,3)) (some (c.1,c.2.1,c.2.2.1,c.2.2.2,d.1,d.2.1,d.2.2.1,d.2.2.2,b.1,b.2.1,b.2.2.1,b.2.2.2,2))) ((cond (a==5) (some true) ((cond (a==12) (some true) ((cond (a==16) (some true) ((cond (a==18) (some true) ((cond (a==21) (some true) (some (a==33))).bind λT=>some T)).bind λU=>some U)).bind λV=>some V)).bind λW=>some W)).bind λX=>cond X ((zk N ()).bind λm=>(ud N ()).bind λn=>some (m.1,m.2.1,m.2.2.1,m.2.2.2,n.1,n.2.1,n.2.2.1,n.2.2.2,0,0,false,false,2)) (cond (a==13) ((zk N ()).bind λo=>(ud N ()).bind λp=>(Dk N 8).bind λq=>some (o.1,o.2.1,o.2.2.1,o.2.2.2,p.1,p.2.1,p.2.2.1,p.2.2.2,q.1,q.2.1,q.2.2.1,q.2.2.2,3)) (cond (a==14) ((ud N ()).bind λr=>(Dk N 8).bind λs=>(ud N ()).bind λt=>some (r.1,r.2.1,r.2.2.1,r.2.2.2,s.1,s.2.1,s.2.2.1,s.2.2.2,t.1,t.2.1,t.2.2.1,t.2.2.2,3)) (cond (a==20) ((ud N ()).bind λu=>(ud N ()).bind λv=>(ud N ()).bind λw=>some (u.1,u.2.1,u.2.2.1,u.2.2.2,v.1,v.2.1,v.2.2.1,v.2.2.2,w.1,w.2.1,w.2.2.1,w.2.2.2,3)) (cond (a==17) ((ud N ()).bind λx=>(ud N ()).bind λy=>some (x.1,x.2.1,x.2.2.1,x.2.2.2,y.1,y.2.1,y.2.2.1,y.2.2.2,0,0,false,false,2)) (cond (a==22) ((Dk N 200).bind λz=>some (z.1,z.2.1,z.2.2.1,z.2.2.2,0,0,false,false,0,0,false,false,1)) (cond (a==23) ((ud N ()).bind λA=>(Dk N 200).bind λB=>some (A.1,A.2.1,A.2.2.1,A.2.2.2,B.1,B.2.1,B.2.2.1,B.2.2.2,0,0,false,false,2)) ((cond (a==24) (some true) ((cond (a==28) (some true) (some (a==32))).bind λY=>some Y)).bind λZ=>cond Z ((ud N ()).bind λC=>some (C.1,C.2.1,C.2.2.1,C.2.2.2,0,0,false,false,0,0,false,false,1)) (cond (a==25) ((zk N ()).bind λI=>(Dk N 32).bind λD=>some ((-1),I.2.1,I.2.2.1,I.2.2.2,D.1,D.2.1,D.2.2.1,D.2.2.2,0,0,false,false,2)) ((cond (a==26) (some true) (some (a==27))).bind λa0=>cond a0 ((Dk N 32).bind λE=>some (E.1,E.2.1,E.2.2.1,E.2.2.2,0,0,false,false,0,0,false,false,1)) (cond (a==29) ((zk N ()).bind λG=>(zk N ()).bind λH=>some (G.1,G.2.1,G.2.2.1,G.2.2.2,H.1,H.2.1,H.2.2.1,H.2.2.2,0,0,false,false,2)) (cond (a==34) ((ud N ()).bind λJ=>some ((-1),J.2.1,J.2.2.1,J.2.2.2,0,0,false,false,0,0,false,false,1)) (some (0,0,false,false,0,0,false,false,0,0,false,false,(-1))))))))))))))))))))
def ajX:ai:=(ajU N).put 203 ajW (Ib N)
def ajY:az bE (ajX N):=(ajV N).pl (by kernel_rfl)
def ajZ:bH:=sg [.agg (bq bt)] [(true,[.I,.I,.I])]
def Kt(N:Nat):iF->Option (Int×Int×Int)|(d,a,b,c)=>(a,b,c)
def aj0:ai:=(ajX N).put 204 ajZ (Kt N)
def aj1:az bE (aj0 N):=(ajY N).pl (by kernel_rfl)
def aj2:bH:=⟨[.agg (bq bt)],[tmf [.I]],0,[(0,12,34,.bool),(0,100012,34,.bool)],[(0,7),(0,100007)],[],[]⟩
def Ku:iF->Option Int|(c,d,e,f)=>(Ib N c).bind λa=>cond (a.2.2.2.2.2.2.2.2.2.2.2.2<0) (some 8) ((Kt N (c,d,e,f)).bind λb=>(cond (b.1<a.1) (some true) (some (decide (b.1>a.2.1)))).bind λg=>cond g (some 8) ((cond (b.2.1<a.2.2.2.2.1) (some true) (some (decide (b.2.1>a.2.2.2.2.2.1)))).bind λh=>cond h (some 8) ((cond (b.2.2<a.2.2.2.2.2.2.2.2.1) (some true) (some (decide (b.2.2>a.2.2.2.2.2.2.2.2.2.1)))).bind λi=>cond i (some 8) (some 0))))
def aj3:ai:=(aj0 N).put 202 aj2 (Ku N)
def aj4:az bE (aj3 N):=(aj1 N).pl (by kernel_rfl)
def s77:bH:=⟨[.I],[tmf [.I]],0,[(0,1,8,.bool)],[],[],[]⟩
def F77(N:Nat):Int->Option Int|a=>(cond (a<1) (some true) (some (decide (a>200)))).bind λb=>cond b (some 2) (some 0)
def G77:ai:=(aj3 N).put 77 s77 (F77 N)
def K77:az bE (G77 N):=(aj4 N).pl (by kernel_rfl)
def s78:bH:=⟨[.c (.sl iE .aY),.I],[tmf [.bool]],0,[(0,1,28,.bool)],[],[],[]⟩
def acd:ai:=(G77 N).on s78
def aK1:aX:=tm [(5,.P 0 5 0),(33,.c (.sl iE .aY)),(34,.I),(35,.I)] [] [(0,5,.box 0 (bq iE))] 1 [] 1
def aK2:aW:=[tmr [(4,.Q)],tmx]
def aw9(N:Nat):Nat->List e8×Int×Int×Int×Int->Option (Bool⊕Unit)|0,_=>none|k+1,(c,d,b,e,f)=>cond (b<d) ((idx c b).bind λa=>cond (a.1<=e) (some (Sum.inl false)) (cond (a.1==a.1&&(a.2==f&&true)) (some (Sum.inl false)) (aw9 N k (c,d,(au (b+1)),a.1,a.2)))) (some (Sum.inr ()))
def bh9:∀k,aw9 N k=tmq (acd N) 7 78 aK1 aK2 k:=lpI (λ_=>rfl) λk=>by kernel_rfl
def av5:ai:=(acd N).aa N 0 7 aK1 aK2
def F78:List e8×Int->Option Bool|(a,c)=>(cond ((a.length:Int)==0) (some true) ((idx a 0).bind λd=>cond (d.1!=0) (some true) ((idx a (au ((a.length:Int)-1))).bind λe=>some (decide (e.1>=c))))).bind λf=>cond f false ((idx a 0).bind λb=>aH (decide (1<=a.length)) ((aw9 N N ((a.drop 1),((a.drop 1).length:Int),0,b.1,b.2)).bind λg=>match g with|.inl h=>h|.inr i=>true))
def G78:ai:=(G77 N).put 78 s78 (F78 N)
def K78:az bE (G78 N):=(K77 N).pu (av5 N) (K77 N).o.l (funext λ⟨a,b⟩=>by rw[F78,bh9 N N];kernel_rfl)
def s35:bH:=sg [.c (.sl iE .aY),.I] [tmf [.I]]
def F35:List e8×Int->Option Int|(c,a)=>(F77 N a).bind λb=>cond (b !=0) b ((F78 N (c,a)).bind λd=>cond (!d) (some 8) (some 0))
def G35:ai:=(G78 N).put 35 s35 (F35 N)
def K35:az bE (G35 N):=(K78 N).pl (by kernel_rfl)
def aeG:bH:=⟨[.c (.sl aR .aY),.agg (cv dV)],[tmf [.bool]],0,[(0,1,49,.bool),(0,11,66,.bool),(0,26,4,.bool)],[],[],[]⟩
def Uh:ai:=(G35 N).on aeG
def aK3:aX:=tm [(0,.c (.sl aR .aY)),(3,.P 0 3 0),(51,.c (.sl cS .aY)),(52,.I),(53,.I)] [] [(0,3,.box 0 (cv dV))] 1 [] 1
def aK4:aW:=[tmr [(4,.Q)],(.exit 0,tm [(3,.P 0 3 0)] [] [(0,3,.box 0 (cv dV))] 1 [] 1)]
def ai1(N:Nat):Nat->List aA×List Field×Int×Int×iw->Option (Bool⊕iw)|0,_=>none|k+1,(b,c,d,a,e,f,g,h,i,j,l)=>cond (a<d) ((idx c a).bind λm=>(cond (m.2<0) (some true) (some (decide (m.2>=b.length)))).bind λn=>cond n (some (Sum.inl false)) (ai1 N k (b,c,d,(au (a+1)),e,f,g,h,i,j,l))) (some (Sum.inr (e,f,g,h,i,j,l)))
def bi0:∀k,ai1 N k=tmq (Uh N) 6 205 aK3 aK4 k:=lpI (λ_=>rfl) λk=>by kernel_rfl
def Ui:ai:=(Uh N).aa N 0 6 aK3 aK4
def aK5:aX:=tm [(3,.P 0 3 0),(69,.c (.sl bt .aY)),(70,.I),(71,.I)] [] [(0,3,.box 0 (cv dV))] 1 [] 1
def aK6:aW:=[tmr [(4,.Q)],(.exit 2,tm [(3,.P 0 3 0)] [] [(0,3,.box 0 (cv dV))] 1 [] 1)]
def ai2:Nat->List Instr×Int×Int×iw->Option (Bool⊕iw)|0,_=>none|k+1,(c,d,b,e,f,g,h,i,j,l)=>cond (b<d) ((idx c b).bind λa=>(Ku N (a.1,a.2.1,a.2.2.1,a.2.2.2)).bind λm=>cond (m !=0) (some (Sum.inl false)) (ai2 k (c,d,(au (b+1)),e,f,g,h,i,j,l))) (some (Sum.inr (e,f,g,h,i,j,l)))
def bi1:∀k,ai2 N k=tmq (Ui N) 17 205 aK5 aK6 k:=lpI (λ_=>rfl) λk=>by kernel_rfl
def arU:ai:=(Ui N).aa N 0 17 aK5 aK6
def Uj:List aA×iw->Option Bool|(f,g,d,e,b,h,i,j)=>((MZ N g).bind λl=>cond (!l) (some true) (cond ((b.length:Int)>16) (some true) ((Ug N b).bind λm=>cond (!m) (some true) (cond (d<0) (some true) (cond (d>b.length) (some true) (cond (e<(-1)) (some true) (some (decide (e>=f.length))))))))).bind λn=>cond n false ((ai1 N N (f,b,(b.length:Int),0,g,d,e,b,h,i,j)).bind λo=>match o with|.inl p=>p|.inr a=>(ai2 N N (a.2.2.2.2.1,(a.2.2.2.2.1.length:Int),0,a.1,a.2.1,a.2.2.1,a.2.2.2.1,a.2.2.2.2.1,a.2.2.2.2.2.1,a.2.2.2.2.2.2)).bind λq=>match q with|.inl r=>r|.inr c=>((F35 N (c.2.2.2.2.2.1,(c.2.2.2.2.1.length:Int))).bind λs=>cond (s==0) ((F35 N (c.2.2.2.2.2.2,(c.2.2.2.2.1.length:Int))).bind λt=>some (t==0)) (some false)).bind λu=>u)
def aeH:ai:=(G35 N).put 205 aeG (Uj N)
def aj6:az bE (aeH N):=(K35 N).pu (arU N) (K35 N).o.l.l (funext λ⟨a,b,c,d,e,f,g,h⟩=>by rw[Uj,bi0 N N,bi1 N N];kernel_rfl)
def aeI:bH:=⟨[.agg (cv bp)],[tmf [.bool]],0,[(0,1,33,.bool)],[],[],[]⟩
def Uk:ai:=(aeH N).on aeI
def aK7:aX:=tm [(1,.P 0 1 0),(36,.I),(37,.I)] [] [(0,1,.box 0 (cv bp))] 1 [] 1
def aK8:aW:=[tmr [(2,.Q)],(.exit 0,tm [(1,.P 0 1 0)] [] [(0,1,.box 0 (cv bp))] 1 [] 1)]
def ax0:Nat->Int×Int×dz->Option (Bool⊕dz)|0,_=>none|k+1,(c,a,b,d,e)=>cond (a<c) ((Ud N (b,a)).bind λf=>cond (f.2.2!=0) (some (Sum.inl false)) (ax0 k (c,(au (a+1)),b,d,e))) (some (Sum.inr (b,d,e)))
def bi2:∀k,ax0 N k=tmq (Uk N) 6 159 aK7 aK8 k:=lpI (λ_=>rfl) λk=>by kernel_rfl
def Ul:ai:=(Uk N).aa N 0 6 aK7 aK8
def aK9:aX:=tm [(1,.P 0 1 0),(52,.c (.sl .str .aY)),(53,.I),(54,.I)] [] [(0,1,.box 0 (cv bp))] 1 [] 1
def aL0:aW:=[tmr [(2,.Q)],(.exit 2,tm [(1,.P 0 1 0)] [] [(0,1,.box 0 (cv bp))] 1 [] 1)]
def ax1(N:Nat):Nat->List (List UInt8)×Int×Int×dz->Option (Bool⊕dz)|0,_=>none|k+1,(b,c,a,d,e,f)=>cond (a<c) ((idx b a).bind λg=>cond ((g.length:Int)>64) (some (Sum.inl false)) (ax1 N k (b,c,(au (a+1)),d,e,f))) (some (Sum.inr (d,e,f)))
def bi3:∀k,ax1 N k=tmq (Ul N) 18 159 aK9 aL0 k:=lpI (λ_=>rfl) λk=>by kernel_rfl
def Um:ai:=(Ul N).aa N 0 18 aK9 aL0
def aL1:aX:=tm [(1,.P 0 1 0),(9,.c (.mp 0 62 1)),(64,.c (.sl dV .aY)),(65,.I),(66,.I)] [] [(0,1,.box 0 (cv bp)),(0,62,.set 1)] 1 [] 2
def aL2:aW:=[tmr [(2,.Q)],(.exit 4,tmz)]
def ax3:Nat->List Func×Int×Int×bU (List (List UInt8))->Option (Bool⊕Unit)|0,_=>none|k+1,(c,d,b,e,g,h,f)=>cond (b<d) ((idx c b).bind λa=>cond (hasB f a.1) (some (Sum.inl false)) ((Uj N (e,a.1,a.2.1,a.2.2.1,a.2.2.2.1,a.2.2.2.2.1,a.2.2.2.2.2.1,a.2.2.2.2.2.2)).bind λi=>cond (!i) (some (Sum.inl false)) (ax3 k (c,d,(au (b+1)),e,g,h,(tc f a.1))))) (some (Sum.inr ()))
def bi4:∀k,ax3 N k=tmq (Um N) 30 159 aL1 aL2 k:=lpI (λ_=>rfl) λk=>by kernel_rfl
def arV:ai:=(Um N).aa N 0 30 aL1 aL2
def Un:dz->Option Bool|(c,e,d)=>((F74 N c).bind λf=>cond (f !=0) (some true) (cond ((e.length:Int)>32) (some true) (cond ((d.length:Int)==0) (some true) (some (decide ((d.length:Int)>32)))))).bind λg=>cond g false ((ax0 N N ((c.length:Int),0,c,e,d)).bind λh=>match h with|.inl i=>i|.inr a=>(ax1 N N (a.2.1,(a.2.1.length:Int),0,a.1,a.2.1,a.2.2)).bind λj=>match j with|.inl l=>l|.inr b=>(ax3 N N (b.2.2,(b.2.2.length:Int),0,b.1,b.2.1,b.2.2,([]:List (List UInt8)))).bind λm=>match m with|.inl n=>n|.inr o=>true)
def aeJ:ai:=(aeH N).put 159 aeI (Un N)
def aj7:az bE (aeJ N):=(aj6 N).pu (arV N) (aj6 N).o.l.l.l (funext λ⟨a,b,c⟩=>by rw[Un,bi2 N N,bi3 N N,bi4 N N];kernel_rfl)
def aeK:bH:=⟨[.U],[tmf [.D .B]],1,[],[(0,4)],[(0,2,.B),(1014000,5,.B),(1018000,5,.B)],[]⟩
def Uo:ai:=(aeJ N).on aeK
def aL3:aX:=tm [(0,.U),(3,.P 0 3 0),(4,.fL 246 [.P 0 3 0])] [] [(0,3,.box 0 [.ref 0 1246006 1 .B]),(0,1246006,.row 1 .B)] 1 [] 2
def aL4:aW:=[(.exit 0,tm [(0,.U),(3,.P 0 3 0),(4,.fL 246 [.P 0 3 0])] [] [(0,3,.box 0 [.ref 0 1246006 1 .B]),(0,1246006,.row 1 .B)] 1 [] 2)]
def ax4(N:Nat):Nat->Int×tmI->Option (Int×tmI)|0,_=>none|k+1,(a,b)=>cond (a>=128) (aH (room (b.length+1) 1) (ax4 N k ((Int.fdiv a 128),(b++[(BD .u8 (Sb a) 128)])))) (a,b)
def bi5:∀k,ax4 N k=lp (Uo N) 0 100004 (tq 207) 4 aL3 aL4 k:=lpI (λ_=>rfl) λk=>by kernel_rfl
def arW:ai:=(Uo N).aa N 0 100004 aL3 aL4
def ig:Int->Option tmI|a=>cond (a>=128) (aH (room 1 1) ((ax4 N N ((Int.fdiv a 128),[(BD .u8 (Sb a) 128)])).bind λb=>aH (room (b.2.length+1) 1) (some (b.2++[(Sb b.1)])))) (aH (room 1 1) (some [(Sb a)]))
def aj8:ai:=(aeJ N).put 207 aeK (ig N)
def aj9:az bE (aj8 N):=(aj7 N).pu (arW N) (aj7 N).o.l (funext λa=>by rw[ig,bi5 N N];kernel_rfl)
def aka:bH:=sg [.I] [tmf [.D .B]]
def sk:Int->Option tmI|a=>(ig N (aae .u64 (aK ((aK a)*2)) (aK (Int.fdiv a 9223372036854775808)))).bind λb=>b
def akb:ai:=(aj8 N).put 208 aka (sk N)
def akc:az bE (akb N):=(aj9 N).pl (by kernel_rfl)
def akd:bH:=⟨[.agg (bq bt)],[tmf [.D .B],tmf [.I]],0,[(0,100017,39,.bool),(0,17,39,.bool)],[(0,9),(0,100009)],[(0,23,.B)],[]⟩
def Up:iF->Option (tmI×Int)|(a,m,n,o)=>(Ku N (a,m,n,o)).bind λp=>cond (p !=0) (some ([],p)) ((Ib N a).bind λb=>(Kt N (a,m,n,o)).bind λc=>cond (0>=b.2.2.2.2.2.2.2.2.2.2.2.2) (cond (1>=b.2.2.2.2.2.2.2.2.2.2.2.2) (cond (2>=b.2.2.2.2.2.2.2.2.2.2.2.2) (some ([a],0)) (cond (b.2.2.2.2.2.2.2.2.1<0) ((sk N c.2.2).bind λq=>aH (room (1+q.length) 1) (some (([a]++q),0))) ((ig N (aK c.2.2)).bind λr=>aH (room (1+r.length) 1) (some (([a]++r),0))))) (cond (b.2.2.2.2.1<0) ((sk N c.2.1).bind λf=>aH (room (1+f.length) 1) (cond (2>=b.2.2.2.2.2.2.2.2.2.2.2.2) (some (([a]++f),0)) (cond (b.2.2.2.2.2.2.2.2.1<0) ((sk N c.2.2).bind λs=>aH (room (([a]++f).length+s.length) 1) (some ((([a]++f)++s),0))) ((ig N (aK c.2.2)).bind λt=>aH (room (([a]++f).length+t.length) 1) (some ((([a]++f)++t),0)))))) ((ig N (aK c.2.1)).bind λg=>aH (room (1+g.length) 1) (cond (2>=b.2.2.2.2.2.2.2.2.2.2.2.2) (some (([a]++g),0)) (cond (b.2.2.2.2.2.2.2.2.1<0) ((sk N c.2.2).bind λu=>aH (room (([a]++g).length+u.length) 1) (some ((([a]++g)++u),0))) ((ig N (aK c.2.2)).bind λv=>aH (room (([a]++g).length+v.length) 1) (some ((([a]++g)++v),0)))))))) (cond (b.1<0) ((sk N c.1).bind λd=>aH (room (1+d.length) 1) (cond (1>=b.2.2.2.2.2.2.2.2.2.2.2.2) (cond (2>=b.2.2.2.2.2.2.2.2.2.2.2.2) (some (([a]++d),0)) (cond (b.2.2.2.2.2.2.2.2.1<0) ((sk N c.2.2).bind λw=>aH (room (([a]++d).length+w.length) 1) (some ((([a]++d)++w),0))) ((ig N (aK c.2.2)).bind λx=>aH (room (([a]++d).length+x.length) 1) (some ((([a]++d)++x),0))))) (cond (b.2.2.2.2.1<0) ((sk N c.2.1).bind λh=>aH (room (([a]++d).length+h.length) 1) (cond (2>=b.2.2.2.2.2.2.2.2.2.2.2.2) (some ((([a]++d)++h),0)) (cond (b.2.2.2.2.2.2.2.2.1<0) ((sk N c.2.2).bind λy=>aH (room ((([a]++d)++h).length+y.length) 1) (some (((([a]++d)++h)++y),0))) ((ig N (aK c.2.2)).bind λz=>aH (room ((([a]++d)++h).length+z.length) 1) (some (((([a]++d)++h)++z),0)))))) ((ig N (aK c.2.1)).bind λi=>aH (room (([a]++d).length+i.length) 1) (cond (2>=b.2.2.2.2.2.2.2.2.2.2.2.2) (some ((([a]++d)++i),0)) (cond (b.2.2.2.2.2.2.2.2.1<0) ((sk N c.2.2).bind λA=>aH (room ((([a]++d)++i).length+A.length) 1) (some (((([a]++d)++i)++A),0))) ((ig N (aK c.2.2)).bind λB=>aH (room ((([a]++d)++i).length+B.length) 1) (some (((([a]++d)++i)++B),0))))))))) ((ig N (aK c.1)).bind λe=>aH (room (1+e.length) 1) (cond (1>=b.2.2.2.2.2.2.2.2.2.2.2.2) (cond (2>=b.2.2.2.2.2.2.2.2.2.2.2.2) (some (([a]++e),0)) (cond (b.2.2.2.2.2.2.2.2.1<0) ((sk N c.2.2).bind λC=>aH (room (([a]++e).length+C.length) 1) (some ((([a]++e)++C),0))) ((ig N (aK c.2.2)).bind λD=>aH (room (([a]++e).length+D.length) 1) (some ((([a]++e)++D),0))))) (cond (b.2.2.2.2.1<0) ((sk N c.2.1).bind λj=>aH (room (([a]++e).length+j.length) 1) (cond (2>=b.2.2.2.2.2.2.2.2.2.2.2.2) (some ((([a]++e)++j),0)) (cond (b.2.2.2.2.2.2.2.2.1<0) ((sk N c.2.2).bind λE=>aH (room ((([a]++e)++j).length+E.length) 1) (some (((([a]++e)++j)++E),0))) ((ig N (aK c.2.2)).bind λG=>aH (room ((([a]++e)++j).length+G.length) 1) (some (((([a]++e)++j)++G),0)))))) ((ig N (aK c.2.1)).bind λl=>aH (room (([a]++e).length+l.length) 1) (cond (2>=b.2.2.2.2.2.2.2.2.2.2.2.2) (some ((([a]++e)++l),0)) (cond (b.2.2.2.2.2.2.2.2.1<0) ((sk N c.2.2).bind λH=>aH (room ((([a]++e)++l).length+H.length) 1) (some (((([a]++e)++l)++H),0))) ((ig N (aK c.2.2)).bind λI=>aH (room ((([a]++e)++l).length+I.length) 1) (some (((([a]++e)++l)++I),0)))))))))))
def aeL:ai:=(akb N).put 209 akd (Up N)
def ake:az bE (aeL N):=(akc N).pl (by kernel_rfl)
def aeM:bH:=sg [.c (.sl iE .aY),.I] [tmf [.D .B],tmf [.I]]
def Uq:ai:=(aeL N).on aeM
def aL5:aX:=tm [(7,.R 0 20 0 .B),(8,.I),(21,.c (.sl iE .aY)),(22,.I),(23,.I)] [] [(0,20,.row 0 .B)] 1 [] 1
def aL6:aW:=[(.exit 0,tm [(7,.R 0 20 0 .B)] [] [(0,20,.row 0 .B)] 1 [] 1)]
def ax5:Nat->Int×List e8×Int×Int×tmI->Option tmI|0,_=>none|k+1,(h,e,f,b,a)=>cond (b<f) ((idx e b).bind λc=>(ig N (aK (au (c.1-h)))).bind λd=>aH (room (a.length+d.length) 1) ((ig N c.2).bind λg=>aH (room ((a++d).length+g.length) 1) (ax5 k (c.1,e,f,(au (b+1)),((a++d)++g))))) a
def bi6:∀k,ax5 N k=tmq (Uq N) 9 210 aL5 aL6 k:=lpI (λ_=>rfl) λk=>by kernel_rfl
def arX:ai:=(Uq N).aa N 0 9 aL5 aL6
def Ur:List e8×Int->Option (tmI×Int)|(a,c)=>(F35 N (a,c)).bind λb=>cond (b !=0) (some ([],b)) ((ig N (aK (a.length:Int))).bind λd=>(ax5 N N (0,a,(a.length:Int),0,d)).bind λe=>some (e,0))
def aeN:ai:=(aeL N).put 210 aeM (Ur N)
def akf:az bE (aeN N):=(ake N).pu (arX N) (ake N).o.l (funext λ⟨a,b⟩=>by rw[Ur,bi6 N N];kernel_rfl)
def aeO:bH:=⟨[.agg (cv bp)],[tmf [.D .B],tmf [.I]],0,[(1015000,12,29,.bool)],[],[(1015000,23,.B),(1042000,70,(.sl iE))],[]⟩
def Us:ai:=(aeN N).on aeO
def aL7:aX:=tm [(0,.P 0 4 0),(10,.D cS),(11,.I),(12,.I)] [[(0,.P 0 4 0)],[(1,.P 0 1 1),(4,.P 0 4 0)]] [(0,4,.box 0 [.A .B 2]),(0,1,.box 1 (cv bp))] 3 [2] 3
def aL8:aW:=[(.exit 0,tm [] [[(0,.P 0 4 0)],[(1,.P 0 1 1),(4,.P 0 4 0)]] [(0,4,.box 0 [.A .B 2]),(0,1,.box 1 (cv bp))] 3 [2] 3)]
def ai9:Nat->List Field×Int×Int×tmI×dz->Option (tmI×dz)|0,_=>none|k+1,(e,f,d,a,g,h,i)=>cond (d<f) ((idx e d).bind λb=>(ig N (aK (b.1.length:Int))).bind λc=>aH (room (a.length+c.length) 1) (aH (room ((a++c).length+(bP b.1).length) 1) ((ig N (aK b.2)).bind λj=>aH (room (((a++c)++(bP b.1)).length+j.length) 1) (ai9 k (e,f,(au (d+1)),(((a++c)++(bP b.1))++j),g,h,i))))) (a,g,h,i)
def bi7:∀k,ai9 N k=lp (Us N) 1015001051000 3 (tq 206) 3 aL7 aL8 k:=lpI (λ_=>rfl) λk=>by kernel_rfl
def Ut:ai:=(Us N).aa N 1015001051000 3 aL7 aL8
def aL9:aX:=tm [(0,.P 0 4 0),(10,.c (.sl aR .aY)),(11,.I),(12,.I)] [[(1,.P 0 1 1),(4,.P 0 4 0)]] [(0,4,.box 0 [.A .B 2]),(0,1,.box 1 (cv bp))] 2 [2] 3
def aM0:aW:=[(.exit 0,tm [] [[(1,.P 0 1 0),(4,.P 0 4 1)]] [(0,1,.box 0 (cv bp)),(0,4,.box 1 [.A .B 2])] 2 [2] 3)]
def H1:Nat->List aA×Int×Int×tmI×dz->Option (bU tmI)|0,_=>none|k+1,(d,e,c,b,f,g,h)=>cond (c<e) ((idx d c).bind λa=>aH (room (b.length+1) 1) ((cond (a.1==4) (some true) (some (a.1==7))).bind λo=>cond o ((ig N (aK a.2.1)).bind λl=>aH (room ((b++[a.1]).length+l.length) 1) (H1 k (d,e,(au (c+1)),((b++[a.1])++l),f,g,h))) (cond (a.1==6) ((ig N (aK a.2.1)).bind λj=>aH (room ((b++[a.1]).length+j.length) 1) ((ig N (aK a.2.2.1)).bind λm=>aH (room (((b++[a.1])++j).length+m.length) 1) (H1 k (d,e,(au (c+1)),(((b++[a.1])++j)++m),f,g,h)))) (cond (a.1==5) ((ig N (aK (a.2.2.2.length:Int))).bind λn=>aH (room ((b++[a.1]).length+n.length) 1) ((ai9 N N (a.2.2.2,(a.2.2.2.length:Int),0,((b++[a.1])++n),f,g,h)).bind λi=>H1 k (d,e,(au (c+1)),i.1,i.2.1,i.2.2.1,i.2.2.2))) (H1 k (d,e,(au (c+1)),(b++[a.1]),f,g,h)))))) (f,g,h,b)
def aM1:∀k,H1 N k=lp (Ut N) 1015000 3 (tq 160) 3 aL9 aM0 k|0=>rfl|k+1=>funext λ⟨a,b,c,d,e,f,g⟩=>by rw[H1,aM1 k,bi7 N N];kernel_rfl
def Uu:ai:=(Ut N).aa N 1015000 3 aL9 aM0
def aM2:aX:=tm [(1,.P 0 1 0),(4,.P 0 4 1),(21,.c (.sl .str .aY)),(22,.I),(23,.I)] [] [(0,1,.box 0 (cv bp)),(0,4,.box 1 [.A .B 2])] 1 [2] 3
def aM3:aW:=[(.exit 0,tm [(1,.P 0 1 0),(4,.P 0 4 1)] [] [(0,1,.box 0 (cv bp)),(0,4,.box 1 [.A .B 2])] 1 [2] 3)]
def aj5:Nat->List (List UInt8)×Int×Int×bU tmI->Option (bU tmI)|0,_=>none|k+1,(e,f,b,g,h,i,a)=>cond (b<f) ((idx e b).bind λc=>(ig N (aK (c.length:Int))).bind λd=>aH (room (a.length+d.length) 1) (aH (room ((a++d).length+(bP c).length) 1) (aj5 k (e,f,(au (b+1)),g,h,i,((a++d)++(bP c)))))) (g,h,i,a)
def bi8:∀k,aj5 N k=tmq (Uu N) 9 119 aM2 aM3 k:=lpI (λ_=>rfl) λk=>by kernel_rfl
def Uv:ai:=(Uu N).aa N 0 9 aM2 aM3
def aM4:aX:=tm [(0,.P 0 4 0),(10,.D cS),(11,.I),(12,.I)] [[(0,.P 0 4 0),(3,.P 1 3 1)],[(4,.P 0 4 0)]] [(0,4,.box 0 [.A .B 2]),(1,3,.box 1 (bq dV))] 3 [2] 3
def aM5:aW:=[(.exit 0,tm [] [[(0,.P 0 4 0),(3,.P 1 3 1)],[(4,.P 0 4 0)]] [(0,4,.box 0 [.A .B 2]),(1,3,.box 1 (bq dV))] 3 [2] 3)]
def al6:Nat->List Field×Int×Int×tmI×iw->Option (tmI×iw)|0,_=>none|k+1,(e,f,d,a,g,h,i,j,l,m,n)=>cond (d<f) ((idx e d).bind λb=>(ig N (aK (b.1.length:Int))).bind λc=>aH (room (a.length+c.length) 1) (aH (room ((a++c).length+(bP b.1).length) 1) ((ig N (aK b.2)).bind λo=>aH (room (((a++c)++(bP b.1)).length+o.length) 1) (al6 k (e,f,(au (d+1)),(((a++c)++(bP b.1))++o),g,h,i,j,l,m,n))))) (a,g,h,i,j,l,m,n)
def bi9:∀k,al6 N k=lp (Uv N) 1042001035000 3 (tq 206) 3 aM4 aM5 k:=lpI (λ_=>rfl) λk=>by kernel_rfl
def Uw:ai:=(Uv N).aa N 1042001035000 3 aM4 aM5
def aM6:aX:=tm [(0,.P 0 4 0),(3,.P 1 3 1),(42,.D bt),(43,.I),(44,.I)] [[(4,.P 0 4 0)]] [(0,4,.box 0 [.A .B 2]),(1,3,.box 1 (bq dV))] 2 [2] 3
def aM7:aW:=[(.ret,tm [(4,.I)] [[(4,.P 0 4 0)]] [(0,4,.box 0 [.A .B 1])] 2 [1] 2),(.exit 0,tm [(0,.P 0 4 0),(3,.P 1 3 1)] [[(4,.P 0 4 0)]] [(0,4,.box 0 [.A .B 2]),(1,3,.box 1 (bq dV))] 2 [2] 3)]
def an0:Nat->List Instr×Int×Int×tmI×iw->Option ((Int×tmI)⊕(tmI×iw))|0,_=>none|k+1,(e,f,d,a,g,h,i,j,l,m,n)=>cond (d<f) ((idx e d).bind λb=>(Up N (b.1,b.2.1,b.2.2.1,b.2.2.2)).bind λc=>cond (c.2!=0) (some (Sum.inl (c.2,a))) (aH (room (a.length+c.1.length) 1) (an0 k (e,f,(au (d+1)),(a++c.1),g,h,i,j,l,m,n)))) (some (Sum.inr (a,g,h,i,j,l,m,n)))
def bj0:∀k,an0 N k=lp (Uw N) 1042000 8 (tq 163) 8 aM6 aM7 k:=lpI (λ_=>rfl) λk=>by kernel_rfl
def Ux:ai:=(Uw N).aa N 1042000 8 aM6 aM7
def aM8:aX:=tm [(0,.P 0 4 0),(3,.P 1 3 1),(70,.c (.sl (.sl iE) .full)),(71,.I),(72,.I)] [[(4,.P 0 4 0)]] [(0,4,.box 0 [.A .B 2]),(1,3,.box 1 (bq dV))] 2 [2] 3
def aM9:aW:=[(.ret,tm [(4,.I)] [[(4,.P 0 4 0)]] [(0,4,.box 0 [.A .B 1])] 2 [1] 2),(.exit 2,tm [] [[(4,.P 0 4 0)]] [(0,4,.box 0 [.A .B 1])] 2 [1] 2)]
def LT:Nat->List (List e8)×Int×Int×tmI×iw->Option ((Int×tmI)⊕tmI)|0,_=>none|k+1,(d,e,c,a,g,h,i,j,f,l,m)=>cond (c<e) ((idx d c).bind λn=>(Ur N (n,(f.length:Int))).bind λb=>cond (b.2!=0) (some (Sum.inl (b.2,a))) (aH (room (a.length+b.1.length) 1) (LT k (d,e,(au (c+1)),(a++b.1),g,h,i,j,f,l,m)))) (some (Sum.inr a))
def bj1:∀k,LT N k=lp (Ux N) 1042000 21 (tq 163) 21 aM8 aM9 k:=lpI (λ_=>rfl) λk=>by kernel_rfl
def Uy:ai:=(Ux N).aa N 1042000 21 aM8 aM9
def aN0:aX:=tm [(4,.P 0 4 0),(35,.c (.sl dV .aY)),(36,.I),(37,.I)] [] [(0,4,.box 0 [.A .B 1])] 1 [1] 2
def aN1:aW:=[tmr [(2,.N),(3,.I)],(.exit 2,tm [(4,.P 0 4 0)] [] [(0,4,.box 0 [.A .B 1])] 1 [1] 2)]
def H3:Nat->List Func×Int×Int×tmI->Option (Int⊕tmI)|0,_=>none|k+1,(g,h,f,d)=>cond (f<h) ((idx g f).bind λa=>(ig N (aK (a.1.length:Int))).bind λe=>aH (room (d.length+e.length) 1) (aH (room ((d++e).length+(bP a.1).length) 1) ((ig N (aK a.2.1)).bind λi=>aH (room (((d++e)++(bP a.1)).length+i.length) 1) ((sk N a.2.2.1).bind λj=>aH (room ((((d++e)++(bP a.1))++i).length+j.length) 1) ((ig N (aK (a.2.2.2.1.length:Int))).bind λn=>aH (room (((((d++e)++(bP a.1))++i)++j).length+n.length) 1) ((al6 N N (a.2.2.2.1,(a.2.2.2.1.length:Int),0,(((((d++e)++(bP a.1))++i)++j)++n),a.1,a.2.1,a.2.2.1,a.2.2.2.1,a.2.2.2.2.1,a.2.2.2.2.2.1,a.2.2.2.2.2.2)).bind λb=>(ig N (aK (b.2.2.2.2.2.1.length:Int))).bind λo=>aH (room (b.1.length+o.length) 1) ((an0 N N (b.2.2.2.2.2.1,(b.2.2.2.2.2.1.length:Int),0,(b.1++o),b.2.1,b.2.2.1,b.2.2.2.1,b.2.2.2.2.1,b.2.2.2.2.2.1,b.2.2.2.2.2.2.1,b.2.2.2.2.2.2.2)).bind λp=>match p with|.inl l=>cond (l.1!=0) (some (Sum.inl l.1)) (H3 k (g,h,(au (f+1)),l.2))|.inr c=>(LT N N ([c.2.2.2.2.2.2.1,c.2.2.2.2.2.2.2],2,0,c.1,c.2.1,c.2.2.1,c.2.2.2.1,c.2.2.2.2.1,c.2.2.2.2.2.1,c.2.2.2.2.2.2.1,c.2.2.2.2.2.2.2)).bind λq=>match q with|.inl m=>cond (m.1!=0) (some (Sum.inl m.1)) (H3 k (g,h,(au (f+1)),m.2))|.inr r=>H3 k (g,h,(au (f+1)),r)))))))) (some (Sum.inr d))
def aN2:∀k,H3 N k=tmq (Uy N) 19 119 aN0 aN1 k|0=>rfl|k+1=>funext λ⟨a,b,c,d⟩=>by rw[H3,aN2 k,bi9 N N,bj0 N N,bj1 N N];kernel_rfl
def arY:ai:=(Uy N).aa N 0 19 aN0 aN1
def Uz:dz->Option (tmI×Int)|(b,d,e)=>(Un N (b,d,e)).bind λj=>cond (!j) (some ([],8)) ((ig N (aK (b.length:Int))).bind λf=>aH (room f.length 1) ((H1 N N (b,(b.length:Int),0,f,b,d,e)).bind λa=>(ig N (aK (a.2.1.length:Int))).bind λg=>aH (room (a.2.2.2.length+g.length) 1) ((aj5 N N (a.2.1,(a.2.1.length:Int),0,a.1,a.2.1,a.2.2.1,(a.2.2.2++g))).bind λc=>(ig N (aK (c.2.2.1.length:Int))).bind λh=>aH (room (c.2.2.2.length+h.length) 1) ((H3 N N (c.2.2.1,(c.2.2.1.length:Int),0,(c.2.2.2++h))).bind λl=>match l with|.inl m=>some ([],m)|.inr i=>cond ((i.length:Int)>20000) (some ([],4)) (some (i,0))))))
def akg:ai:=(aeN N).put 119 aeO (Uz N)
def akh:az bE (akg N):=(akf N).pu (arY N) (akf N).o.l.l.l.l.l.l.l (funext λ⟨a,b,c⟩=>by rw[Uz,aM1 N N,bi8 N N,aN2 N N];kernel_rfl)
def s71:bH:=sg [.agg (cv bp)] [tmf [.I]]
def F71:dz->Option Int|(a,b,c)=>(Uz N (a,b,c)).bind λd=>d.2
def G71:ai:=(akg N).put 71 s71 (F71 N)
def K71:az bE (G71 N):=(akh N).pl (by kernel_rfl)
def aeQ:bH:=⟨[.c (.sl bt .aY)],[tmf [.I]],0,[(0,15,51,.bool)],[],[],[]⟩
def UA:ai:=(G71 N).on aeQ
def aN3:aX:=tmn [(3,.I),(23,.c (.sl bt .aY)),(24,.I),(25,.I)]
def aN4:aW:=[tmr [(2,.I)],tmx]
def ax6:Nat->Int×List Instr×Int×Int->Option (Int⊕Unit)|0,_=>none|k+1,(b,d,e,c)=>cond (c<e) ((idx d c).bind λa=>(Ku N (a.1,a.2.1,a.2.2.1,a.2.2.2)).bind λf=>cond (f !=0) (some (Sum.inl 8)) ((cond (a.1==22) (cond (a.2.1>=b) (some true) (cond (a.1==23) (some (decide (a.2.2.1>=b))) (some false))) (cond (a.1==23) (some (decide (a.2.2.1>=b))) (some false))).bind λg=>cond g (some (Sum.inl 8)) (ax6 k (b,d,e,(au (c+1)))))) (some (Sum.inr ()))
def bj2:∀k,ax6 N k=tmq (UA N) 7 182 aN3 aN4 k:=lpI (λ_=>rfl) λk=>by kernel_rfl
def ar0:ai:=(UA N).aa N 0 7 aN3 aN4
def M0:List Instr->Option Int|a=>cond ((a.length:Int)==0) (some 8) (cond ((a.length:Int)>200) (some 8) ((idx a (au ((a.length:Int)-1))).bind λb=>cond (!(b.1==34&&(b.2.1==(-1)&&(b.2.2.1==0&&(b.2.2.2==0&&true))))) (some 8) ((ax6 N N ((a.length:Int),a,(a.length:Int),0)).bind λc=>match c with|.inl d=>d|.inr e=>some 0)))
def aki:ai:=(G71 N).put 182 aeQ (M0 N)
def akj:az bE (aki N):=(K71 N).pu (ar0 N) (K71 N).o.l (funext λa=>by rw[M0,bj2 N N];kernel_rfl)
def akk:bH:=⟨[.c (.sl bt .aY),.I],[tmf [.D .I]],0,[(0,7,13,.bool),(0,5,13,.bool)],[],[(0,21,.I),(0,28,.I),(0,35,.I)],[]⟩
def M1(N:Nat):List Instr×Int->Option tmI|(c,b)=>(idx c b).bind λa=>(cond (a.1==34) (some true) ((cond (a.1==28) (some true) (some (a.1==30))).bind λd=>some d)).bind λe=>cond e (some []) (cond (a.1==22) (some [a.2.1]) (cond (a.1==23) (aH (decide ([(au (b+1)),a.2.2.1].length<4611686018427387904)) (aH (decide ((j7 [(au (b+1)),a.2.2.1]).length<4611686018427387904)) (some (j8 (j7 [(au (b+1)),a.2.2.1]))))) (some [(au (b+1))])))
def aeR:ai:=(aki N).put 236 akk (M1 N)
def akl:az bE (aeR N):=(akj N).pl (by kernel_rfl)
def aeS:bH:=⟨[.c (.sl bt .aY)],[tmf [.D .bool],tmf [.I]],0,[],[],[(0,13,.bool),(1016000,10,.I),(1016000,39,.I)],[]⟩
def UB:ai:=(aeR N).on aeS
def aN5:aX:=tm [(0,.c (.sl bt .aY)),(1,.fL 184 [.P 0 5 0]),(4,.R 1 10 1 .I),(5,.I),(27,.D .I),(28,.I),(29,.I)] [[(5,.P 0 5 0)]] [(0,5,.box 0 [.ref 0 13 2 .bool]),(0,13,.row 2 .bool),(1,10,.row 1 .I)] 2 [] 3
def aN6:aW:=[(.exit 2,tm [(0,.c (.sl bt .aY)),(1,.fL 184 [.P 0 5 0]),(4,.R 1 10 1 .I)] [[(5,.P 0 5 0)]] [(0,5,.box 0 [.ref 0 13 2 .bool]),(0,13,.row 2 .bool),(1,10,.row 1 .I)] 2 [] 3)]
def Ps(N:Nat):Nat->List Instr×Int×tmI×Int×Int×List Bool×tmI->Option (List Instr×List Bool×tmI)|0,_=>none|k+1,(e,h,f,g,c,a,d)=>cond (c<g) ((idx f c).bind λb=>aH (fM b a.length) ((a[b.toNat]?).bind λi=>aH (fM b a.length) ((a[b.toNat]?).bind λj=>cond (!i) (aH (room (d.length+1) 8) (Ps N k (e,h,f,g,(au (c+1)),(a.set b.toNat true),(d++[b])))) (Ps N k (e,h,f,g,(au (c+1)),(a.set b.toNat true),d))))) (e,a,d)
def bj3:∀k,Ps N k=lp (UB N) 1016000 11 (tq 183) 11 aN5 aN6 k:=lpI (λ_=>rfl) λk=>by kernel_rfl
def UC:ai:=(UB N).aa N 1016000 11 aN5 aN6
def aN7:aX:=tm [(0,.c (.sl bt .aY)),(1,.fL 184 [.P 0 5 0]),(4,.R 1 10 1 .I)] [[(5,.P 0 5 0)]] [(0,5,.box 0 [.ref 0 13 2 .bool]),(0,13,.row 2 .bool),(1,10,.row 1 .I)] 2 [] 3
def aN8:aW:=[(.exit 0,tm [] [[(5,.P 0 5 0)]] [(0,5,.box 0 [.ref 0 13 1 .bool]),(0,13,.row 1 .bool)] 2 [] 2)]
def PH:Nat->List Instr×List Bool×tmI->Option (List Bool)|0,_=>none|k+1,(c,d,a)=>cond ((a.length:Int)>0) (aH (fM (au ((a.length:Int)-1)) a.length) ((a[(Int.toNat (au ((a.length:Int)-1)))]?).bind λe=>aH (decide (0<=(au ((a.length:Int)-1)))) (aH (decide ((Int.toNat (au ((a.length:Int)-1)))<=a.length)) ((M1 N (c,e)).bind λf=>(Ps N N (c,e,f,(f.length:Int),0,d,(a.take (Int.toNat (au ((a.length:Int)-1)))))).bind λb=>PH k (b.1,b.2.1,b.2.2))))) d
def aN9:∀k,PH N k=lp (UC N) 1016000 3 (tq 183) 3 aN7 aN8 k|0=>rfl|k+1=>funext λ⟨a,b,c⟩=>by rw[PH,aN9 k,bj3 N N];kernel_rfl
def ar1:ai:=(UC N).aa N 1016000 3 aN7 aN8
def UD:List Instr->Option (List Bool×Int)|a=>(M0 N a).bind λc=>cond (c !=0) (some ([],c)) (aH (decide (0<=(a.length:Int))) (aH (decide (0<=(a.length:Int))) (aH (decide ((Int.toNat (a.length:Int))<=(Int.toNat (a.length:Int)))&&room (Int.toNat (a.length:Int)) 1) (aH (fM 0 (List.replicate (Int.toNat (a.length:Int)) false).length) (((List.replicate (Int.toNat (a.length:Int)) false)[(Int.toNat 0)]?).bind λd=>aH (fM 0 (List.replicate (Int.toNat (a.length:Int)) false).length) (((List.replicate (Int.toNat (a.length:Int)) false)[(Int.toNat 0)]?).bind λe=>(PH N N (a,((List.replicate (Int.toNat (a.length:Int)) false).set (Int.toNat 0) true),[0])).bind λb=>aH (fM (au ((b.length:Int)-1)) b.length) ((b[(Int.toNat (au ((b.length:Int)-1)))]?).bind λf=>some ((b.set (Int.toNat (au ((b.length:Int)-1))) true),0))))))))
def akm:ai:=(aeR N).put 150 aeS (UD N)
def akn:az bE (akm N):=(akl N).pu (ar1 N) (akl N).o.l.l (funext λa=>by rw[UD,aN9 N N];kernel_rfl)
def ako:bH:=⟨[.agg (bq bt)],[tmf [.D .I],tmf [.D .I],tmf [.I]],1,[(0,13,34,.bool),(0,16,46,.bool),(0,100013,34,.bool),(0,100016,46,.bool)],[(0,8),(0,100008)],[(0,2,.I),(0,37,.I),(0,49,.I)],[]⟩
def M3:iF->Option (tmI×tmI×Int)|(c,d,e,f)=>(Ku N (c,d,e,f)).bind λg=>cond (g !=0) (some (([]:tmI),[],g)) ((Ib N c).bind λb=>(Kt N (c,d,e,f)).bind λa=>(cond b.2.2.1 (some (decide (a.1>=0))) (some false)).bind λh=>cond h (aH (room (0+1) 8) ((cond b.2.2.2.1 (some (decide (a.1>=0))) (some false)).bind λi=>cond i (aH (room 1 8) ((cond b.2.2.2.2.2.2.1 (some (decide (a.2.1>=0))) (some false)).bind λj=>cond j (aH (room (1+1) 8) ((cond b.2.2.2.2.2.2.2.1 (some (decide (a.2.1>=0))) (some false)).bind λl=>cond l (aH (room (1+1) 8) ((cond b.2.2.2.2.2.2.2.2.2.2.1 (some (decide (a.2.2>=0))) (some false)).bind λm=>cond m (aH (room (2+1) 8) ((cond b.2.2.2.2.2.2.2.2.2.2.2.1 (some (decide (a.2.2>=0))) (some false)).bind λn=>cond n (aH (room (2+1) 8) (some ((((([]:tmI)++[a.1])++[a.2.1])++[a.2.2]),(([a.1]++[a.2.1])++[a.2.2]),0))) (some ((((([]:tmI)++[a.1])++[a.2.1])++[a.2.2]),([a.1]++[a.2.1]),0)))) ((cond b.2.2.2.2.2.2.2.2.2.2.2.1 (some (decide (a.2.2>=0))) (some false)).bind λo=>cond o (aH (room (2+1) 8) (some (((([]:tmI)++[a.1])++[a.2.1]),(([a.1]++[a.2.1])++[a.2.2]),0))) (some (((([]:tmI)++[a.1])++[a.2.1]),([a.1]++[a.2.1]),0))))) ((cond b.2.2.2.2.2.2.2.2.2.2.1 (some (decide (a.2.2>=0))) (some false)).bind λp=>cond p (aH (room (2+1) 8) ((cond b.2.2.2.2.2.2.2.2.2.2.2.1 (some (decide (a.2.2>=0))) (some false)).bind λq=>cond q (aH (room (1+1) 8) (some ((((([]:tmI)++[a.1])++[a.2.1])++[a.2.2]),([a.1]++[a.2.2]),0))) (some ((((([]:tmI)++[a.1])++[a.2.1])++[a.2.2]),[a.1],0)))) ((cond b.2.2.2.2.2.2.2.2.2.2.2.1 (some (decide (a.2.2>=0))) (some false)).bind λr=>cond r (aH (room (1+1) 8) (some (((([]:tmI)++[a.1])++[a.2.1]),([a.1]++[a.2.2]),0))) (some (((([]:tmI)++[a.1])++[a.2.1]),[a.1],0)))))) ((cond b.2.2.2.2.2.2.2.1 (some (decide (a.2.1>=0))) (some false)).bind λs=>cond s (aH (room (1+1) 8) ((cond b.2.2.2.2.2.2.2.2.2.2.1 (some (decide (a.2.2>=0))) (some false)).bind λt=>cond t (aH (room (1+1) 8) ((cond b.2.2.2.2.2.2.2.2.2.2.2.1 (some (decide (a.2.2>=0))) (some false)).bind λu=>cond u (aH (room (2+1) 8) (some (((([]:tmI)++[a.1])++[a.2.2]),(([a.1]++[a.2.1])++[a.2.2]),0))) (some (((([]:tmI)++[a.1])++[a.2.2]),([a.1]++[a.2.1]),0)))) ((cond b.2.2.2.2.2.2.2.2.2.2.2.1 (some (decide (a.2.2>=0))) (some false)).bind λv=>cond v (aH (room (2+1) 8) (some ((([]:tmI)++[a.1]),(([a.1]++[a.2.1])++[a.2.2]),0))) (some ((([]:tmI)++[a.1]),([a.1]++[a.2.1]),0))))) ((cond b.2.2.2.2.2.2.2.2.2.2.1 (some (decide (a.2.2>=0))) (some false)).bind λw=>cond w (aH (room (1+1) 8) ((cond b.2.2.2.2.2.2.2.2.2.2.2.1 (some (decide (a.2.2>=0))) (some false)).bind λx=>cond x (aH (room (1+1) 8) (some (((([]:tmI)++[a.1])++[a.2.2]),([a.1]++[a.2.2]),0))) (some (((([]:tmI)++[a.1])++[a.2.2]),[a.1],0)))) ((cond b.2.2.2.2.2.2.2.2.2.2.2.1 (some (decide (a.2.2>=0))) (some false)).bind λy=>cond y (aH (room (1+1) 8) (some ((([]:tmI)++[a.1]),([a.1]++[a.2.2]),0))) (some ((([]:tmI)++[a.1]),[a.1],0))))))) ((cond b.2.2.2.2.2.2.1 (some (decide (a.2.1>=0))) (some false)).bind λz=>cond z (aH (room (1+1) 8) ((cond b.2.2.2.2.2.2.2.1 (some (decide (a.2.1>=0))) (some false)).bind λA=>cond A (aH (room 1 8) ((cond b.2.2.2.2.2.2.2.2.2.2.1 (some (decide (a.2.2>=0))) (some false)).bind λB=>cond B (aH (room (2+1) 8) ((cond b.2.2.2.2.2.2.2.2.2.2.2.1 (some (decide (a.2.2>=0))) (some false)).bind λC=>cond C (aH (room (1+1) 8) (some ((((([]:tmI)++[a.1])++[a.2.1])++[a.2.2]),([a.2.1]++[a.2.2]),0))) (some ((((([]:tmI)++[a.1])++[a.2.1])++[a.2.2]),[a.2.1],0)))) ((cond b.2.2.2.2.2.2.2.2.2.2.2.1 (some (decide (a.2.2>=0))) (some false)).bind λD=>cond D (aH (room (1+1) 8) (some (((([]:tmI)++[a.1])++[a.2.1]),([a.2.1]++[a.2.2]),0))) (some (((([]:tmI)++[a.1])++[a.2.1]),[a.2.1],0))))) ((cond b.2.2.2.2.2.2.2.2.2.2.1 (some (decide (a.2.2>=0))) (some false)).bind λE=>cond E (aH (room (2+1) 8) ((cond b.2.2.2.2.2.2.2.2.2.2.2.1 (some (decide (a.2.2>=0))) (some false)).bind λG=>cond G (aH (room 1 8) (some ((((([]:tmI)++[a.1])++[a.2.1])++[a.2.2]),[a.2.2],0))) (some ((((([]:tmI)++[a.1])++[a.2.1])++[a.2.2]),[],0)))) ((cond b.2.2.2.2.2.2.2.2.2.2.2.1 (some (decide (a.2.2>=0))) (some false)).bind λH=>cond H (aH (room 1 8) (some (((([]:tmI)++[a.1])++[a.2.1]),[a.2.2],0))) (some (((([]:tmI)++[a.1])++[a.2.1]),[],0)))))) ((cond b.2.2.2.2.2.2.2.1 (some (decide (a.2.1>=0))) (some false)).bind λI=>cond I (aH (room 1 8) ((cond b.2.2.2.2.2.2.2.2.2.2.1 (some (decide (a.2.2>=0))) (some false)).bind λJ=>cond J (aH (room (1+1) 8) ((cond b.2.2.2.2.2.2.2.2.2.2.2.1 (some (decide (a.2.2>=0))) (some false)).bind λK=>cond K (aH (room (1+1) 8) (some (((([]:tmI)++[a.1])++[a.2.2]),([a.2.1]++[a.2.2]),0))) (some (((([]:tmI)++[a.1])++[a.2.2]),[a.2.1],0)))) ((cond b.2.2.2.2.2.2.2.2.2.2.2.1 (some (decide (a.2.2>=0))) (some false)).bind λL=>cond L (aH (room (1+1) 8) (some ((([]:tmI)++[a.1]),([a.2.1]++[a.2.2]),0))) (some ((([]:tmI)++[a.1]),[a.2.1],0))))) ((cond b.2.2.2.2.2.2.2.2.2.2.1 (some (decide (a.2.2>=0))) (some false)).bind λM=>cond M (aH (room (1+1) 8) ((cond b.2.2.2.2.2.2.2.2.2.2.2.1 (some (decide (a.2.2>=0))) (some false)).bind λO=>cond O (aH (room 1 8) (some (((([]:tmI)++[a.1])++[a.2.2]),[a.2.2],0))) (some (((([]:tmI)++[a.1])++[a.2.2]),[],0)))) ((cond b.2.2.2.2.2.2.2.2.2.2.2.1 (some (decide (a.2.2>=0))) (some false)).bind λP=>cond P (aH (room 1 8) (some ((([]:tmI)++[a.1]),[a.2.2],0))) (some ((([]:tmI)++[a.1]),[],0)))))))) ((cond b.2.2.2.1 (some (decide (a.1>=0))) (some false)).bind λQ=>cond Q (aH (room 1 8) ((cond b.2.2.2.2.2.2.1 (some (decide (a.2.1>=0))) (some false)).bind λR=>cond R (aH (room (0+1) 8) ((cond b.2.2.2.2.2.2.2.1 (some (decide (a.2.1>=0))) (some false)).bind λS=>cond S (aH (room (1+1) 8) ((cond b.2.2.2.2.2.2.2.2.2.2.1 (some (decide (a.2.2>=0))) (some false)).bind λT=>cond T (aH (room (1+1) 8) ((cond b.2.2.2.2.2.2.2.2.2.2.2.1 (some (decide (a.2.2>=0))) (some false)).bind λU=>cond U (aH (room (2+1) 8) (some (((([]:tmI)++[a.2.1])++[a.2.2]),(([a.1]++[a.2.1])++[a.2.2]),0))) (some (((([]:tmI)++[a.2.1])++[a.2.2]),([a.1]++[a.2.1]),0)))) ((cond b.2.2.2.2.2.2.2.2.2.2.2.1 (some (decide (a.2.2>=0))) (some false)).bind λV=>cond V (aH (room (2+1) 8) (some ((([]:tmI)++[a.2.1]),(([a.1]++[a.2.1])++[a.2.2]),0))) (some ((([]:tmI)++[a.2.1]),([a.1]++[a.2.1]),0))))) ((cond b.2.2.2.2.2.2.2.2.2.2.1 (some (decide (a.2.2>=0))) (some false)).bind λW=>cond W (aH (room (1+1) 8) ((cond b.2.2.2.2.2.2.2.2.2.2.2.1 (some (decide (a.2.2>=0))) (some false)).bind λX=>cond X (aH (room (1+1) 8) (some (((([]:tmI)++[a.2.1])++[a.2.2]),([a.1]++[a.2.2]),0))) (some (((([]:tmI)++[a.2.1])++[a.2.2]),[a.1],0)))) ((cond b.2.2.2.2.2.2.2.2.2.2.2.1 (some (decide (a.2.2>=0))) (some false)).bind λY=>cond Y (aH (room (1+1) 8) (some ((([]:tmI)++[a.2.1]),([a.1]++[a.2.2]),0))) (some ((([]:tmI)++[a.2.1]),[a.1],0)))))) ((cond b.2.2.2.2.2.2.2.1 (some (decide (a.2.1>=0))) (some false)).bind λZ=>cond Z (aH (room (1+1) 8) ((cond b.2.2.2.2.2.2.2.2.2.2.1 (some (decide (a.2.2>=0))) (some false)).bind λa0=>cond a0 (aH (room (0+1) 8) ((cond b.2.2.2.2.2.2.2.2.2.2.2.1 (some (decide (a.2.2>=0))) (some false)).bind λa1=>cond a1 (aH (room (2+1) 8) (some ((([]:tmI)++[a.2.2]),(([a.1]++[a.2.1])++[a.2.2]),0))) (some ((([]:tmI)++[a.2.2]),([a.1]++[a.2.1]),0)))) ((cond b.2.2.2.2.2.2.2.2.2.2.2.1 (some (decide (a.2.2>=0))) (some false)).bind λa2=>cond a2 (aH (room (2+1) 8) (some (([]:tmI),(([a.1]++[a.2.1])++[a.2.2]),0))) (some (([]:tmI),([a.1]++[a.2.1]),0))))) ((cond b.2.2.2.2.2.2.2.2.2.2.1 (some (decide (a.2.2>=0))) (some false)).bind λa3=>cond a3 (aH (room (0+1) 8) ((cond b.2.2.2.2.2.2.2.2.2.2.2.1 (some (decide (a.2.2>=0))) (some false)).bind λa4=>cond a4 (aH (room (1+1) 8) (some ((([]:tmI)++[a.2.2]),([a.1]++[a.2.2]),0))) (some ((([]:tmI)++[a.2.2]),[a.1],0)))) ((cond b.2.2.2.2.2.2.2.2.2.2.2.1 (some (decide (a.2.2>=0))) (some false)).bind λa5=>cond a5 (aH (room (1+1) 8) (some (([]:tmI),([a.1]++[a.2.2]),0))) (some (([]:tmI),[a.1],0))))))) ((cond b.2.2.2.2.2.2.1 (some (decide (a.2.1>=0))) (some false)).bind λa6=>cond a6 (aH (room (0+1) 8) ((cond b.2.2.2.2.2.2.2.1 (some (decide (a.2.1>=0))) (some false)).bind λa7=>cond a7 (aH (room 1 8) ((cond b.2.2.2.2.2.2.2.2.2.2.1 (some (decide (a.2.2>=0))) (some false)).bind λa8=>cond a8 (aH (room (1+1) 8) ((cond b.2.2.2.2.2.2.2.2.2.2.2.1 (some (decide (a.2.2>=0))) (some false)).bind λa9=>cond a9 (aH (room (1+1) 8) (some (((([]:tmI)++[a.2.1])++[a.2.2]),([a.2.1]++[a.2.2]),0))) (some (((([]:tmI)++[a.2.1])++[a.2.2]),[a.2.1],0)))) ((cond b.2.2.2.2.2.2.2.2.2.2.2.1 (some (decide (a.2.2>=0))) (some false)).bind λb0=>cond b0 (aH (room (1+1) 8) (some ((([]:tmI)++[a.2.1]),([a.2.1]++[a.2.2]),0))) (some ((([]:tmI)++[a.2.1]),[a.2.1],0))))) ((cond b.2.2.2.2.2.2.2.2.2.2.1 (some (decide (a.2.2>=0))) (some false)).bind λb1=>cond b1 (aH (room (1+1) 8) ((cond b.2.2.2.2.2.2.2.2.2.2.2.1 (some (decide (a.2.2>=0))) (some false)).bind λb2=>cond b2 (aH (room 1 8) (some (((([]:tmI)++[a.2.1])++[a.2.2]),[a.2.2],0))) (some (((([]:tmI)++[a.2.1])++[a.2.2]),[],0)))) ((cond b.2.2.2.2.2.2.2.2.2.2.2.1 (some (decide (a.2.2>=0))) (some false)).bind λb3=>cond b3 (aH (room 1 8) (some ((([]:tmI)++[a.2.1]),[a.2.2],0))) (some ((([]:tmI)++[a.2.1]),[],0)))))) ((cond b.2.2.2.2.2.2.2.1 (some (decide (a.2.1>=0))) (some false)).bind λb4=>cond b4 (aH (room 1 8) ((cond b.2.2.2.2.2.2.2.2.2.2.1 (some (decide (a.2.2>=0))) (some false)).bind λb5=>cond b5 (aH (room (0+1) 8) ((cond b.2.2.2.2.2.2.2.2.2.2.2.1 (some (decide (a.2.2>=0))) (some false)).bind λb6=>cond b6 (aH (room (1+1) 8) (some ((([]:tmI)++[a.2.2]),([a.2.1]++[a.2.2]),0))) (some ((([]:tmI)++[a.2.2]),[a.2.1],0)))) ((cond b.2.2.2.2.2.2.2.2.2.2.2.1 (some (decide (a.2.2>=0))) (some false)).bind λb7=>cond b7 (aH (room (1+1) 8) (some (([]:tmI),([a.2.1]++[a.2.2]),0))) (some (([]:tmI),[a.2.1],0))))) ((cond b.2.2.2.2.2.2.2.2.2.2.1 (some (decide (a.2.2>=0))) (some false)).bind λb8=>cond b8 (aH (room (0+1) 8) ((cond b.2.2.2.2.2.2.2.2.2.2.2.1 (some (decide (a.2.2>=0))) (some false)).bind λb9=>cond b9 (aH (room 1 8) (some ((([]:tmI)++[a.2.2]),[a.2.2],0))) (some ((([]:tmI)++[a.2.2]),[],0)))) ((cond b.2.2.2.2.2.2.2.2.2.2.2.1 (some (decide (a.2.2>=0))) (some false)).bind λc0=>cond c0 (aH (room 1 8) (some (([]:tmI),[a.2.2],0))) (some (([]:tmI),[],0))))))))
def akp:ai:=(akm N).put 155 ako (M3 N)
def akq:az bE (akp N):=(akn N).pl (by kernel_rfl)
def akr:bH:=⟨[.c (.sl cS .aY),.I],[tmf [.bool]],0,[(0,1,4,.bool)],[],[],[]⟩
def M4(N:Nat):List Field×Int->Option Bool|(b,a)=>(cond (a>=0) (some (decide (a<b.length))) (some false)).bind λc=>c
def aks:ai:=(akp N).put 185 akr (M4 N)
def akt:az bE (aks N):=(akq N).pl (by kernel_rfl)
def aku:bH:=⟨[.agg (bq bt)],[tmf [.I]],0,[(0,7,9,.bool)],[],[],[]⟩
def QD(N:Nat):iF->Option Int|(a,b,c,e)=>cond (a==25) c ((cond (a==26) (some true) (some (a==27))).bind λd=>cond d b (some (-1)))
def akv:ai:=(aks N).put 186 aku (QD N)
def akw:az bE (akv N):=(akt N).pl (by kernel_rfl)
def akx:bH:=⟨[.c (.sl .str .aY),.I],[tmf [.bool]],0,[(0,1,4,.bool)],[],[],[]⟩
def UE(N:Nat):List (List UInt8)×Int->Option Bool|(b,a)=>(cond (a>=0) (some (decide (a<b.length))) (some false)).bind λc=>c
def aeT:ai:=(akv N).put 187 akx (UE N)
def aky:az bE (aeT N):=(akw N).pl (by kernel_rfl)
def aeU:bH:=⟨[.agg (cv bL),.agg (bq bt)],[tmf [.I]],0,[(0,17,56,.bool)],[],[],[]⟩
def UF:ai:=(aeT N).on aeU
def aO0:aX:=tm [(2,.P 0 2 0),(3,.P 0 3 1),(22,.R 0 13 2 .I),(23,.I),(24,.I)] [] [(0,2,.box 0 (cv bL)),(0,3,.box 1 (bq bt)),(0,13,.row 2 .I)] 1 [] 3
def aO1:aW:=[tmr [(4,.I)],(.exit 0,tm [(2,.P 0 2 0),(3,.P 0 3 1)] [] [(0,2,.box 0 (cv bL)),(0,3,.box 1 (bq bt))] 1 [] 2)]
def ax7:Nat->Int×Int×dW (MY tmI)->Option (Int⊕(dW iF))|0,_=>none|k+1,(d,a,e,f,g,h,i,j,b,l,m,n,o,p,q,r,c)=>cond (a<d) (aH (fM a c.length) ((c[a.toNat]?).bind λs=>(M4 N (b,s)).bind λt=>cond (!t) (some (Sum.inl 16)) (ax7 k (d,(au (a+1)),e,f,g,h,i,j,b,l,m,n,o,p,q,r,c)))) (some (Sum.inr (e,f,g,h,i,j,b,l,m,n,o,p,q,r)))
def bj4:∀k,ax7 N k=tmq (UF N) 7 151 aO0 aO1 k:=lpI (λ_=>rfl) λk=>by kernel_rfl
def ar2:ai:=(UF N).aa N 0 7 aO0 aO1
def UG:dW iF->Option Int|(g,h,i,j,l,m,n,o,p,q,c,d,e,f)=>(M3 N (c,d,e,f)).bind λa=>cond (a.2.2!=0) a.2.2 (aH (room (a.1.length+a.2.1.length) 8) ((ax7 N N (((a.1++a.2.1).length:Int),0,g,h,i,j,l,m,n,o,p,q,c,d,e,f,(a.1++a.2.1))).bind λr=>match r with|.inl s=>s|.inr b=>(QD N (b.2.2.2.2.2.2.2.2.2.2.1,b.2.2.2.2.2.2.2.2.2.2.2.1,b.2.2.2.2.2.2.2.2.2.2.2.2.1,b.2.2.2.2.2.2.2.2.2.2.2.2.2)).bind λt=>(cond (t>=b.2.2.1.length) (some true) (cond (b.2.2.2.2.2.2.2.2.2.2.1==2) ((UE N (b.2.1,b.2.2.2.2.2.2.2.2.2.2.2.2.1)).bind λu=>some (!u)) (some false))).bind λv=>cond v (some 16) (some 0)))
def akz:ai:=(aeT N).put 151 aeU (UG N)
def akA:az bE (akz N):=(aky N).pu (ar2 N) (aky N).o.l (funext λ⟨a,b,c,d,e,f,g,h,i,j,l,m,n,o⟩=>by rw[UG,bj4 N N];kernel_rfl)
def akB:bH:=sg [.agg (cv bL),.I] [tmf [.I]]
def Kw:dW Int->Option Int|(e,f,g,h,i,j,a,l,m,n,b)=>(M4 N (a,b)).bind λc=>cond (!c) (some (-1)) ((idx a b).bind λd=>d.2)
def aeV:ai:=(akz N).put 188 akB (Kw N)
def akC:az bE (aeV N):=(akA N).pl (by kernel_rfl)
def aeW:bH:=sg [.c (.sl .B .aY),.B] [tmf [.I]]
def UH:ai:=(aeV N).on aeW
def aO2:aX:=tmn [(0,.c (.sl .B .aY)),(1,.B),(7,.I),(8,.I)]
def aO3:aW:=[tmr [(4,.I)],tmx]
def ax8(N:Nat):Nat->tmI×Int×Int×Int->Option (Int⊕Unit)|0,_=>none|k+1,(b,c,d,a)=>cond (a<d) ((idx b a).bind λe=>cond (c==e) (some (Sum.inl a)) (ax8 N k (b,c,d,(au (a+1))))) (some (Sum.inr ()))
def bj5:∀k,ax8 N k=tmq (UH N) 3 264 aO2 aO3 k:=lpI (λ_=>rfl) λk=>by kernel_rfl
def ar3:ai:=(UH N).aa N 0 3 aO2 aO3
def aar:tmI×Int->Option Int|(a,b)=>(ax8 N N (a,b,(a.length:Int),0)).bind λc=>match c with|.inl d=>d|.inr e=>some (-1)
def akD:ai:=(aeV N).put 264 aeW (aar N)
def akE:az bE (akD N):=(akC N).pu (ar3 N) (akC N).o.l (funext λ⟨a,b⟩=>by rw[aar,bj5 N N];kernel_rfl)
def akF:bH:=sg [.c (.sl .B .aY),.B] [tmf [.bool]]
def UI:tmI×Int->Option Bool|(a,b)=>(aar N (a,b)).bind λc=>some (decide (c>=0))
def akG:ai:=(akD N).put 237 akF (UI N)
def akH:az bE (akG N):=(akE N).pl (by kernel_rfl)
def akI:bH:=⟨[.agg (cv bL),.I,.c (.sl .B .aY)],[tmf [.bool]],0,[(0,1,6,.bool)],[],[],[]⟩
def mB:dW (Int×tmI)->Option Bool|(b,g,h,i,j,l,m,n,o,p,a,c)=>(cond (a>=0) ((idx b a).bind λd=>(UI N (c,d.1)).bind λe=>some e) (some false)).bind λf=>f
def akJ:ai:=(akG N).put 191 akI (mB N)
def akK:az bE (akJ N):=(akH N).pl (by kernel_rfl)
def akL:bH:=sg [.agg (cv bL),.I,.I,.I] [tmf [.bool]]
def QE:dW (Int×Int×Int)->Option Bool|(a,d,e,f,g,h,i,j,l,m,b,c,n)=>(mB N (a,d,e,f,g,h,i,j,l,m,b,[5])).bind λo=>cond o ((idx a b).bind λp=>(M4 N (p.2.2.2,c)).bind λq=>cond q ((idx a b).bind λr=>(idx r.2.2.2 c).bind λs=>some (s.2==n)) false) false
def akM:ai:=(akJ N).put 193 akL (QE N)
def akN:az bE (akM N):=(akK N).pl (by kernel_rfl)
def akO:bH:=⟨[.agg (cv bL),.I,.I,.c (.sl .B .aY)],[tmf [.bool]],0,[(0,1,8,.bool)],[],[],[]⟩
def Kx:dW (Int×Int×tmI)->Option Bool|(a,c,d,e,f,g,h,i,j,l,b,m,n)=>((mB N (a,c,d,e,f,g,h,i,j,l,b,n)).bind λo=>cond o ((idx a b).bind λp=>some (p.2.1==m)) (some false)).bind λq=>q
def akP:ai:=(akM N).put 194 akO (Kx N)
def akQ:az bE (akP N):=(akN N).pl (by kernel_rfl)
def akR:bH:=sg [.agg (cv bL),.agg (cv dV)] [tmf [.bool]]
def UJ:dW iw->Option Bool|(b,c,d,e,f,g,h,i,j,l,q,a,m,n,r,s,t)=>cond (m<0) (cond (a==0) true (cond (a==1) ((idx n 0).bind λo=>(mB N (b,c,d,e,f,g,h,i,j,l,o.2,[1,2,4])).bind λp=>p) false)) false
def aeX:ai:=(akP N).put 195 akR (UJ N)
def akS:az bE (aeX N):=(akQ N).pl (by kernel_rfl)
def aeY:bH:=⟨[.agg (cv bL),.agg (bq bt)],[tmf [.bool]],0,[(0,7,26,.bool),(0,15,39,.bool),(0,27,50,.bool),(0,25,50,.bool),(0,23,50,.bool),(0,69,4,.bool),(0,71,202,.bool),(0,79,220,.bool),(0,85,4,.bool)],[],[(0,31,.I),(0,59,.I),(0,70,.I),(0,144,.I),(0,157,.I),(0,170,.I),(0,177,.I),(0,229,.I)],[]⟩
def UK:ai:=(aeX N).on aeY
def aO4:aX:=tm [(0,.c (.sl .I .full)),(1,.fL 190 [.P 0 2 0]),(7,.I),(8,.I)] [[],[],[]] [(0,2,.box 0 (cv bL))] 4 [] 1
def aO5:aW:=[(.ret,tm [(4,.I)] [[],[],[]] [] 4 [] 0),(.exit 0,tm [] [[],[],[]] [] 4 [] 0)]
def PP:Nat->tmI×Int×Int×dJ->Option (Int⊕Unit)|0,_=>none|k+1,(b,c,a,d,e,f,g,h,i,j,l,m,n)=>cond (a<c) ((idx b a).bind λo=>(mB N (d,e,f,g,h,i,j,l,m,n,o,[2])).bind λp=>cond (!p) (some (Sum.inl a)) (PP k (b,c,(au (a+1)),d,e,f,g,h,i,j,l,m,n))) (some (Sum.inr ()))
def bj6:∀k,PP N k=lp (UK N) 1032001006001007000 3 (tq 113) 3 aO4 aO5 k:=lpI (λ_=>rfl) λk=>by kernel_rfl
def UL:ai:=(UK N).aa N 1032001006001007000 3 aO4 aO5
def aO6:aX:=tm [(0,.c (.sl .I .full)),(1,.fL 190 [.P 0 2 0]),(7,.I),(8,.I)] [[],[],[]] [(0,2,.box 0 (cv bL))] 4 [] 1
def aO7:aW:=[(.ret,tm [(4,.I)] [[],[],[]] [] 4 [] 0),(.exit 0,tm [] [[],[],[]] [] 4 [] 0)]
def PQ:Nat->tmI×Int×Int×dJ->Option (Int⊕Unit)|0,_=>none|k+1,(b,c,a,d,e,f,g,h,i,j,l,m,n)=>cond (a<c) ((idx b a).bind λo=>(mB N (d,e,f,g,h,i,j,l,m,n,o,[2])).bind λp=>cond (!p) (some (Sum.inl a)) (PQ k (b,c,(au (a+1)),d,e,f,g,h,i,j,l,m,n))) (some (Sum.inr ()))
def bj7:∀k,PQ N k=lp (UL N) 1060001006001007000 3 (tq 113) 3 aO6 aO7 k:=lpI (λ_=>rfl) λk=>by kernel_rfl
def UM:ai:=(UL N).aa N 1060001006001007000 3 aO6 aO7
def aO8:aX:=tm [(0,.c (.sl .I .full)),(1,.fL 190 [.P 0 2 0]),(7,.I),(8,.I)] [[],[],[]] [(0,2,.box 0 (cv bL))] 4 [] 1
def aO9:aW:=[(.ret,tm [(4,.I)] [[],[],[]] [] 4 [] 0),(.exit 0,tm [] [[],[],[]] [] 4 [] 0)]
def P1:Nat->tmI×Int×Int×dJ->Option (Int⊕Unit)|0,_=>none|k+1,(b,c,a,d,e,f,g,h,i,j,l,m,n)=>cond (a<c) ((idx b a).bind λo=>(mB N (d,e,f,g,h,i,j,l,m,n,o,[2])).bind λp=>cond (!p) (some (Sum.inl a)) (P1 k (b,c,(au (a+1)),d,e,f,g,h,i,j,l,m,n))) (some (Sum.inr ()))
def bj8:∀k,P1 N k=lp (UM N) 1071001006001007000 3 (tq 113) 3 aO8 aO9 k:=lpI (λ_=>rfl) λk=>by kernel_rfl
def UN:ai:=(UM N).aa N 1071001006001007000 3 aO8 aO9
def aP0:aX:=tm [(0,.c (.sl .I .full)),(1,.fL 190 [.P 0 2 0]),(7,.I),(8,.I)] [[],[],[]] [(0,2,.box 0 (cv bL))] 4 [] 1
def aP1:aW:=[(.ret,tm [(4,.I)] [[],[],[]] [] 4 [] 0),(.exit 0,tm [] [[],[],[]] [] 4 [] 0)]
def P2:Nat->tmI×Int×Int×dJ->Option (Int⊕Unit)|0,_=>none|k+1,(b,c,a,d,e,f,g,h,i,j,l,m,n)=>cond (a<c) ((idx b a).bind λo=>(mB N (d,e,f,g,h,i,j,l,m,n,o,[2])).bind λp=>cond (!p) (some (Sum.inl a)) (P2 k (b,c,(au (a+1)),d,e,f,g,h,i,j,l,m,n))) (some (Sum.inr ()))
def bj9:∀k,P2 N k=lp (UN N) 1145001006001007000 3 (tq 113) 3 aP0 aP1 k:=lpI (λ_=>rfl) λk=>by kernel_rfl
def UO:ai:=(UN N).aa N 1145001006001007000 3 aP0 aP1
def aP2:aX:=tm [(0,.c (.sl .I .full)),(1,.fL 190 [.P 0 2 0]),(7,.I),(8,.I)] [[],[],[]] [(0,2,.box 0 (cv bL))] 4 [] 1
def aP3:aW:=[(.ret,tm [(4,.I)] [[],[],[]] [] 4 [] 0),(.exit 0,tm [] [[],[],[]] [] 4 [] 0)]
def QP:Nat->tmI×Int×Int×dJ->Option (Int⊕Unit)|0,_=>none|k+1,(b,c,a,d,e,f,g,h,i,j,l,m,n)=>cond (a<c) ((idx b a).bind λo=>(mB N (d,e,f,g,h,i,j,l,m,n,o,[2])).bind λp=>cond (!p) (some (Sum.inl a)) (QP k (b,c,(au (a+1)),d,e,f,g,h,i,j,l,m,n))) (some (Sum.inr ()))
def bk0:∀k,QP N k=lp (UO N) 1158001006001007000 3 (tq 113) 3 aP2 aP3 k:=lpI (λ_=>rfl) λk=>by kernel_rfl
def UP:ai:=(UO N).aa N 1158001006001007000 3 aP2 aP3
def aP4:aX:=tm [(0,.c (.sl .I .full)),(1,.fL 190 [.P 0 2 0]),(7,.I),(8,.I)] [[],[],[]] [(0,2,.box 0 (cv bL))] 4 [] 1
def aP5:aW:=[(.ret,tm [(4,.I)] [[],[],[]] [] 4 [] 0),(.exit 0,tm [] [[],[],[]] [] 4 [] 0)]
def QQ:Nat->tmI×Int×Int×dJ->Option (Int⊕Unit)|0,_=>none|k+1,(b,c,a,d,e,f,g,h,i,j,l,m,n)=>cond (a<c) ((idx b a).bind λo=>(mB N (d,e,f,g,h,i,j,l,m,n,o,[2])).bind λp=>cond (!p) (some (Sum.inl a)) (QQ k (b,c,(au (a+1)),d,e,f,g,h,i,j,l,m,n))) (some (Sum.inr ()))
def bk1:∀k,QQ N k=lp (UP N) 1171001006001007000 3 (tq 113) 3 aP4 aP5 k:=lpI (λ_=>rfl) λk=>by kernel_rfl
def UQ:ai:=(UP N).aa N 1171001006001007000 3 aP4 aP5
def aP6:aX:=tm [(0,.c (.sl .I .full)),(1,.fL 190 [.P 0 2 0]),(7,.I),(8,.I)] [[],[],[(2,.P 0 2 0)]] [(0,2,.box 0 (cv bL))] 4 [] 1
def aP7:aW:=[(.ret,tm [(4,.I)] [[],[],[(2,.P 0 2 0)]] [(0,2,.box 0 (cv bL))] 4 [] 1),(.exit 0,tm [] [[],[],[(2,.P 0 2 0)]] [(0,2,.box 0 (cv bL))] 4 [] 1)]
def QR:Nat->tmI×Int×Int×dJ->Option ((Int×dJ)⊕dJ)|0,_=>none|k+1,(m,n,a,b,c,d,e,f,g,h,i,j,l)=>cond (a<n) ((idx m a).bind λo=>(mB N (b,c,d,e,f,g,h,i,j,l,o,[2])).bind λp=>cond (!p) (some (Sum.inl (a,b,c,d,e,f,g,h,i,j,l))) (QR k (m,n,(au (a+1)),b,c,d,e,f,g,h,i,j,l))) (some (Sum.inr (b,c,d,e,f,g,h,i,j,l)))
def bk2:∀k,QR N k=lp (UQ N) 1178001006001007000 3 (tq 113) 3 aP6 aP7 k:=lpI (λ_=>rfl) λk=>by kernel_rfl
def UR:ai:=(UQ N).aa N 1178001006001007000 3 aP6 aP7
def aP8:aX:=tm [(0,.c (.sl .I .full)),(1,.fL 190 [.P 0 2 0]),(7,.I),(8,.I)] [[],[],[]] [(0,2,.box 0 (cv bL))] 4 [] 1
def aP9:aW:=[(.ret,tm [(4,.I)] [[],[],[]] [] 4 [] 0),(.exit 0,tm [] [[],[],[]] [] 4 [] 0)]
def Rd:Nat->tmI×Int×Int×dJ->Option (Int⊕Unit)|0,_=>none|k+1,(b,c,a,d,e,f,g,h,i,j,l,m,n)=>cond (a<c) ((idx b a).bind λo=>(mB N (d,e,f,g,h,i,j,l,m,n,o,[2])).bind λp=>cond (!p) (some (Sum.inl a)) (Rd k (b,c,(au (a+1)),d,e,f,g,h,i,j,l,m,n))) (some (Sum.inr ()))
def bk3:∀k,Rd N k=lp (UR N) 1230001006001007000 3 (tq 113) 3 aP8 aP9 k:=lpI (λ_=>rfl) λk=>by kernel_rfl
def ar4:ai:=(UR N).aa N 1230001006001007000 3 aP8 aP9
def US:dW iF->Option Bool|(c,d,a,e,f,b,g,h,i,j,l,s,t,u)=>(Kw N (c,d,a,e,f,b,g,h,i,j,s)).bind λm=>(Kw N (c,d,a,e,f,b,g,h,i,j,t)).bind λn=>(Kw N (c,d,a,e,f,b,g,h,i,j,u)).bind λr=>(cond (l==1) (some true) (some (l==32))).bind λv=>cond v ((PP N N ([m],1,0,c,d,a,e,f,b,g,h,i,j)).bind λw=>match w with|.inl x=>some (!(decide (x>=0)))|.inr b6=>some (!(decide ((-1:Int)>=0)))) (cond (l==2) ((mB N (c,d,a,e,f,b,g,h,i,j,m,[3])).bind λy=>y) ((cond (l==3) (some true) (some (l==23))).bind λz=>cond z ((mB N (c,d,a,e,f,b,g,h,i,j,m,[1])).bind λA=>A) (cond (l==5) (some (m==n)) ((cond (l==6) (some true) ((cond (l==7) (some true) ((cond (l==8) (some true) (some (l==9))).bind λB=>some B)).bind λC=>some C)).bind λD=>cond D ((PQ N N ([m,n,r],3,0,c,d,a,e,f,b,g,h,i,j)).bind λE=>match E with|.inl G=>some (!(decide (G>=0)))|.inr b7=>some (!(decide ((-1:Int)>=0)))) (cond (l==10) ((mB N (c,d,a,e,f,b,g,h,i,j,m,[1])).bind λH=>cond H ((P1 N N ([n,r],2,0,c,d,a,e,f,b,g,h,i,j)).bind λI=>match I with|.inl J=>some (!(decide (J>=0)))|.inr b8=>some (!(decide ((-1:Int)>=0)))) false) (cond (l==11) ((mB N (c,d,a,e,f,b,g,h,i,j,m,[1])).bind λK=>cond K (cond (n==r) ((mB N (c,d,a,e,f,b,g,h,i,j,n,[2,1,4])).bind λL=>L) false) false) (cond (l==12) ((mB N (c,d,a,e,f,b,g,h,i,j,m,[1])).bind λM=>cond M ((mB N (c,d,a,e,f,b,g,h,i,j,n,[1])).bind λO=>O) false) (cond (l==13) ((QE N (c,d,a,e,f,b,g,h,i,j,n,u,m)).bind λP=>P) (cond (l==14) ((QE N (c,d,a,e,f,b,g,h,i,j,m,t,r)).bind λQ=>Q) (cond (l==15) ((mB N (c,d,a,e,f,b,g,h,i,j,m,[4])).bind λR=>R) (cond (l==16) ((Kx N (c,d,a,e,f,b,g,h,i,j,n,m,[4])).bind λS=>S) (cond (l==17) ((Kx N (c,d,a,e,f,b,g,h,i,j,m,n,[4])).bind λT=>T) (cond (l==18) ((mB N (c,d,a,e,f,b,g,h,i,j,m,[7])).bind λU=>cond U ((P2 N N ([n],1,0,c,d,a,e,f,b,g,h,i,j)).bind λV=>match V with|.inl W=>some (!(decide (W>=0)))|.inr b9=>some (!(decide ((-1:Int)>=0)))) false) (cond (l==19) ((Kx N (c,d,a,e,f,b,g,h,i,j,n,m,[7,6])).bind λX=>cond X ((QP N N ([r],1,0,c,d,a,e,f,b,g,h,i,j)).bind λY=>match Y with|.inl Z=>some (!(decide (Z>=0)))|.inr c0=>some (!(decide ((-1:Int)>=0)))) false) (cond (l==20) ((Kx N (c,d,a,e,f,b,g,h,i,j,m,r,[7,6])).bind λa0=>cond a0 ((QQ N N ([n],1,0,c,d,a,e,f,b,g,h,i,j)).bind λa1=>match a1 with|.inl a2=>some (!(decide (a2>=0)))|.inr c1=>some (!(decide ((-1:Int)>=0)))) false) (cond (l==21) ((QR N N ([m],1,0,c,d,a,e,f,b,g,h,i,j)).bind λa3=>match a3 with|.inl o=>cond (!(decide (o.1>=0))) ((mB N (o.2.1,o.2.2.1,o.2.2.2.1,o.2.2.2.2.1,o.2.2.2.2.2.1,o.2.2.2.2.2.2.1,o.2.2.2.2.2.2.2.1,o.2.2.2.2.2.2.2.2.1,o.2.2.2.2.2.2.2.2.2.1,o.2.2.2.2.2.2.2.2.2.2,n,[3,7,6])).bind λa4=>a4) false|.inr p=>(mB N (p.1,p.2.1,p.2.2.1,p.2.2.2.1,p.2.2.2.2.1,p.2.2.2.2.2.1,p.2.2.2.2.2.2.1,p.2.2.2.2.2.2.2.1,p.2.2.2.2.2.2.2.2.1,p.2.2.2.2.2.2.2.2.2,n,[3,7,6])).bind λa5=>a5) (cond (l==25) ((cond (s<0) (some true) ((idx a t).bind λa6=>some (a6.2.2.1==m))).bind λa7=>a7) ((cond (l==26) (some true) (some (l==27))).bind λa8=>cond a8 ((idx a s).bind λq=>(UJ N (c,d,a,e,f,b,g,h,i,j,q.1,q.2.1,q.2.2.1,q.2.2.2.1,q.2.2.2.2.1,q.2.2.2.2.2.1,q.2.2.2.2.2.2)).bind λa9=>a9) (cond (l==28) ((mB N (c,d,a,e,f,b,g,h,i,j,m,[2,1,3])).bind λb0=>b0) ((cond (l==29) (some true) (some (l==33))).bind λb1=>cond b1 ((mB N (c,d,a,e,f,b,g,h,i,j,m,[1])).bind λb2=>cond b2 ((Rd N N ([n],1,0,c,d,a,e,f,b,g,h,i,j)).bind λb3=>match b3 with|.inl b4=>some (!(decide (b4>=0)))|.inr c2=>some (!(decide ((-1:Int)>=0)))) false) (cond (l==34) ((cond (s<0) (some true) (some (b==m))).bind λb5=>b5) true)))))))))))))))))))))
def akT:ai:=(aeX N).put 152 aeY (US N)
def ar5:az bE (akT N):=(akS N).pu (ar4 N) (akS N).o.l.l.l.l.l.l.l.l (funext λ⟨a,b,c,d,e,f,g,h,i,j,l,m,n,o⟩=>by rw[US,bj6 N N,bj7 N N,bj8 N N,bj9 N N,bk0 N N,bk1 N N,bk2 N N,bk3 N N];kernel_rfl)
def akU(N:Nat)(x:tmI):Option tmI:=some x
def akV:ai:=(akT N).jK 239 (BE .I)
def akW:az bE (akV N):=(ar5 N).jK (MX (by kernel_rfl))
def akX:bH:=⟨[.I],[tmf [.I],tmf [.I]],0,[(0,1,9,.bool)],[],[],[]⟩
def Ky(N:Nat):Int->Option (Int×Int)|a=>(cond (a<0) (some true) (some (decide (a>1073741824)))).bind λb=>cond b (some (0,2)) (some ((qf .i64 (au (a+7)) 7),0))
def aeZ:ai:=(akV N).put 122 akX (Ky N)
def akY:az bE (aeZ N):=(akW N).pl (by kernel_rfl)
def ae0:bH:=sg [.agg (cv bL),.c (.sl .I .aY)] [tmf [.I],tmf [.I]]
def UT:ai:=(aeZ N).on ae0
def aQ0:aX:=tm [(2,.P 0 2 0),(6,.I),(12,.c (.sl .I .aY)),(13,.I),(14,.I)] [] [(0,2,.box 0 (cv bL))] 1 [] 1
def aQ1:aW:=[tmr [(4,.I),(5,.I)],(.exit 0,tmn [(6,.I)])]
def ax9:Nat->Int×tmI×Int×Int×dJ->Option ((Int×Int)⊕Int)|0,_=>none|k+1,(d,e,f,a,g,h,i,j,l,m,n,o,p,q)=>cond (a<f) ((idx e a).bind λr=>(Ud N (g,r)).bind λb=>cond (b.2.2!=0) (some (Sum.inl (0,b.2.2))) ((Ky N b.1).bind λc=>cond (c.2!=0) (some (Sum.inl (0,c.2))) (ax9 k ((au (d+c.1)),e,f,(au (a+1)),g,h,i,j,l,m,n,o,p,q)))) (some (Sum.inr d))
def bk4:∀k,ax9 N k=tmq (UT N) 4 199 aQ0 aQ1 k:=lpI (λ_=>rfl) λk=>by kernel_rfl
def ar6:ai:=(UT N).aa N 0 4 aQ0 aQ1
def QF:dW tmI->Option (Int×Int)|(c,d,e,f,g,h,i,j,l,m,a)=>(ax9 N N (0,a,(a.length:Int),0,c,d,e,f,g,h,i,j,l,m)).bind λn=>match n with|.inl b=>(b.1,b.2)|.inr o=>some (o,0)
def ae1:ai:=(aeZ N).put 199 ae0 (QF N)
def akZ:az bE (ae1 N):=(akY N).pu (ar6 N) (akY N).o.l (funext λ⟨a,b,c,d,e,f,g,h,i,j,l⟩=>by rw[QF,bk4 N N];kernel_rfl)
def ae2:bH:=⟨[.agg (bq bL),.agg (bq bt),.D .I],[tmf [.D .I],tmf [.bool]],0,[],[],[(0,24,.I)],[(0,6,[tmr [(6,.N),(7,.Q)],(.normal,tm [(2,.D .I),(3,.P 0 3 0)] [] [(0,3,.box 0 (bq bL))] 1 [] 1)]),(0,2,[(.normal,tm [(2,.D .I),(3,.P 0 3 1),(4,.P 0 4 2)] [] [(0,3,.box 1 (bq bL)),(0,4,.box 2 (bq bt))] 1 [] 3)])]⟩
def UU:ai:=(ae1 N).on ae2
def aQ2:aX:=tm [(2,.D .I),(3,.P 0 3 0),(9,.P 0 9 1),(10,.I),(45,.D .I),(46,.I),(47,.I)] [] [(0,3,.box 0 (bq bL)),(0,9,.box 1 (bq dV))] 1 [] 2
def aQ3:aW:=[tmr [(6,.N),(7,.Q)],(.exit 0,tm [(2,.D .I),(3,.P 0 3 0),(10,.I)] [] [(0,3,.box 0 (bq bL))] 1 [] 1)]
def ay0(N:Nat):Nat->tmI×Int×tmI×Int×Int×dW iw->Option (Bool⊕(tmI×Int×dJ))|0,_=>none|k+1,(b,c,d,e,a,f,g,h,i,j,l,m,n,o,p,r,s,t,q,u,v,w)=>cond (a<e) ((idx d a).bind λx=>(idx q a).bind λy=>cond (y.2!=x) (some (Sum.inl false)) (ay0 N k (b,c,d,e,(au (a+1)),f,g,h,i,j,l,m,n,o,p,r,s,t,q,u,v,w))) (some (Sum.inr (b,c,f,g,h,i,j,l,m,n,o,p)))
def bk5:∀k,ay0 N k=tmq (UU N) 14 196 aQ2 aQ3 k:=lpI (λ_=>rfl) λk=>by kernel_rfl
def ar7:ai:=(UU N).aa N 0 14 aQ2 aQ3
def Ic:dW (MY tmI)->Option (tmI×Bool)|(e,f,g,h,i,j,l,m,n,o,p,q,r,s,t)=>(cond (p==24) ((akU N t).bind λu=>(Kw N (e,f,g,h,i,j,l,m,n,o,q)).bind λx=>aH (room (u.length+1) 8) (some ((u++[x]),e,f,g,h,i,j,l,m,n,o,p,q,r,s))) (some (t,e,f,g,h,i,j,l,m,n,o,p,q,r,s))).bind λa=>(QD N (a.2.2.2.2.2.2.2.2.2.2.2.1,a.2.2.2.2.2.2.2.2.2.2.2.2.1,a.2.2.2.2.2.2.2.2.2.2.2.2.2.1,a.2.2.2.2.2.2.2.2.2.2.2.2.2.2)).bind λv=>(cond (v>=0) ((idx a.2.2.2.1 v).bind λc=>cond ((au ((a.1.length:Int)-c.2.1))<0) (some (Sum.inl false)) (aH (decide (0<=(au ((a.1.length:Int)-c.2.1)))) (aH (decide ((Int.toNat (au ((a.1.length:Int)-c.2.1)))<=a.1.length)) ((ay0 N N (a.1,(au ((a.1.length:Int)-c.2.1)),(a.1.drop (Int.toNat (au ((a.1.length:Int)-c.2.1)))),((a.1.drop (Int.toNat (au ((a.1.length:Int)-c.2.1)))).length:Int),0,a.2.1,a.2.2.1,a.2.2.2.1,a.2.2.2.2.1,a.2.2.2.2.2.1,a.2.2.2.2.2.2.1,a.2.2.2.2.2.2.2.1,a.2.2.2.2.2.2.2.2.1,a.2.2.2.2.2.2.2.2.2.1,a.2.2.2.2.2.2.2.2.2.2.1,c.1,c.2.1,c.2.2.1,c.2.2.2.1,c.2.2.2.2.1,c.2.2.2.2.2.1,c.2.2.2.2.2.2)).bind λy=>match y with|.inl z=>some (Sum.inl z)|.inr b=>aH (decide (0<=b.2.1)) (aH (decide (b.2.1.toNat<=b.1.length)) (some (Sum.inr ((b.1.take b.2.1.toNat),b.2.2.1,b.2.2.2.1,b.2.2.2.2.1,b.2.2.2.2.2.1,b.2.2.2.2.2.2.1,b.2.2.2.2.2.2.2.1,b.2.2.2.2.2.2.2.2.1,b.2.2.2.2.2.2.2.2.2.1,b.2.2.2.2.2.2.2.2.2.2.1,b.2.2.2.2.2.2.2.2.2.2.2)))))))) (some (Sum.inr (a.1,a.2.1,a.2.2.1,a.2.2.2.1,a.2.2.2.2.1,a.2.2.2.2.2.1,a.2.2.2.2.2.2.1,a.2.2.2.2.2.2.2.1,a.2.2.2.2.2.2.2.2.1,a.2.2.2.2.2.2.2.2.2.1,a.2.2.2.2.2.2.2.2.2.2.1)))).bind λA=>match A with|.inl B=>some ([],B)|.inr d=>(QF N (d.2.1,d.2.2.1,d.2.2.2.1,d.2.2.2.2.1,d.2.2.2.2.2.1,d.2.2.2.2.2.2.1,d.2.2.2.2.2.2.2.1,d.2.2.2.2.2.2.2.2.1,d.2.2.2.2.2.2.2.2.2.1,d.2.2.2.2.2.2.2.2.2.2,d.1)).bind λw=>cond (w.2==0) (some (d.1,(decide (w.1<=4096)))) (d.1,false)
def ak0:ai:=(ae1 N).put 196 ae2 (Ic N)
def ak1:az bE (ak0 N):=(akZ N).pu (ar7 N) (akZ N).o.l (funext λ⟨a,b,c,d,e,f,g,h,i,j,l,m,n,o,p⟩=>by rw[Ic,bk5 N N];kernel_rfl)
def ak2:bH:=⟨[.c (.sl bt .aY),.I],[tmf [.D .I],tmf [.I]],0,[(0,5,19,.bool)],[],[],[]⟩
def UW:List Instr×Int->Option (tmI×Int)|(a,b)=>(M0 N a).bind λc=>cond (c !=0) (some ([],c)) ((cond (b<0) (some true) (some (decide (b>=a.length)))).bind λd=>cond d (some ([],2)) ((M1 N (a,b)).bind λe=>some (e,0)))
def ae3:ai:=(ak0 N).put 197 ak2 (UW N)
def ak3:az bE (ae3 N):=(ak1 N).pl (by kernel_rfl)
def ae4:bH:=sg [.c (.sl .I .aY),.c (.sl .I .aY)] [tmf [.bool]]
def UX:ai:=(ae3 N).on ae4
def aQ4:aX:=tmn [(0,.c (.sl .I .aY)),(1,.c (.sl .I .aY)),(12,.I),(13,.I)]
def aQ5:aW:=[tmr [(4,.Q)],tmx]
def ay2(N:Nat):Nat->tmI×tmI×Int×Int->Option (Bool⊕Unit)|0,_=>none|k+1,(b,c,d,a)=>cond (a<d) ((idx b a).bind λe=>(idx c a).bind λf=>cond (e !=f) (some (Sum.inl false)) (ay2 N k (b,c,d,(au (a+1))))) (some (Sum.inr ()))
def bk6:∀k,ay2 N k=tmq (UX N) 6 198 aQ4 aQ5 k:=lpI (λ_=>rfl) λk=>by kernel_rfl
def ar8:ai:=(UX N).aa N 0 6 aQ4 aQ5
def UY:tmI×tmI->Option Bool|(a,b)=>cond ((a.length:Int)!=(b.length:Int)) false ((ay2 N N (a,b,(a.length:Int),0)).bind λc=>match c with|.inl d=>d|.inr e=>true)
def ae5:ai:=(ae3 N).put 198 ae4 (UY N)
def ak4:az bE (ae5 N):=(ak3 N).pu (ar8 N) (ak3 N).o.l (funext λ⟨a,b⟩=>by rw[UY,bk6 N N];kernel_rfl)
def ae6:bH:=⟨[.agg (bq bL)],[tmf [.D .U],tmf [.bool]],0,[(0,14,70,.bool)],[],[(0,25,(.sl .I)),(0,28,.bool),(0,31,.I),(0,90,.I),(0,105,.U)],[]⟩
def UZ:ai:=(ae5 N).on ae6
def aQ6:aX:=tm [(1,.P 0 1 0),(4,.D bt),(5,.R 0 25 1 (.sl .I)),(6,.R 0 28 2 .bool),(7,.R 0 31 3 .I),(9,.D .I),(71,.D .I),(72,.I),(73,.I)] [] [(0,1,.box 0 (bq bL)),(0,25,.row 1 (.sl .I)),(0,28,.row 2 .bool),(0,31,.row 3 .I)] 1 [] 4
def aQ7:aW:=[tmr [(2,.N),(3,.Q)],(.exit 2,tm [(1,.P 0 1 0),(4,.D bt),(5,.R 0 25 1 (.sl .I)),(6,.R 0 28 2 .bool),(7,.R 0 31 3 .I)] [] [(0,1,.box 0 (bq bL)),(0,25,.row 1 (.sl .I)),(0,28,.row 2 .bool),(0,31,.row 3 .I)] 1 [] 4)]
def H4:Nat->List Instr×tmI×tmI×Int×Int×dW (List tmI×List Bool×tmI)->Option (Bool⊕(List Instr×dW (List tmI×List Bool×tmI)))|0,_=>none|k+1,(g,d,h,i,e,j,l,m,n,o,p,q,r,s,t,b,c,f)=>cond (e<i) ((idx h e).bind λa=>aH (fM a c.length) ((c[a.toNat]?).bind λu=>cond (!u) (aH (room (f.length+1) 8) (aH (fM a b.length) ((b[a.toNat]?).bind λx=>aH (fM a c.length) ((c[a.toNat]?).bind λy=>H4 k (g,d,h,i,(au (e+1)),j,l,m,n,o,p,q,r,s,t,(b.set a.toNat d),(c.set a.toNat true),(f++[a])))))) (aH (fM a b.length) ((b[a.toNat]?).bind λv=>(UY N (v,d)).bind λw=>cond (!w) (some (Sum.inl false)) (H4 k (g,d,h,i,(au (e+1)),j,l,m,n,o,p,q,r,s,t,b,c,f)))))) (some (Sum.inr (g,j,l,m,n,o,p,q,r,s,t,b,c,f)))
def bk7:∀k,H4 N k=tmq (UZ N) 19 153 aQ6 aQ7 k:=lpI (λ_=>rfl) λk=>by kernel_rfl
def U0:ai:=(UZ N).aa N 0 19 aQ6 aQ7
def aQ8:aX:=tm [(1,.P 0 1 0),(4,.D bt),(5,.R 0 25 1 (.sl .I)),(6,.R 0 28 2 .bool),(7,.R 0 31 3 .I)] [] [(0,1,.box 0 (bq bL)),(0,25,.row 1 (.sl .I)),(0,28,.row 2 .bool),(0,31,.row 3 .I)] 1 [] 4
def aQ9:aW:=[tmr [(2,.N),(3,.Q)],(.exit 0,tm [(1,.P 0 1 0),(4,.D bt),(5,.R 0 25 1 (.sl .I))] [] [(0,1,.box 0 (bq bL)),(0,25,.row 1 (.sl .I))] 1 [] 2)]
def H5:Nat->List Instr×dW (List tmI×List Bool×tmI)->Option (Bool⊕(List Instr×dW (List tmI)))|0,_=>none|k+1,(c,g,h,i,j,l,m,n,o,p,q,d,t,b)=>cond ((b.length:Int)>0) (aH (fM (au ((b.length:Int)-1)) b.length) ((b[(Int.toNat (au ((b.length:Int)-1)))]?).bind λe=>aH (decide (0<=(au ((b.length:Int)-1)))) (aH (decide ((Int.toNat (au ((b.length:Int)-1)))<=b.length)) ((idx c e).bind λf=>aH (fM e d.length) ((d[e.toNat]?).bind λu=>(Ic N (g,h,i,j,l,m,n,o,p,q,f.1,f.2.1,f.2.2.1,f.2.2.2,u)).bind λs=>(UW N (c,e)).bind λr=>(cond (!s.2) (some true) (some (r.2!=0))).bind λv=>cond v (some (Sum.inl false)) ((H4 N N (c,s.1,r.1,(r.1.length:Int),0,g,h,i,j,l,m,n,o,p,q,d,t,(b.take (Int.toNat (au ((b.length:Int)-1)))))).bind λw=>match w with|.inl x=>some (Sum.inl x)|.inr a=>H5 k (a.1,a.2.1,a.2.2.1,a.2.2.2.1,a.2.2.2.2.1,a.2.2.2.2.2.1,a.2.2.2.2.2.2.1,a.2.2.2.2.2.2.2.1,a.2.2.2.2.2.2.2.2.1,a.2.2.2.2.2.2.2.2.2.1,a.2.2.2.2.2.2.2.2.2.2.1,a.2.2.2.2.2.2.2.2.2.2.2.1,a.2.2.2.2.2.2.2.2.2.2.2.2.1,a.2.2.2.2.2.2.2.2.2.2.2.2.2))))))) (some (Sum.inr (c,g,h,i,j,l,m,n,o,p,q,d)))
def aR0:∀k,H5 N k=tmq (U0 N) 6 153 aQ8 aQ9 k|0=>rfl|k+1=>funext λ⟨a,b,c,d,e,f,g,h,i,j,l,m,n,o⟩=>by rw[H5,aR0 k,bk7 N N];kernel_rfl
def U1:ai:=(U0 N).aa N 0 6 aQ8 aQ9
def aR1:aX:=tm [(1,.P 0 1 0),(4,.D bt),(5,.R 0 25 1 (.sl .I)),(15,.R 0 105 2 .U),(106,.R 0 25 1 (.sl .I)),(107,.I),(108,.I)] [] [(0,1,.box 0 (bq bL)),(0,25,.row 1 (.sl .I)),(0,105,.row 2 .U)] 1 [] 3
def aR2:aW:=[tmr [(2,.N),(3,.Q)],(.exit 5,tm [(4,.D bt),(5,.R 0 25 0 (.sl .I)),(15,.R 0 105 1 .U)] [] [(0,25,.row 0 (.sl .I)),(0,105,.row 1 .U)] 1 [] 2)]
def an3:Nat->List Instr×Int×Int×dW (List tmI×tmI)->Option (Bool⊕(List Instr×List tmI×tmI))|0,_=>none|k+1,(d,e,a,f,g,h,i,j,l,m,n,o,p,b,c)=>cond (a<e) (aH (fM a b.length) ((b[a.toNat]?).bind λr=>(QF N (f,g,h,i,j,l,m,n,o,p,r)).bind λq=>cond (q.2!=0) (some (Sum.inl false)) (aH (fM a c.length) ((c[a.toNat]?).bind λs=>an3 k (d,e,(au (a+1)),f,g,h,i,j,l,m,n,o,p,b,(c.set a.toNat (aK q.1))))))) (some (Sum.inr (d,b,c)))
def bk8:∀k,an3 N k=tmq (U1 N) 35 153 aR1 aR2 k:=lpI (λ_=>rfl) λk=>by kernel_rfl
def ar9:ai:=(U1 N).aa N 0 35 aR1 aR2
def QG:dJ->Option (tmI×Bool)|(d,e,f,g,h,i,j,b,l,m)=>aH (decide (0<=(b.length:Int))) (aH (decide (0<=(b.length:Int))) (aH (decide ((Int.toNat (b.length:Int))<=(Int.toNat (b.length:Int)))&&room (Int.toNat (b.length:Int)) 24) (aH (decide (0<=(b.length:Int))) (aH (decide (0<=(b.length:Int))) (aH (decide ((Int.toNat (b.length:Int))<=(Int.toNat (b.length:Int)))&&room (Int.toNat (b.length:Int)) 1) (aH (fM 0 (List.replicate (Int.toNat (b.length:Int)) false).length) (((List.replicate (Int.toNat (b.length:Int)) false)[(Int.toNat 0)]?).bind λs=>(H5 N N (b,d,e,f,g,h,i,j,b,l,m,(List.replicate (Int.toNat (b.length:Int)) []),((List.replicate (Int.toNat (b.length:Int)) false).set (Int.toNat 0) true),[0])).bind λn=>match n with|.inl o=>some ([],o)|.inr a=>aH (decide (0<=(a.1.length:Int))) (aH (decide (0<=(a.1.length:Int))) (aH (decide ((Int.toNat (a.1.length:Int))<=(Int.toNat (a.1.length:Int)))&&room (Int.toNat (a.1.length:Int)) 8) ((an3 N N (a.1,(a.2.2.2.2.2.2.2.2.2.2.2.length:Int),0,a.2.1,a.2.2.1,a.2.2.2.1,a.2.2.2.2.1,a.2.2.2.2.2.1,a.2.2.2.2.2.2.1,a.2.2.2.2.2.2.2.1,a.2.2.2.2.2.2.2.2.1,a.2.2.2.2.2.2.2.2.2.1,a.2.2.2.2.2.2.2.2.2.2.1,a.2.2.2.2.2.2.2.2.2.2.2,(List.replicate (Int.toNat (a.1.length:Int)) (0:Int)))).bind λp=>match p with|.inl q=>some ([],q)|.inr c=>aH (fM (au ((c.1.length:Int)-1)) c.2.1.length) ((c.2.1[(Int.toNat (au ((c.1.length:Int)-1)))]?).bind λr=>some (c.2.2,((r.length:Int)==0)))))))))))))
def ae7:ai:=(ae5 N).put 153 ae6 (QG N)
def ak5:az bE (ae7 N):=(ak4 N).pu (ar9 N) (ak4 N).o.l.l.l (funext λ⟨a,b,c,d,e,f,g,h,i,j⟩=>by rw[QG,aR0 N N,bk8 N N];kernel_rfl)
def ae8:bH:=sg [.c (.sl .I .aY)] [tmf [.U]]
def U4:ai:=(ae7 N).on ae8
def aR3:aX:=tmn [(3,.U),(6,.c (.sl .I .aY)),(7,.I),(8,.I)]
def aR4:aW:=[(.exit 0,tmn [(3,.U)])]
def ay4(N:Nat):Nat->Int×tmI×Int×Int->Option Int|0,_=>none|k+1,(b,c,d,a)=>cond (a<d) ((idx c a).bind λe=>aH (!(e<0)) (ay4 N k ((BD .u64 b (aK (1*(2^min e.toNat 64)))),c,d,(au (a+1))))) b
def bk9:∀k,ay4 N k=tmq (U4 N) 4 200 aR3 aR4 k:=lpI (λ_=>rfl) λk=>by kernel_rfl
def asa:ai:=(U4 N).aa N 0 4 aR3 aR4
def QH:tmI->Option Int|a=>(ay4 N N (0,a,(a.length:Int),0)).bind λb=>b
def ae9:ai:=(ae7 N).put 200 ae8 (QH N)
def ak6:az bE (ae9 N):=(ak5 N).pu (asa N) (ak5 N).o.l (funext λa=>by rw[QH,bk9 N N];kernel_rfl)
def afa:bH:=⟨[.c (.sl bt .aY),.I,.I],[tmf [.D .U],tmf [.I]],0,[(0,5,36,.bool)],[],[(0,39,.U),(0,74,.U),(0,77,.bool),(1080000,10,.I),(1080000,39,.I)],[]⟩
def U5:ai:=(ae9 N).on afa
def aR5:aX:=tm [(0,.c (.sl bt .aY)),(2,.I),(4,.P 0 4 0),(9,.P 0 9 1),(40,.c (.sl bt .aY)),(41,.I),(42,.I)] [] [(0,4,.box 0 [.I]),(0,9,.box 1 [.ref 0 39 2 .U]),(0,39,.row 2 .U)] 1 [] 3
def aR6:aW:=[tmr [(6,.N),(7,.I)],(.exit 0,tm [(0,.c (.sl bt .aY)),(4,.P 0 4 0),(9,.P 0 9 1)] [] [(0,4,.box 0 [.I]),(0,9,.box 1 [.ref 0 39 2 .U]),(0,39,.row 2 .U)] 1 [] 3)]
def So:Nat->List Instr×Int×List Instr×Int×Int×Int×tmI->Option (Int⊕(List Instr×Int×tmI))|0,_=>none|k+1,(g,e,h,i,a,j,b)=>cond (a<i) ((idx h a).bind λc=>(M3 N (c.1,c.2.1,c.2.2.1,c.2.2.2)).bind λd=>cond (d.2.2!=0) (some (Sum.inl d.2.2)) ((QH N d.2.1).bind λf=>aH (fM a b.length) ((b[a.toNat]?).bind λn=>(QH N d.1).bind λl=>aH (fM a (b.set a.toNat f).length) (((b.set a.toNat f)[a.toNat]?).bind λm=>aH (!(e<0)) (cond ((Int.fdiv (BD .u64 l m) (2^min e.toNat 64))!=0) (some (Sum.inl 16)) (So k (g,e,h,i,(au (a+1)),j,(b.set a.toNat f)))))))) (some (Sum.inr (g,j,b)))
def bl0:∀k,So N k=tmq (U5 N) 11 154 aR5 aR6 k:=lpI (λ_=>rfl) λk=>by kernel_rfl
def U6:ai:=(U5 N).aa N 0 11 aR5 aR6
def aR7:aX:=tm [(0,.c (.sl bt .aY)),(1,.fL 201 [.P 0 4 0,.P 0 16 1,.P 0 15 2,.P 0 9 3]),(4,.R 1 10 4 .I),(5,.I),(27,.D .I),(28,.I),(29,.I)] [[(15,.P 0 15 2)]] [(0,4,.box 0 [.I]),(0,16,.box 1 [.ref 0 77 5 .bool]),(0,77,.row 5 .bool),(0,15,.box 2 [.ref 0 74 6 .U]),(0,74,.row 6 .U),(0,9,.box 3 [.ref 0 39 7 .U]),(0,39,.row 7 .U),(1,10,.row 4 .I)] 2 [] 8
def aR8:aW:=[(.exit 2,tm [(0,.c (.sl bt .aY)),(1,.fL 201 [.P 0 4 0,.P 0 16 1,.P 0 15 2,.P 0 9 3]),(4,.R 1 10 4 .I)] [[(15,.P 0 15 2)]] [(0,4,.box 0 [.I]),(0,16,.box 1 [.ref 0 77 5 .bool]),(0,77,.row 5 .bool),(0,15,.box 2 [.ref 0 74 6 .U]),(0,74,.row 6 .U),(0,9,.box 3 [.ref 0 39 7 .U]),(0,39,.row 7 .U),(1,10,.row 4 .I)] 2 [] 8)]
def Id(N:Nat):Nat->List Instr×Int×tmI×Int×Int×Int×List Bool×tmI×tmI×tmI->Option (List Instr×Int×List Bool×tmI×tmI×tmI)|0,_=>none|k+1,(i,d,j,l,h,f,c,b,g,e)=>cond (h<l) ((idx j h).bind λa=>cond (d<0) (aH (!(f<0)) (aH (fM a c.length) ((c[a.toNat]?).bind λs=>aH (fM a b.length) ((b[a.toNat]?).bind λt=>aH (room (e.length+1) 8) (Id N k (i,d,j,l,(au (h+1)),f,(c.set a.toNat true),(b.set a.toNat (aK ((aK (1*(2^min f.toNat 64)))-1))),g,(e++[a]))))))) (aH (fM d b.length) ((b[d.toNat]?).bind λm=>aH (fM d g.length) ((g[d.toNat]?).bind λn=>aH (fM a c.length) ((c[a.toNat]?).bind λp=>cond (!p) (aH (fM a c.length) ((c[a.toNat]?).bind λu=>aH (fM a b.length) ((b[a.toNat]?).bind λv=>aH (room (e.length+1) 8) (Id N k (i,d,j,l,(au (h+1)),f,(c.set a.toNat true),(b.set a.toNat (BD .u64 m n)),g,(e++[a])))))) (aH (fM a b.length) ((b[a.toNat]?).bind λq=>aH (fM a b.length) ((b[a.toNat]?).bind λo=>aH (fM a b.length) ((b[a.toNat]?).bind λw=>aH (fM a (b.set a.toNat (tZ .u64 o (BD .u64 m n))).length) (((b.set a.toNat (tZ .u64 o (BD .u64 m n)))[a.toNat]?).bind λr=>cond (r !=q) (aH (room (e.length+1) 8) (Id N k (i,d,j,l,(au (h+1)),f,c,(b.set a.toNat (tZ .u64 o (BD .u64 m n))),g,(e++[a])))) (Id N k (i,d,j,l,(au (h+1)),f,c,(b.set a.toNat (tZ .u64 o (BD .u64 m n))),g,e)))))))))))) (i,f,c,b,g,e)
def bl1:∀k,Id N k=lp (U6 N) 1080000 11 (tq 183) 11 aR7 aR8 k:=lpI (λ_=>rfl) λk=>by kernel_rfl
def U7:ai:=(U6 N).aa N 1080000 11 aR7 aR8
def aR9:aX:=tm [(0,.c (.sl bt .aY)),(1,.fL 201 [.P 0 4 0,.P 0 16 1,.P 0 15 2,.P 0 9 3]),(4,.R 1 10 4 .I)] [[(15,.P 0 15 2)]] [(0,4,.box 0 [.I]),(0,16,.box 1 [.ref 0 77 5 .bool]),(0,77,.row 5 .bool),(0,15,.box 2 [.ref 0 74 6 .U]),(0,74,.row 6 .U),(0,9,.box 3 [.ref 0 39 7 .U]),(0,39,.row 7 .U),(1,10,.row 4 .I)] 2 [] 8
def aS0:aW:=[(.exit 0,tm [] [[(15,.P 0 15 0)]] [(0,15,.box 0 [.ref 0 74 1 .U]),(0,74,.row 1 .U)] 2 [] 2)]
def ST:Nat->List Instr×Int×List Bool×tmI×tmI×tmI->Option tmI|0,_=>none|k+1,(c,g,h,d,i,a)=>cond ((a.length:Int)>0) (aH (fM (au ((a.length:Int)-1)) a.length) ((a[(Int.toNat (au ((a.length:Int)-1)))]?).bind λe=>aH (decide (0<=(au ((a.length:Int)-1)))) (aH (decide ((Int.toNat (au ((a.length:Int)-1)))<=a.length)) ((M1 N (c,e)).bind λf=>(Id N N (c,e,f,(f.length:Int),0,g,h,d,i,(a.take (Int.toNat (au ((a.length:Int)-1)))))).bind λb=>ST k (b.1,b.2.1,b.2.2.1,b.2.2.2.1,b.2.2.2.2.1,b.2.2.2.2.2))))) d
def aS1:∀k,ST N k=lp (U7 N) 1080000 3 (tq 183) 3 aR9 aS0 k|0=>rfl|k+1=>funext λ⟨a,b,c,d,e,f⟩=>by rw[ST,aS1 k,bl1 N N];kernel_rfl
def asb:ai:=(U7 N).aa N 1080000 3 aR9 aS0
def KA:List Instr×Int×Int->Option (tmI×Int)|(b,e,d)=>(M0 N b).bind λf=>cond (f !=0) (some ([],f)) ((cond (d<0) (some true) (cond (d>16) (some true) (cond (e<0) (some true) (some (decide (e>d)))))).bind λg=>cond g (some ([],2)) (aH (decide (0<=(b.length:Int))) (aH (decide (0<=(b.length:Int))) (aH (decide ((Int.toNat (b.length:Int))<=(Int.toNat (b.length:Int)))&&room (Int.toNat (b.length:Int)) 8) ((So N N (b,d,b,(b.length:Int),0,e,(List.replicate (Int.toNat (b.length:Int)) (0:Int)))).bind λh=>match h with|.inl i=>some ([],i)|.inr a=>aH (decide (0<=(a.1.length:Int))) (aH (decide (0<=(a.1.length:Int))) (aH (decide ((Int.toNat (a.1.length:Int))<=(Int.toNat (a.1.length:Int)))&&room (Int.toNat (a.1.length:Int)) 8) (aH (decide (0<=(a.1.length:Int))) (aH (decide (0<=(a.1.length:Int))) (aH (decide ((Int.toNat (a.1.length:Int))<=(Int.toNat (a.1.length:Int)))&&room (Int.toNat (a.1.length:Int)) 1) (aH (!(a.2.1<0)) (aH (fM 0 (List.replicate (Int.toNat (a.1.length:Int)) false).length) (((List.replicate (Int.toNat (a.1.length:Int)) false)[(Int.toNat 0)]?).bind λj=>aH (fM 0 (List.replicate (Int.toNat (a.1.length:Int)) (0:Int)).length) (((List.replicate (Int.toNat (a.1.length:Int)) (0:Int))[(Int.toNat 0)]?).bind λl=>(ST N N (a.1,a.2.1,((List.replicate (Int.toNat (a.1.length:Int)) false).set (Int.toNat 0) true),((List.replicate (Int.toNat (a.1.length:Int)) (0:Int)).set (Int.toNat 0) (aK ((aK (1*(2^min a.2.1.toNat 64)))-1))),a.2.2,[0])).bind λc=>aH (fM (au ((c.length:Int)-1)) c.length) ((c[(Int.toNat (au ((c.length:Int)-1)))]?).bind λm=>some ((c.set (Int.toNat (au ((c.length:Int)-1))) 0),0))))))))))))))))
def afb:ai:=(ae9 N).put 154 afa (KA N)
def ak7:az bE (afb N):=(ak6 N).pu (asb N) (ak6 N).o.l.l.l (funext λ⟨a,b,c⟩=>by rw[KA,bl0 N N,aS1 N N];kernel_rfl)
def afc:bH:=⟨[.c (.sl .U .aY)],[tmf [.D iE],tmf [.I]],0,[(0,13,31,.bool)],[],[(0,39,iE)],[]⟩
def U8:ai:=(afb N).on afc
def aS2:aX:=tmv [(0,.c (.sl .U .aY)),(5,.A iE 0),(14,.I),(15,.I)] 0 1
def aS3:aW:=[(.exit 0,tmv [(5,.A iE 0)] 0 1)]
def ao9(N:Nat):Nat->tmI×List e8×Int×Int->Option (List e8)|0,_=>none|k+1,(b,c,d,a)=>cond (a<d) ((cond (a>0) ((idx b a).bind λe=>(idx b (au (a-1))).bind λf=>some (e==f)) (some false)).bind λg=>cond g (ao9 N k (b,c,d,(au (a+1)))) ((idx b a).bind λh=>aH (room (c.length+1) 16) (ao9 N k (b,(c++[(a,h)]),d,(au (a+1)))))) c
def bl2:∀k,ao9 N k=tmq (U8 N) 8 156 aS2 aS3 k:=lpI (λ_=>rfl) λk=>by kernel_rfl
def asc:ai:=(U8 N).aa N 0 8 aS2 aS3
def QI:tmI->Option (List e8×Int)|a=>(F77 N (a.length:Int)).bind λb=>cond (b !=0) (some ([],b)) ((ao9 N N (a,[],(a.length:Int),0)).bind λc=>some (c,0))
def afd:ai:=(afb N).put 156 afc (QI N)
def ak8:az bE (afd N):=(ak7 N).pu (asc N) (ak7 N).o.l (funext λa=>by rw[QI,bl2 N N];kernel_rfl)
def afe:bH:=⟨[.agg (bq bp),.I],[(true,(bq aan))],0,[(0,7,53,.bool),(0,51,139,.bool)],[],[],[]⟩
def U9:ai:=(afd N).on afe
def aS4:aX:=tm [(4,.P 0 4 0),(5,.P 0 5 1),(6,.D bt),(7,.D .bool),(55,.D bt),(56,.I),(57,.I)] [] [(0,4,.box 0 [.nil true,.nil true,.I,.I]),(0,5,.box 1 (bq bL))] 1 [] 2
def aS5:aW:=[(.ret,tm [(4,.P 0 4 0)] [] [(0,4,.box 0 [.nil true,.nil true,.I,.I])] 1 [] 1),(.exit 0,tm [(4,.P 0 4 0),(5,.P 0 5 1),(6,.D bt)] [] [(0,4,.box 0 [.nil true,.nil true,.I,.I]),(0,5,.box 1 (bq bL))] 1 [] 2)]
def ay5:Nat->List Instr×List Bool×List Instr×x8 dJ->Option ((Int×Int)⊕(List Instr×Int×Int×dJ))|0,_=>none|k+1,(n,o,p,q,b,r,s,c,d,e,f,g,h,i,j,l,m)=>cond (b<q) ((idx p b).bind λa=>(UG N (c,d,e,f,g,h,i,j,l,m,a.1,a.2.1,a.2.2.1,a.2.2.2)).bind λt=>cond (t !=0) (some (Sum.inl (b,16))) ((idx o b).bind λu=>cond (!u) (some (Sum.inl (b,6))) ((US N (c,d,e,f,g,h,i,j,l,m,a.1,a.2.1,a.2.2.1,a.2.2.2)).bind λv=>cond (!v) (some (Sum.inl (b,30))) (ay5 k (n,o,p,q,(au (b+1)),r,s,c,d,e,f,g,h,i,j,l,m))))) (some (Sum.inr (n,r,s,c,d,e,f,g,h,i,j,l,m)))
def bl3:∀k,ay5 N k=tmq (U9 N) 12 111 aS4 aS5 k:=lpI (λ_=>rfl) λk=>by kernel_rfl
def Va:ai:=(U9 N).aa N 0 12 aS4 aS5
def aS6:aX:=tm [(4,.P 0 4 0),(11,.D .U),(13,.D .U),(14,.I),(18,.I),(109,.D bt),(110,.I),(111,.I),(122,.D .I),(123,.I),(124,.I)] [] [(0,4,.box 0 [.nil true,.nil true,.I,.I])] 1 [] 1
def aS7:aW:=[(.ret,tm [(4,.P 0 4 0)] [] [(0,4,.box 0 [.nil true,.nil true,.I,.I])] 1 [] 1),(.exit 5,tm [(4,.P 0 4 0),(11,.D .U),(13,.D .U),(109,.D bt),(110,.I),(111,.I)] [] [(0,4,.box 0 [.nil true,.nil true,.I,.I])] 1 [] 1)]
def ap0(N:Nat):Nat->tmI×tmI×Int×Int×List Instr×Int×Int×BG->Option ((Int×Int)⊕(tmI×tmI×List Instr×xZ))|0,_=>none|k+1,(d,a,b,e,f,g,h,i,j,c,l,m)=>cond (c<j) ((idx i c).bind λn=>(cond (e !=0) (some true) ((idx a b).bind λo=>aH (!(n<0)) (some ((tZ .u64 (Int.fdiv o (2^min n.toNat 64)) 1)==0)))).bind λp=>cond p (some (Sum.inl (b,38))) (ap0 N k (d,a,b,e,f,g,h,i,j,(au (c+1)),l,m))) (some (Sum.inr (d,a,f,g,h,l,m)))
def bl4:∀k,ap0 N k=tmq (Va N) 46 111 aS6 aS7 k:=lpI (λ_=>rfl) λk=>by kernel_rfl
def Vb:ai:=(Va N).aa N 0 46 aS6 aS7
def aS8:aX:=tm [(4,.P 0 4 0),(11,.D .U),(13,.D .U),(109,.D bt),(110,.I),(111,.I)] [] [(0,4,.box 0 [.nil true,.nil true,.I,.I])] 1 [] 1
def aS9:aW:=[(.ret,tm [(4,.P 0 4 0)] [] [(0,4,.box 0 [.nil true,.nil true,.I,.I])] 1 [] 1),(.exit 3,tm [(4,.P 0 4 0),(11,.D .U),(13,.D .U)] [] [(0,4,.box 0 [.nil true,.nil true,.I,.I])] 1 [] 1)]
def ap1:Nat->tmI×tmI×List Instr×xZ->Option ((Int×Int)⊕(tmI×tmI×Int×Int))|0,_=>none|k+1,(e,f,g,h,b,i,j)=>cond (b<h) ((idx g b).bind λc=>(M3 N (c.1,c.2.1,c.2.2.1,c.2.2.2)).bind λd=>(ap0 N N (e,f,b,d.2.2,g,h,b,d.1,(d.1.length:Int),0,i,j)).bind λm=>match m with|.inl l=>some (Sum.inl (l.1,l.2))|.inr a=>ap1 k (a.1,a.2.1,a.2.2.1,a.2.2.2.1,(au (a.2.2.2.2.1+1)),a.2.2.2.2.2.1,a.2.2.2.2.2.2)) (some (Sum.inr (e,f,i,j)))
def aT0:∀k,ap1 N k=tmq (Vb N) 38 111 aS8 aS9 k|0=>rfl|k+1=>funext λ⟨a,b,c,d,e,f,g⟩=>by rw[ap1,aT0 k,bl4 N N];kernel_rfl
def asd:ai:=(Vb N).aa N 0 38 aS8 aS9
def Ve:bU Int->Option OS|(n,o,e,f)=>(idx e f).bind λb=>(UD N b.2.2.2.2.1).bind λg=>cond (g.2!=0) (some ([],[],(-1),12)) ((cond (f==0) (cond (b.2.1>0) (some true) (some (decide (b.2.2.1>=0)))) (some false)).bind λp=>cond p (some ([],[],(-1),30)) ((ay5 N N (b.2.2.2.2.1,g.1,b.2.2.2.2.1,(b.2.2.2.2.1.length:Int),0,0,0,n,o,e,b.1,b.2.1,b.2.2.1,b.2.2.2.1,b.2.2.2.2.1,b.2.2.2.2.2.1,b.2.2.2.2.2.2)).bind λq=>match q with|.inl h=>some ([],[],h.1,h.2)|.inr a=>(QG N (a.2.2.2.1,a.2.2.2.2.1,a.2.2.2.2.2.1,a.2.2.2.2.2.2.1,a.2.2.2.2.2.2.2.1,a.2.2.2.2.2.2.2.2.1,a.2.2.2.2.2.2.2.2.2.1,a.2.2.2.2.2.2.2.2.2.2.1,a.2.2.2.2.2.2.2.2.2.2.2.1,a.2.2.2.2.2.2.2.2.2.2.2.2)).bind λi=>cond (!i.2) (some ([],[],(-1),36)) ((KA N (a.1,a.2.2.2.2.2.2.2.1,(a.2.2.2.2.2.2.2.2.2.1.length:Int))).bind λd=>cond (d.2!=0) (some ([],[],(-1),d.2)) ((ap1 N N (i.1,d.1,a.1,(a.1.length:Int),0,a.2.1,a.2.2.1)).bind λr=>match r with|.inl j=>some ([],[],j.1,j.2)|.inr l=>(QI N l.1).bind λc=>cond (c.2==0) ((QI N l.2.1).bind λm=>some (c.1,m.1,0,m.2)) (some (c.1,[],0,c.2))))))
def aff:ai:=(afd N).put 111 afe (Ve N)
def ak9:az bE (aff N):=(ak8 N).pu (asd N) (ak8 N).o.l.l.l (funext λ⟨a,b,c,d⟩=>by rw[Ve,bl3 N N,aT0 N N];kernel_rfl)
def afg:bH:=sg [.c (.sl iE .aY),.c (.sl iE .aY)] [tmf [.bool]]
def Vf:ai:=(aff N).on afg
def aT1:aX:=tmn [(0,.c (.sl iE .aY)),(1,.c (.sl iE .aY)),(12,.I),(13,.I)]
def aT2:aW:=[tmr [(4,.Q)],tmx]
def ay6(N:Nat):Nat->OS->Option (Bool⊕Unit)|0,_=>none|k+1,(b,c,d,a)=>cond (a<d) ((idx b a).bind λe=>(idx c a).bind λf=>cond (!(e.1==f.1&&(e.2==f.2&&true))) (some (Sum.inl false)) (ay6 N k (b,c,d,(au (a+1))))) (some (Sum.inr ()))
def bl5:∀k,ay6 N k=tmq (Vf N) 6 112 aT1 aT2 k:=lpI (λ_=>rfl) λk=>by kernel_rfl
def ase:ai:=(Vf N).aa N 0 6 aT1 aT2
def KC:List e8×List e8->Option Bool|(a,b)=>cond ((a.length:Int)!=(b.length:Int)) false ((ay6 N N (a,b,(a.length:Int),0)).bind λc=>match c with|.inl d=>d|.inr e=>true)
def afh:ai:=(aff N).put 112 afg (KC N)
def ala:az bE (afh N):=(ak9 N).pu (ase N) (ak9 N).o.l (funext λ⟨a,b⟩=>by rw[KC,bl5 N N];kernel_rfl)
def s60:bH:=⟨[.agg (bq bp)],[tmf [.I],tmf [.I],tmf [.I]],0,[(0,13,43,.bool)],[],[],[]⟩
def ach:ai:=(afh N).on s60
def aT3:aX:=tm [(1,.P 0 1 0),(15,.D dV),(16,.I),(17,.I)] [] [(0,1,.box 0 (bq bp))] 1 [] 1
def aT4:aW:=[tmr [(2,.I),(3,.I),(4,.I)],tmx]
def ay7:Nat->List Func×Int×Int×dz->Option ((Int×Int×Int)⊕Unit)|0,_=>none|k+1,(c,d,a,e,f,g)=>cond (a<d) ((idx c a).bind λh=>(Ve N (e,f,g,a)).bind λb=>(cond (b.2.2.2==0) ((KC N (b.1,h.2.2.2.2.2.1)).bind λi=>cond (!i) (some true) ((KC N (b.2.1,h.2.2.2.2.2.2)).bind λj=>some (!j))) (some false)).bind λl=>cond l (some (Sum.inl (a,(-1),32))) (cond (b.2.2.2!=0) (some (Sum.inl (a,b.2.2.1,b.2.2.2))) (ay7 k (c,d,(au (a+1)),e,f,g)))) (some (Sum.inr ()))
def bl6:∀k,ay7 N k=tmq (ach N) 7 60 aT3 aT4 k:=lpI (λ_=>rfl) λk=>by kernel_rfl
def awc:ai:=(ach N).aa N 0 7 aT3 aT4
def F60:dz->Option (Int×Int×Int)|(c,d,a)=>(F71 N (c,d,a)).bind λe=>cond (e !=0) (some (0,0,e)) ((ay7 N N (a,(a.length:Int),0,c,d,a)).bind λf=>match f with|.inl b=>(b.1,b.2.1,b.2.2)|.inr g=>some (0,0,0))
def G60:ai:=(afh N).put 60 s60 (F60 N)
def K60:az bE (G60 N):=(ala N).pu (awc N) (ala N).o.l (funext λ⟨a,b,c⟩=>by rw[F60,bl6 N N];kernel_rfl)
def s22:bH:=sg [.agg (cv bp)] [tmf [.I]]
def F22:dz->Option Int|(a,b,c)=>(F60 N (a,b,c)).bind λd=>d.2.2
def G22:ai:=(G60 N).put 22 s22 (F22 N)
def K22:az bE (G22 N):=(K60 N).pl (by kernel_rfl)
def s61:bH:=⟨[.I,.I,.I],[tmf [.bool]],0,[(0,1,6,.bool)],[],[],[]⟩
def F61(N:Nat):Int×Int×Int->Option Bool|(a,b,c)=>(cond (a>=b) (some (decide (a<=c))) (some false)).bind λd=>d
def G61:ai:=(G22 N).put 61 s61 (F61 N)
def K61:az bE (G61 N):=(K22 N).pl (by kernel_rfl)
def s63:bH:=sg [.I] [tmf [.bool]]
def F63:Int->Option Bool|a=>(F61 N (a,0,65535)).bind λb=>some (!b)
def G63:ai:=(G61 N).put 63 s63 (F63 N)
def K63:az bE (G63 N):=(K61 N).pl (by kernel_rfl)
def s23:bH:=⟨[.agg (cv Ia)],[tmf [.I]],0,[(0,2,4,.bool)],[],[],[]⟩
def aci:ai:=(G63 N).on s23
def aT5:aX:=tm [(0,.c (.sl .I .aY)),(1,.fL 63 []),(7,.I),(8,.I)] [[],[]] [] 3 [] 0
def aT6:aW:=[(.ret,tm [(4,.I)] [[],[]] [] 3 [] 0),(.exit 0,tm [] [[],[]] [] 3 [] 0)]
def aE3:Nat->tmI×Int×Int->Option (Int⊕Unit)|0,_=>none|k+1,(b,c,a)=>cond (a<c) ((idx b a).bind λd=>(F63 N d).bind λe=>cond e (some (Sum.inl a)) (aE3 k (b,c,(au (a+1))))) (some (Sum.inr ()))
def bl7:∀k,aE3 N k=lp (aci N) 1036001007000 3 (tq 113) 3 aT5 aT6 k:=lpI (λ_=>rfl) λk=>by kernel_rfl
def awn:ai:=(aci N).aa N 1036001007000 3 aT5 aT6
def F23:BG->Option Int|(a,b,c,d,e)=>((F61 N (b,1,5000)).bind λf=>cond f ((F61 N (c,0,4096)).bind λg=>cond g ((F61 N (d,0,16384)).bind λh=>cond h ((F61 N (e,1,16)).bind λi=>cond i (some (decide ((a.length:Int)<=2000))) (some false)) (some false)) (some false)) (some false)).bind λj=>cond (!j) (some 8) ((aE3 N N (a,(a.length:Int),0)).bind λl=>match l with|.inl m=>cond (m>=0) (some 8) (some 0)|.inr n=>some 0)
def G23:ai:=(G63 N).put 23 s23 (F23 N)
def K23:az bE (G23 N):=(K63 N).pu (awn N) (K63 N).o.l (funext λ⟨a,b,c,d,e⟩=>by rw[F23,bl7 N N];kernel_rfl)
def s64:bH:=⟨[.agg (cv aF),.I],[tmf [.I]],0,[(0,1,20,.bool),(0,4,26,.bool)],[],[],[]⟩
def F64(N:Nat):Int×tmI×Int->Option Int|(c,a,b)=>(cond (c !=65536) (some true) (cond ((Int.tmod (a.length:Int) 8)!=0) (some true) (some (decide ((a.length:Int)>16384))))).bind λd=>cond d (some 8) ((cond (b<0) (some true) (some (decide (b>16384)))).bind λe=>cond e (some 2) (some 0))
def G64:ai:=(G23 N).put 64 s64 (F64 N)
def K64:az bE (G64 N):=(K23 N).pl (by kernel_rfl)
def s24:bH:=sg [.agg (cv aF),.I] [tmf [.I],tmf [.I]]
def F24:Int×tmI×Int->Option (Int×Int)|(d,a,b)=>(F64 N (d,a,b)).bind λc=>cond (c !=0) (some (0,c)) (some ((max 0 (au ((au (Int.tdiv (au (b-(a.length:Int))) 8))*8))),0))
def G24:ai:=(G64 N).put 24 s24 (F24 N)
def K24:az bE (G24 N):=(K64 N).pl (by kernel_rfl)
def ald:bH:=sg [.I] [tmf [.U]]
def M5(N:Nat):Int->Option Int|a=>some (aK (16777216*(aK (au (a+1)))))
def ale:ai:=(G24 N).put 114 ald (M5 N)
def alf:az bE (ale N):=(K24 N).pl (by kernel_rfl)
def alg:bH:=⟨[.U],[tmf [.bool]],0,[(0,1,2,.bool)],[],[],[]⟩
def QJ(N:Nat):Int->Option Bool|a=>(cond (a>=256) (some (decide (a<8448))) (some false)).bind λb=>b
def alh:ai:=(ale N).put 115 alg (QJ N)
def ali:az bE (alh N):=(alf N).pl (by kernel_rfl)
def alj:bH:=⟨[.U],[tmf [.bool]],0,[(0,1,2,.bool)],[],[],[]⟩
def KD(N:Nat):Int->Option Bool|a=>(cond (a==0) (some true) (cond ((Int.tmod a 8)==0) (some (decide (a>=65536))) (some false))).bind λb=>b
def alk:ai:=(alh N).put 116 alj (KD N)
def alm:az bE (alk N):=(ali N).pl (by kernel_rfl)
def s65:bH:=⟨[.I,.agg (bq kA)],[tmf [.bool]],0,[(0,5,36,.bool),(0,8,4,.bool)],[],[],[]⟩
def F65:Int×Ko->Option Bool|(c,b,d,a,e,f,h)=>cond (b==3) ((M5 N c).bind λi=>some (b==3&&(d==0&&(a==i&&(e==0&&(f==0&&(h==0&&true))))))) ((M5 N c).bind λg=>((M5 N c).bind λj=>cond (a<j) (some true) (cond ((aK (a-g))<24) (some true) (cond ((aK (a-g))>4096) (some true) (some ((Int.tmod (aK (a-g)) 8)!=0))))).bind λl=>cond l false ((cond (b==2) ((QJ N d).bind λm=>cond m ((KD N e).bind λn=>cond n ((KD N f).bind λo=>some o) (some false)) (some false)) (cond (b==1) (cond (h==0) ((QJ N d).bind λp=>cond p ((KD N e).bind λq=>cond q ((KD N f).bind λr=>some r) (some false)) (some false)) (some false)) (some false))).bind λs=>s))
def G65:ai:=(alk N).put 65 s65 (F65 N)
def K65:az bE (G65 N):=(alm N).pl (by kernel_rfl)
def s25:bH:=⟨[.c (.sl kA .aY)],[tmf [.I]],0,[(0,1,12,.bool)],[],[],[]⟩
def acj:ai:=(G65 N).on s25
def aT7:aX:=tmn [(13,.c (.sl kA .aY)),(14,.I),(15,.I)]
def aT8:aW:=[tmr [(2,.I)],tmx]
def ay8:Nat->List eY×Int×Int->Option (Int⊕Unit)|0,_=>none|k+1,(c,d,b)=>cond (b<d) ((idx c b).bind λa=>(F65 N (b,a.1,a.2.1,a.2.2.1,a.2.2.2.1,a.2.2.2.2.1,a.2.2.2.2.2)).bind λe=>cond (!e) (some (Sum.inl 8)) (ay8 k (c,d,(au (b+1))))) (some (Sum.inr ()))
def bl8:∀k,ay8 N k=tmq (acj N) 6 25 aT7 aT8 k:=lpI (λ_=>rfl) λk=>by kernel_rfl
def awy:ai:=(acj N).aa N 0 6 aT7 aT8
def F25:List eY->Option Int|a=>(cond ((a.length:Int)<1) (some true) (some (decide ((a.length:Int)>16)))).bind λb=>cond b (some 8) ((ay8 N N (a,(a.length:Int),0)).bind λc=>match c with|.inl d=>d|.inr e=>some 0)
def G25:ai:=(G65 N).put 25 s25 (F25 N)
def K25:az bE (G25 N):=(K65 N).pu (awy N) (K65 N).o.l (funext λa=>by rw[F25,bl8 N N];kernel_rfl)
def s67:bH:=sg [] [(true,(bq aF))]
def F67(N:Nat):Unit->Option (Int×tmI)|()=>some (65536,[])
def G67:ai:=(G25 N).put 67 s67 (F67 N)
def K67:az bE (G67 N):=(K25 N).pl (funext λ()=>by rw[F67];kernel_rfl)
def alp:bH:=sg [.I] [tmf [.I]]
def QK(N:Nat):Int->Option Int|a=>some (max 8 (au ((au (Int.tdiv (au (a+7)) 8))*8)))
def alq:ai:=(G67 N).put 157 alp (QK N)
def alr:az bE (alq N):=(K67 N).pl (by kernel_rfl)
def als:bH:=⟨[.U],[tmf [.bool]],0,[(0,1,2,.bool)],[],[],[]⟩
def aat(N:Nat):Int->Option Bool|a=>(cond (a>=8) (cond (a<=1099511627776) (some ((Int.tmod a 8)==0)) (some false)) (some false)).bind λb=>b
def alu:ai:=(alq N).put 128 als (aat N)
def alv:az bE (alu N):=(alr N).pl (by kernel_rfl)
def s82:bH:=⟨[.agg (cv aF)],[tmf [.I]],0,[(0,1,12,.bool)],[],[],[]⟩
def F82:Int×tmI->Option Int|(a,b)=>((aat N a).bind λc=>cond (!c) (some true) (some (decide ((b.length:Int)>20000)))).bind λd=>cond d (some 8) (some 0)
def G82:ai:=(alu N).put 82 s82 (F82 N)
def K82:az bE (G82 N):=(alv N).pl (by kernel_rfl)
def alw:bH:=⟨[.agg (cv aF),.I],[(true,(bq aF)),tmf [.I]],0,[(0,5,19,.bool)],[],[(0,22,.B)],[]⟩
def Vg:Int×tmI×Int->Option (Int×tmI×Int)|(b,c,a)=>(F82 N (b,c)).bind λd=>cond (d !=0) (some (0,[],d)) ((cond (a<0) (some true) (some (decide (a>20000)))).bind λe=>cond e (some (0,[],2)) (aH (decide (0<=a)) (aH (decide (0<=a)) (aH (decide (a.toNat<=a.toNat)&&room a.toNat 1) (some (b,(CB c (List.replicate a.toNat (0:Int))),0))))))
def alx:ai:=(G82 N).put 158 alw (Vg N)
def aly:az bE (alx N):=(K82 N).pl (by kernel_rfl)
def alz:bH:=⟨[.agg (cv aF),.I,.I],[(true,(bq aF)),tmf [.U],tmf [.I]],0,[(0,5,27,.bool)],[],[],[]⟩
def Vh:Int×tmI×Int×Int->Option (Int×tmI×Int×Int)|(c,a,b,f)=>(F24 N (c,a,f)).bind λd=>cond (d.2!=0) (some (0,[],0,d.2)) ((cond (b<0) (some true) (some (decide (b>4096)))).bind λg=>cond g (some (0,[],0,2)) ((QK N b).bind λh=>cond (h>d.1) (some (0,[],0,18)) ((QK N b).bind λi=>(Vg N (c,a,(au ((a.length:Int)+i)))).bind λe=>some (e.1,e.2.1,(aK (c+(aK (a.length:Int)))),e.2.2))))
def alA:ai:=(alx N).put 117 alz (Vh N)
def alB:az bE (alA N):=(aly N).pl (by kernel_rfl)
def s84:bH:=⟨[.agg (cv aF),.U,.I],[tmf [.I],tmf [.bool]],0,[(0,1,23,.bool)],[],[],[]⟩
def Y0(N:Nat):Int×tmI×Int×Int->Option (Int×Bool)|(a,c,b,d)=>(cond (b<a) (some true) (some (decide ((aK (b-a))>(aK (c.length:Int)))))).bind λe=>cond e (some (0,false)) (some ((au (aK (b-a))),(decide (d<=(au ((c.length:Int)-(au (aK (b-a)))))))))
def G84:ai:=(alA N).put 84 s84 (Y0 N)
def K84:az bE (G84 N):=(alB N).pl (by kernel_rfl)
def s86:bH:=sg [.agg (cv aF),.U,.I] [tmf [.bool],tmf [.I]]
def F86:Int×tmI×Int×Int->Option (Bool×Int)|(a,b,e,c)=>(F82 N (a,b)).bind λd=>cond (d !=0) (false,d) (cond (c<0) (some (false,2)) ((Y0 N (a,b,e,c)).bind λf=>some (f.2,0)))
def G86:ai:=(G84 N).put 86 s86 (F86 N)
def K86:az bE (G86 N):=(K84 N).pl (by kernel_rfl)
def alC:bH:=sg [.agg (cv aF),.U,.c (.sl .B .aY)] [(true,(bq aF)),tmf [.I]]
def Vi:Int×tmI×Int×tmI->Option (Int×tmI×Int)|(d,a,f,c)=>(F86 N (d,a,f,(c.length:Int))).bind λe=>cond (e.2!=0) (some (0,[],e.2)) (cond (!e.1) (some (0,[],16)) ((Y0 N (d,a,f,(c.length:Int))).bind λb=>aH (room a.length 1) (aH (decide (0<=b.1)) (aH (decide (b.1.toNat<=a.length)) (aH (decide (b.1.toNat+(a.length-b.1.toNat)<=a.length)) (some (d,(a.take b.1.toNat++(c.take (min c.length (a.length-b.1.toNat))++a.drop (b.1.toNat+(c.take (min c.length (a.length-b.1.toNat))).length))),0)))))))
def alD:ai:=(G86 N).put 118 alC (Vi N)
def alE:az bE (alD N):=(K86 N).pl (by kernel_rfl)
def s68:bH:=sg [.agg (cv aF),.c (.sl .B .aY),.I] [(true,(bq aF)),tmf [.U],tmf [.I]]
def F68:Int×tmI×tmI×Int->Option (Int×tmI×Int×Int)|(d,e,c,f)=>(Vh N (d,e,(c.length:Int),f)).bind λa=>cond (a.2.2.2!=0) (some (0,[],0,a.2.2.2)) ((Vi N (a.1,a.2.1,a.2.2.1,c)).bind λb=>(b.1,b.2.1,a.2.2.1,b.2.2))
def G68:ai:=(alD N).put 68 s68 (F68 N)
def K68:az bE (G68 N):=(alE N).pl (by kernel_rfl)
def s26:bH:=⟨[.c (.sl .str .aY),.I],[(true,(bq aF)),tmf [.D .U],tmf [.I]],0,[],[],[(0,61,.U)],[]⟩
def acm:ai:=(G68 N).on s26
def aT9:aX:=tm [(0,.c (.sl .str .aY)),(1,.I),(4,.P 0 4 0),(5,.P 0 5 1),(6,.P 0 6 2),(12,.fL 66 [.P 0 6 2,.P 0 4 0,.P 0 5 1]),(27,.c (.sl .str .aY)),(28,.I),(29,.I)] [] [(0,4,.box 0 (bq aF)),(0,5,.box 1 [.nil true]),(0,6,.box 2 [.I])] 1 [] 3
def aU0:aW:=[(.exit 1099511627776,tm [(4,.P 0 4 0),(5,.P 0 5 1),(6,.P 0 6 2),(12,.fL 66 [.P 0 6 2,.P 0 4 0,.P 0 5 1])] [] [(0,4,.box 0 (bq aF)),(0,5,.box 1 [.nil true]),(0,6,.box 2 [.I])] 1 [] 3),(.exit 0,tm [(0,.c (.sl .str .aY)),(1,.I),(4,.P 0 4 0),(5,.P 0 5 1),(6,.P 0 6 2),(12,.fL 66 [.P 0 6 2,.P 0 4 0,.P 0 5 1])] [] [(0,4,.box 0 (bq aF)),(0,5,.box 1 [.nil true]),(0,6,.box 2 [.I])] 1 [] 3)]
def ay9(N:Nat):Nat->List (List UInt8)×Int×List (List UInt8)×Int×Int×Int×tmI×Int->Option ((Int×tmI×Int)⊕(List (List UInt8)×Int×Int×tmI×Int))|0,_=>none|k+1,(d,e,f,g,a,b,c,h)=>cond (a<g) ((idx f a).bind λi=>cond ((i.length:Int)>64) (some (Sum.inl (b,c,2))) (ay9 N k (d,e,f,g,(au (a+1)),b,c,h))) (some (Sum.inr (d,e,b,c,h)))
def bl9:∀k,ay9 N k=tmq (acm N) 13 26 aT9 aU0 k:=lpI (λ_=>rfl) λk=>by kernel_rfl
def acn:ai:=(acm N).aa N 0 13 aT9 aU0
def aU1:aX:=tm [(1,.I),(4,.P 0 4 0),(5,.P 0 5 1),(6,.P 0 6 2),(12,.fL 66 [.P 0 6 2,.P 0 4 0,.P 0 5 1]),(39,.c (.sl .str .aY)),(40,.I),(41,.I)] [] [(0,4,.box 0 (bq aF)),(0,5,.box 1 [.A .U 3]),(0,6,.box 2 [.I])] 1 [3] 4
def aU2:aW:=[(.exit 1099511627776,tm [(4,.P 0 4 0),(5,.P 0 5 1),(6,.P 0 6 2),(12,.fL 66 [.P 0 6 2,.P 0 4 0,.P 0 5 1])] [] [(0,4,.box 0 (bq aF)),(0,5,.box 1 [.A .U 3]),(0,6,.box 2 [.I])] 1 [3] 4),(.exit 2,tm [(4,.P 0 4 0),(5,.P 0 5 1),(6,.P 0 6 2),(12,.fL 66 [.P 0 6 2,.P 0 4 0,.P 0 5 1])] [] [(0,4,.box 0 (bq aF)),(0,5,.box 1 [.A .U 3]),(0,6,.box 2 [.I])] 1 [3] 4)]
def UV:Nat->Int×List (List UInt8)×Int×Int×Int×tmI×tmI×Int->Option ((Int×tmI×tmI×Int)⊕(Int×tmI×tmI×Int))|0,_=>none|k+1,(d,e,f,c,g,h,b,i)=>cond (c<f) ((idx e c).bind λj=>(F68 N (g,h,(bP j),d)).bind λa=>cond (a.2.2.2!=0) (some (Sum.inl (a.1,a.2.1,b,a.2.2.2))) (aH (room (b.length+1) 8) (UV k (d,e,f,(au (c+1)),a.1,a.2.1,(b++[a.2.2.1]),a.2.2.2)))) (some (Sum.inr (g,h,b,i)))
def bm0:∀k,UV N k=tmq (acn N) 24 26 aU1 aU2 k:=lpI (λ_=>rfl) λk=>by kernel_rfl
def awP:ai:=(acn N).aa N 0 24 aU1 aU2
def F26:List (List UInt8)×Int->Option (Int×tmI×tmI×Int)|(f,h)=>(F67 N ()).bind λa=>(F64 N (a.1,a.2,h)).bind λd=>cond (d !=0) (cond (d !=0) (some (0,[],[],d)) (some (a.1,a.2,[],d))) (cond ((f.length:Int)>32) (some (0,[],[],4)) ((ay9 N N (f,h,f,(f.length:Int),0,a.1,a.2,d)).bind λi=>match i with|.inl e=>cond (e.2.2!=0) (some (0,[],[],e.2.2)) (some (e.1,e.2.1,[],e.2.2))|.inr b=>(UV N N (b.2.1,b.1,(b.1.length:Int),0,b.2.2.1,b.2.2.2.1,[],b.2.2.2.2)).bind λj=>match j with|.inl c=>cond (c.2.2.2!=0) (some (0,[],[],c.2.2.2)) (c.1,c.2.1,c.2.2.1,c.2.2.2)|.inr g=>some (g.1,g.2.1,g.2.2.1,0)))
def G26:ai:=(G68 N).put 26 s26 (F26 N)
def K26:az bE (G26 N):=(K68 N).pu (awP N) (K68 N).o.l.l (funext λ⟨a,b⟩=>by rw[F26,bl9 N N,bm0 N N];kernel_rfl)
def s69:bH:=sg [.c (.sl .B .aY),.c (.sl .B .aY)] [tmf [.bool]]
def F69(N:Nat):tmI×tmI->Option Bool|(a,b)=>some ((a.map λ(n:Int)=>UInt8.ofNat n.toNat)==(b.map λ(n:Int)=>UInt8.ofNat n.toNat))
def G69:ai:=(G26 N).put 69 s69 (F69 N)
def K69:az bE (G69 N):=(K26 N).pl (by kernel_rfl)
def s27:bH:=⟨[.c (.sl .B .aY),.c (.sl .B .aY)],[tmf [.bool]],0,[(0,1,4,.bool)],[],[],[]⟩
def F27:tmI×tmI->Option Bool|(b,a)=>(cond ((b.length:Int)>=(a.length:Int)) (aH (decide (0<=(a.length:Int))) (aH (decide ((Int.toNat (a.length:Int))<=b.length)) ((F69 N ((b.take (Int.toNat (a.length:Int))),a)).bind λc=>some c))) (some false)).bind λd=>d
def G27:ai:=(G69 N).put 27 s27 (F27 N)
def K27:az bE (G27 N):=(K69 N).pl (by kernel_rfl)
def s70:bH:=⟨[.agg (cv aF)],[tmf [.I]],0,[(0,2,31,.bool)],[],[],[]⟩
def F70(N:Nat):Int×tmI->Option Int|(a,b)=>(cond ((Int.tmod a 16777216)!=0) (some true) (cond ((aK (Int.tdiv a 16777216))<1) (some true) (cond ((aK (Int.tdiv a 16777216))>16) (some true) (cond ((Int.tmod (b.length:Int) 8)!=0) (some true) (some (decide ((b.length:Int)>4096))))))).bind λc=>cond c (some 8) (some 0)
def G70:ai:=(G27 N).put 70 s70 (F70 N)
def K70:az bE (G70 N):=(K27 N).pl (by kernel_rfl)
def s32:bH:=⟨[.agg (cv bp),.U],[tmf [.I],tmf [.I],tmf [.I]],0,[(0,6,40,.bool)],[],[],[]⟩
def F32:bU Int->Option (Int×Int×Int)|(d,e,b,a)=>(F71 N (d,e,b)).bind λc=>cond (c !=0) (some (0,0,c)) ((cond ((Int.fdiv a 256)==0) (some true) (cond ((Int.fdiv a 256)>(aK (b.length:Int))) (some true) ((idx b (aK ((Int.fdiv a 256)-1))).bind λf=>some (decide ((au (tZ .u64 a 255))>=(f.2.2.2.2.1.length:Int)))))).bind λg=>cond g (some (0,0,6)) (some ((au ((au (Int.fdiv a 256))-1)),(au (tZ .u64 a 255)),0)))
def G32:ai:=(G70 N).put 32 s32 (F32 N)
def K32:az bE (G32 N):=(K70 N).pl (by kernel_rfl)
def s34:bH:=⟨[.c (.sl aR .aY),.c (.sl cS .aY)],[tmf [.D .I],tmf [.I],tmf [.I],tmf [.I]],0,[(0,16,40,.bool)],[],[],[]⟩
def acp:ai:=(G32 N).on s34
def aU3:aX:=tmn [(0,.c (.sl aR .aY)),(1,.c (.sl cS .aY)),(9,.D eX),(25,.c (.sl cS .aY)),(26,.I),(27,.I)]
def aU4:aW:=[tmr [(4,.N),(5,.I),(6,.I),(7,.I)],(.exit 0,tmn [(1,.c (.sl cS .aY)),(9,.D eX)])]
def ap2(N:Nat):Nat->List aA×List Field×List pG×List Field×Int×Int->Option ((Int×Int×Int)⊕(List Field×List pG))|0,_=>none|k+1,(b,c,d,e,f,a)=>cond (a<f) ((idx e a).bind λg=>(cond (g.2<0) (some true) (some (decide (g.2>=b.length)))).bind λh=>cond h (some (Sum.inl (0,0,2))) (ap2 N k (b,c,d,e,f,(au (a+1))))) (some (Sum.inr (c,d)))
def bm1:∀k,ap2 N k=tmq (acp N) 11 34 aU3 aU4 k:=lpI (λ_=>rfl) λk=>by kernel_rfl
def acq:ai:=(acp N).aa N 0 11 aU3 aU4
def aU5:aX:=tmn [(1,.c (.sl cS .aY)),(9,.D eX),(42,.c (.sl cS .aY)),(43,.I),(44,.I)]
def aU6:aW:=[tmr [(4,.N),(5,.I),(6,.I),(7,.I)],(.exit 2,tmn [(1,.c (.sl cS .aY)),(9,.D eX)])]
def ap3(N:Nat):Nat->List Field×List pG×List Field×Int×Int->Option ((Int×Int×Int)⊕(List Field×List pG))|0,_=>none|k+1,(c,a,d,e,b)=>cond (b<e) ((idx d b).bind λf=>(idx a f.2).bind λg=>cond (g.1>256) (some (Sum.inl (0,0,16))) (ap3 N k (c,a,d,e,(au (b+1))))) (some (Sum.inr (c,a)))
def bm2:∀k,ap3 N k=tmq (acq N) 22 34 aU5 aU6 k:=lpI (λ_=>rfl) λk=>by kernel_rfl
def aw3:ai:=(acq N).aa N 0 22 aU5 aU6
def F34:List aA×List Field->Option (tmI×Int×Int×Int)|(c,a)=>(F74 N c).bind λg=>cond (g !=0) (some ([],0,0,g)) (cond ((a.length:Int)>16) (some ([],0,0,4)) ((F75 N c).bind λi=>(ap2 N N (c,a,i,a,(a.length:Int),0)).bind λj=>match j with|.inl d=>some ([],d.1,d.2.1,d.2.2)|.inr b=>(ap3 N N (b.1,b.2,b.1,(b.1.length:Int),0)).bind λl=>match l with|.inl e=>some ([],e.1,e.2.1,e.2.2)|.inr h=>(F76 N (h.2,h.1)).bind λf=>some (f.1,f.2.1,f.2.2,0)))
def G34:ai:=(G32 N).put 34 s34 (F34 N)
def K34:az bE (G34 N):=(K32 N).pu (aw3 N) (K32 N).o.l.l (funext λ⟨a,b⟩=>by rw[F34,bm1 N N,bm2 N N];kernel_rfl)
def s73:bH:=sg [.agg (cv bp),.I] [tmf [.D .I],tmf [.I]]
def F73:bU Int->Option (tmI×Int)|(b,g,c,d)=>(idx c d).bind λe=>(F34 N (b,e.2.2.2.1)).bind λa=>(Ky N a.2.1).bind λf=>(a.1,f.1)
def G73:ai:=(G34 N).put 73 s73 (F73 N)
def K73:az bE (G73 N):=(K34 N).pl (by kernel_rfl)
def s13:bH:=⟨[.c (.sl iE .aY),.I,.I],[tmf [.U],tmf [.I]],0,[(0,5,22,.bool)],[],[],[]⟩
def acr:ai:=(G73 N).on s13
def aU7:aX:=tm [(1,.fL 37 [.P 0 3 0,.P 0 5 1]),(5,.I),(6,.I)] [[(3,.P 0 3 0)]] [(0,3,.box 0 [.sl iE .aY]),(0,5,.box 1 [.I])] 2 [] 2
def aU8:aW:=[(.exit 0,tm [(5,.I)] [[(3,.P 0 3 0)]] [(0,3,.box 0 [.sl iE .aY])] 2 [] 1)]
def ap4(N:Nat):Nat->Int×Int×List e8×Int->Option (Int×List e8)|0,_=>none|k+1,(a,b,c,d)=>cond (a<b) ((idx c (au (Int.fdiv (aK (au (a+b))) 2))).bind λe=>cond (!(decide (e.1>d))) (ap4 N k ((au ((au (Int.fdiv (aK (au (a+b))) 2))+1)),b,c,d)) (ap4 N k (a,(au (Int.fdiv (aK (au (a+b))) 2)),c,d))) (a,c)
def bm3:∀k,ap4 N k=lp (acr N) 1026000 3 (tq 36) 3 aU7 aU8 k:=lpI (λ_=>rfl) λk=>by kernel_rfl
def aw8:ai:=(acr N).aa N 1026000 3 aU7 aU8
def F13:List e8×Int×Int->Option (Int×Int)|(a,c,b)=>(F35 N (a,c)).bind λd=>cond (d !=0) (some (0,d)) ((cond (b<0) (some true) (some (decide (b>=c)))).bind λf=>cond f (some (0,2)) ((ap4 N N (0,(a.length:Int),a,b)).bind λe=>(idx e.2 (au (e.1-1))).bind λg=>some (g.2,0)))
def G13:ai:=(G73 N).put 13 s13 (F13 N)
def K13:az bE (G13 N):=(K73 N).pu (aw8 N) (K73 N).o.l (funext λ⟨a,b,c⟩=>by rw[F13,bm3 N N];kernel_rfl)
def s33:bH:=⟨[.agg (cv bp),.U],[tmf [.I],tmf [.I]],0,[(0,7,56,.bool)],[],[],[]⟩
def F33:bU Int->Option (Int×Int)|(d,e,b,g)=>(F32 N (d,e,b,g)).bind λa=>cond (a.2.2!=0) (some (0,a.2.2)) ((F73 N (d,e,b,a.1)).bind λf=>(idx b a.1).bind λh=>(idx b a.1).bind λi=>(F13 N (h.2.2.2.2.2.1,(i.2.2.2.2.1.length:Int),a.2.1)).bind λc=>(cond (c.1>4096) (some true) (some (decide ((au ((au (24+f.2))+(au c.1)))>4096)))).bind λj=>cond j (some (0,16)) (some ((au ((au (24+f.2))+(au c.1))),0)))
def G33:ai:=(G13 N).put 33 s33 (F33 N)
def K33:az bE (G33 N):=(K13 N).pl (by kernel_rfl)
def alI:bH:=⟨[.agg (cv aF),.U,.I],[tmf [.I],tmf [.I]],0,[(0,5,21,.bool)],[],[],[]⟩
def aau:Int×tmI×Int×Int->Option (Int×Int)|(b,c,f,a)=>(F82 N (b,c)).bind λd=>cond (d !=0) (some (0,d)) ((cond (a !=1) (some (a !=8)) (some false)).bind λg=>cond g (some (0,2)) ((Y0 N (b,c,f,a)).bind λe=>cond (!e.2) (some (0,16)) (some (e.1,0))))
def afm:ai:=(G33 N).put 164 alI (aau N)
def alJ:az bE (afm N):=(K33 N).pl (by kernel_rfl)
def afn:bH:=sg [.agg (cv aF),.U,.I] [tmf [.U],tmf [.I]]
def Vl:ai:=(afm N).on afn
def aU9:aX:=tm [(3,.P 0 3 0),(8,.I),(10,.U),(11,.I)] [] [(0,3,.box 0 (cv aF))] 1 [] 1
def aV0:aW:=[(.exit 0,tmn [(10,.U)])]
def M2(N:Nat):Nat->Int×Int×Int×Int×tmI->Option Int|0,_=>none|k+1,(b,c,a,e,d)=>cond (a>=0) ((idx d (au (b+a))).bind λf=>M2 N k (b,(BD .u64 (aK (c*256)) (aK f)),(au (a-1)),e,d)) c
def bm4:∀k,M2 N k=tmq (Vl N) 8 120 aU9 aV0 k:=lpI (λ_=>rfl) λk=>by kernel_rfl
def ast:ai:=(Vl N).aa N 0 8 aU9 aV0
def M6:Int×tmI×Int×Int->Option (Int×Int)|(b,c,e,d)=>(aau N (b,c,e,d)).bind λa=>cond (a.2!=0) (some (0,a.2)) ((M2 N N (a.1,0,(au (d-1)),b,c)).bind λf=>some (f,0))
def alK:ai:=(afm N).put 120 afn (M6 N)
def alL:az bE (alK N):=(alJ N).pu (ast N) (alJ N).o.l (funext λ⟨a,b,c,d⟩=>by rw[M6,bm4 N N];kernel_rfl)
def alM:bH:=⟨[.U,.U],[tmf [.bool]],0,[(0,1,4,.bool)],[],[],[]⟩
def Vm(N:Nat):Int×Int->Option Bool|(a,b)=>(cond (a<=3) (some ((b !=0)==(decide (a>=2)))) (some false)).bind λc=>c
def alN:ai:=(alK N).put 121 alM (Vm N)
def alO:az bE (alN N):=(alL N).pl (by kernel_rfl)
def s72:bH:=⟨[.agg (cv aF),.U],[tmf [.U],tmf [.U],tmf [.U],tmf [.I]],0,[(0,6,28,.bool)],[],[],[]⟩
def F72:Int×tmI×Int->Option (Int×Int×Int×Int)|(a,b,c)=>(F70 N (a,b)).bind λd=>cond (d !=0) (some (0,0,0,d)) ((F86 N (a,b,c,24)).bind λg=>(cond (!g.1) (some true) (some ((Int.tmod c 8)!=0))).bind λh=>cond h (some (0,0,0,16)) ((M6 N (a,b,c,8)).bind λi=>(M6 N (a,b,(aK (c+8)),8)).bind λe=>(M6 N (a,b,(aK (c+16)),8)).bind λf=>(Vm N (e.1,f.1)).bind λj=>cond (!j) (some (0,0,0,12)) (some (i.1,e.1,f.1,0))))
def G72:ai:=(alN N).put 72 s72 (F72 N)
def K72:az bE (G72 N):=(alO N).pl (by kernel_rfl)
def s28:bH:=⟨[.agg (cv aF),.agg (cv bp),.U],[tmf [.D AH],tmf [.I]],0,[(0,19,58,.bool),(0,25,96,.bool),(0,33,11,.I)],[],[(0,106,AH)],[]⟩
def acs:ai:=(G72 N).on s28
def aV1:aX:=tm [(2,.U),(3,.P 0 3 0),(4,.P 0 4 1),(10,.U),(11,.I),(12,.A AH 2)] [] [(0,3,.box 0 (cv aF)),(0,4,.box 1 (cv bp))] 1 [2] 3
def aV2:aW:=[(.ret,tmv [(6,.A AH 0),(7,.I)] 0 1)]
def az0:Nat->Int×Int×Int×List Km×Int×tmI×dz->Option (List Km×Int)|0,_=>none|k+1,(j,c,l,f,e,m,g,h,i)=>(F32 N (g,h,i,j)).bind λd=>cond (d.2.2!=0) (some ([],d.2.2)) ((F33 N (g,h,i,j)).bind λb=>(cond (b.2!=0) (some true) (some (decide ((aK b.1)>c)))).bind λn=>cond n (some ([],16)) ((F72 N (e,m,(aK (e+(aK (c-(aK b.1))))))).bind λa=>(cond (a.2.2.2!=0) (some true) (cond (!((a.1==0)==((aK (c-(aK b.1)))==0))) (some true) (cond (a.2.1==0) (cond (a.1!=0) (some ((Int.tmod a.1 256)==0)) (some false)) (some false)))).bind λo=>cond o (some ([],12)) (aH (room (f.length+1) 40) (cond (a.1!=0) ((cond (a.2.1==0) (some 1) (some 0)).bind λp=>az0 k (a.1,(aK (c-(aK b.1))),p,(f++[((aK (e+(aK (c-(aK b.1))))),d.1,(au (d.2.1-l)),a.2.1,a.2.2.1)]),e,m,g,h,i)) (some ((f++[((aK (e+(aK (c-(aK b.1))))),d.1,(au (d.2.1-l)),a.2.1,a.2.2.1)]),0))))))
def bm5:∀k,az0 N k=tmq (acs N) 12 28 aV1 aV2 k:=lpI (λ_=>rfl) λk=>by kernel_rfl
def axg:ai:=(acs N).aa N 0 12 aV1 aV2
def Y1:Int×tmI×bU Int->Option (List Km×Int)|(b,a,c,d,e,i)=>(F70 N (b,a)).bind λf=>cond (f !=0) (some ([],f)) ((F71 N (c,d,e)).bind λg=>cond (g !=0) (some ([],g)) ((az0 N N (i,(aK (a.length:Int)),0,[],b,a,c,d,e)).bind λh=>(h.1,h.2)))
def G28:ai:=(G72 N).put 28 s28 (Y1 N)
def K28:az bE (G28 N):=(K72 N).pu (axg N) (K72 N).o.l (funext λ⟨a,b,c,d,e,f⟩=>by rw[Y1,bm5 N N];kernel_rfl)
def s11:bH:=⟨[.agg (cv fF)],[tmf [.I]],0,[(0,5,54,.bool),(0,8,76,.bool),(0,12,98,.bool),(0,23,146,.bool)],[],[],[]⟩
def acu:ai:=(G28 N).on s11
def aV3:aX:=tm [(1,.P 0 1 0),(100,.c (.sl aF .aY)),(101,.I),(102,.I)] [] [(0,1,.box 0 (cv fF))] 1 [] 1
def aV4:aW:=[tmr [(2,.I)],tmx]
def WF:Nat->List Region×Int×Int×pH->Option (Int⊕Unit)|0,_=>none|k+1,(c,d,b,e,f,g,l,h,m,n,o,p,q,i,r)=>cond (b<d) ((idx c b).bind λa=>(idx i b).bind λj=>(cond (a.1!=(aK (16777216*(aK (au (b+1)))))) (some true) (cond ((aK (a.1+(aK (a.2.length:Int))))!=j.2.2.1) (some true) (cond ((a.2.length:Int)>h) (some true) (some ((Int.tmod (a.2.length:Int) 8)!=0))))).bind λs=>cond s (some (Sum.inl 8)) (cond (j.1==3) (WF k (c,d,(au (b+1)),e,f,g,l,h,m,n,o,p,q,i,r)) ((Y1 N (a.1,a.2,e,f,g,j.2.1)).bind λt=>cond (t.2!=0) (some (Sum.inl 8)) (WF k (c,d,(au (b+1)),e,f,g,l,h,m,n,o,p,q,i,r))))) (some (Sum.inr ()))
def bm6:∀k,WF N k=tmq (acu N) 17 11 aV3 aV4 k:=lpI (λ_=>rfl) λk=>by kernel_rfl
def axi:ai:=(acu N).aa N 0 17 aV3 aV4
def F11:pH->Option Int|(i,e,j,f,l,a,g,m,b,c,d,h)=>(F22 N (i,e,j)).bind λo=>cond (o !=0) (some 8) ((F23 N ([],f,l,a,g)).bind λp=>cond (p !=0) (some 8) (cond (h<0) (some 8) (cond (h>f) (some 8) ((F24 N (m,b,0)).bind λq=>(cond (q.2!=0) (some true) (some (decide ((b.length:Int)>a)))).bind λr=>cond r (some 8) (((F25 N d).bind λs=>cond (s !=0) (some true) (cond ((d.length:Int)>g) (some true) (some ((c.length:Int)!=(d.length:Int))))).bind λt=>cond t (some 8) ((F26 N (e,a)).bind λn=>(cond (n.2.2.2!=0) (some true) ((F27 N (b,n.2.1)).bind λu=>some (!u))).bind λv=>cond v (some 8) ((WF N N (c,(c.length:Int),0,i,e,j,f,l,a,g,m,b,c,d,h)).bind λw=>match w with|.inl x=>x|.inr y=>some 0)))))))
def G11:ai:=(G28 N).put 11 s11 (F11 N)
def K11:az bE (G11 N):=(K28 N).pu (axi N) (K28 N).o.l (funext λ⟨a,b,c,d,e,f,g,h,i,j,l,m⟩=>by rw[F11,bm6 N N];kernel_rfl)
def afo:bH:=sg [.c (.sl .I .aY)] [tmf [.I]]
def Vn:ai:=(G11 N).on afo
def aV5:aX:=tmn [(0,.c (.sl .I .aY)),(3,.I),(4,.I)]
def aV6:aW:=[(.exit 0,tmn [(3,.I)])]
def aE4(N:Nat):Nat->tmI×Int×Int->Option Int|0,_=>none|k+1,(a,c,b)=>cond (b<a.length) ((idx a b).bind λd=>aE4 N k (a,(min c d),(au (b+1)))) c
def bm7:∀k,aE4 N k=tmq (Vn N) 7 168 aV5 aV6 k:=lpI (λ_=>rfl) λk=>by kernel_rfl
def asz:ai:=(Vn N).aa N 0 7 aV5 aV6
def aav:tmI->Option Int|a=>cond ((a.length:Int)<1) none ((idx a 0).bind λb=>(aE4 N N (a,b,1)).bind λc=>c)
def afp:ai:=(G11 N).put 168 afo (aav N)
def alQ:az bE (afp N):=(K11 N).pu (asz N) (K11 N).o.l (funext λa=>by rw[aav,bm7 N N];kernel_rfl)
def afq:bH:=sg [.c (.sl .I .aY)] [tmf [.I]]
def Vo:ai:=(afp N).on afq
def aV7:aX:=tmn [(0,.c (.sl .I .aY)),(3,.I),(4,.I)]
def aV8:aW:=[(.exit 0,tmn [(3,.I)])]
def aE5(N:Nat):Nat->tmI×Int×Int->Option Int|0,_=>none|k+1,(a,c,b)=>cond (b<a.length) ((idx a b).bind λd=>aE5 N k (a,(max c d),(au (b+1)))) c
def bm8:∀k,aE5 N k=tmq (Vo N) 7 169 aV7 aV8 k:=lpI (λ_=>rfl) λk=>by kernel_rfl
def asA:ai:=(Vo N).aa N 0 7 aV7 aV8
def aaw:tmI->Option Int|a=>cond ((a.length:Int)<1) none ((idx a 0).bind λb=>(aE5 N N (a,b,1)).bind λc=>c)
def alR:ai:=(afp N).put 169 afq (aaw N)
def alS:az bE (alR N):=(alQ N).pu (asA N) (alQ N).o.l (funext λa=>by rw[aaw,bm8 N N];kernel_rfl)
def alU:bH:=⟨[.c (.sl aR .aY),.c (.sl .I .aY)],[tmf [.I]],0,[(0,5,20,.bool)],[],[],[]⟩
def aax:List aA×tmI->Option Int|(a,b)=>(F74 N a).bind λc=>cond (c !=0) c (((aav N b).bind λd=>cond (d<0) (some true) ((aaw N b).bind λe=>some (decide (e>=a.length)))).bind λf=>cond f (some 2) (some 0))
def afr:ai:=(alR N).put 125 alU (aax N)
def alV:az bE (afr N):=(alS N).pl (by kernel_rfl)
def afs:bH:=⟨[.agg (cv aR),.Q],[tmf [.D .I]],0,[(0,2,23,.bool)],[],[(0,27,.I),(0,39,.I)],[]⟩
def Vp:ai:=(afr N).on afs
def aV9:aX:=tmv [(5,.A .I 0),(30,.c (.sl cS .aY)),(31,.I),(32,.I)] 0 1
def aW0:aW:=[(.exit 0,tmv [(5,.A .I 0)] 0 1)]
def ap5(N:Nat):Nat->tmI×List Field×Int×Int->Option tmI|0,_=>none|k+1,(a,c,d,b)=>cond (b<d) ((idx c b).bind λe=>aH (room (a.length+1) 8) (ap5 N k ((a++[e.2]),c,d,(au (b+1))))) a
def bm9:∀k,ap5 N k=tmq (Vp N) 7 170 aV9 aW0 k:=lpI (λ_=>rfl) λk=>by kernel_rfl
def asB:ai:=(Vp N).aa N 0 7 aV9 aW0
def Vq:Df Bool->Option tmI|(b,c,h,a,d)=>(cond (b==6) (some true) (cond d (cond (b==4) (some true) (some (b==7))) (some false))).bind λe=>cond e (aH (room 1 8) ((ap5 N N ([c],a,(a.length:Int),0)).bind λf=>f)) ((ap5 N N ([],a,(a.length:Int),0)).bind λg=>g)
def afu:ai:=(afr N).put 170 afs (Vq N)
def alW:az bE (afu N):=(alV N).pu (asB N) (alV N).o.l (funext λ⟨a,b,c,d,e⟩=>by rw[Vq,bm9 N N];kernel_rfl)
def afv:bH:=⟨[.c (.sl aR .aY),.I,.Q],[tmf [.D .bool]],0,[],[],[(0,14,.bool),(0,19,.I),(0,54,.I)],[]⟩
def Vr:ai:=(afu N).on afv
def aW1:aX:=tm [(0,.c (.sl aR .aY)),(2,.Q),(7,.R 0 14 0 .bool),(8,.R 0 19 1 .I),(39,.D .I),(40,.I),(41,.I)] [] [(0,14,.row 0 .bool),(0,19,.row 1 .I)] 1 [] 2
def aW2:aW:=[(.exit 2,tm [(0,.c (.sl aR .aY)),(2,.Q),(7,.R 0 14 0 .bool),(8,.R 0 19 1 .I)] [] [(0,14,.row 0 .bool),(0,19,.row 1 .I)] 1 [] 2)]
def ap6(N:Nat):Nat->List aA×Bool×tmI×Int×Int×List Bool×tmI->Option (List aA×Bool×List Bool×tmI)|0,_=>none|k+1,(e,f,g,h,c,a,d)=>cond (c<h) ((idx g c).bind λb=>aH (fM b a.length) ((a[b.toNat]?).bind λi=>cond (!i) (aH (room (d.length+1) 8) (aH (fM b a.length) ((a[b.toNat]?).bind λj=>ap6 N k (e,f,g,h,(au (c+1)),(a.set b.toNat true),(d++[b]))))) (ap6 N k (e,f,g,h,(au (c+1)),a,d)))) (e,f,a,d)
def bn0:∀k,ap6 N k=tmq (Vr N) 13 126 aW1 aW2 k:=lpI (λ_=>rfl) λk=>by kernel_rfl
def Vs:ai:=(Vr N).aa N 0 13 aW1 aW2
def aW3:aX:=tm [(0,.c (.sl aR .aY)),(2,.Q),(7,.R 0 14 0 .bool),(8,.R 0 19 1 .I)] [] [(0,14,.row 0 .bool),(0,19,.row 1 .I)] 1 [] 2
def aW4:aW:=[(.exit 0,tm [(7,.R 0 14 0 .bool)] [] [(0,14,.row 0 .bool)] 1 [] 1)]
def ap7:Nat->List aA×Bool×List Bool×tmI->Option (List Bool)|0,_=>none|k+1,(d,e,f,a)=>cond ((a.length:Int)>0) (aH (fM (au ((a.length:Int)-1)) a.length) ((a[(Int.toNat (au ((a.length:Int)-1)))]?).bind λh=>aH (decide (0<=(au ((a.length:Int)-1)))) (aH (decide ((Int.toNat (au ((a.length:Int)-1)))<=a.length)) ((idx d h).bind λb=>(Vq N (b.1,b.2.1,b.2.2.1,b.2.2.2,e)).bind λg=>(ap6 N N (d,e,g,(g.length:Int),0,f,(a.take (Int.toNat (au ((a.length:Int)-1)))))).bind λc=>ap7 k (c.1,c.2.1,c.2.2.1,c.2.2.2))))) f
def aW5:∀k,ap7 N k=tmq (Vs N) 5 126 aW3 aW4 k|0=>rfl|k+1=>funext λ⟨a,b,c,d⟩=>by rw[ap7,aW5 k,bn0 N N];kernel_rfl
def asC:ai:=(Vs N).aa N 0 5 aW3 aW4
def Vt:List aA×Int×Bool->Option (List Bool)|(a,b,c)=>aH (decide (0<=(a.length:Int))) (aH (decide (0<=(a.length:Int))) (aH (decide ((Int.toNat (a.length:Int))<=(Int.toNat (a.length:Int)))&&room (Int.toNat (a.length:Int)) 1) (aH (fM b (List.replicate (Int.toNat (a.length:Int)) false).length) (((List.replicate (Int.toNat (a.length:Int)) false)[b.toNat]?).bind λe=>(ap7 N N (a,c,((List.replicate (Int.toNat (a.length:Int)) false).set b.toNat true),[b])).bind λd=>d))))
def afw:ai:=(afu N).put 126 afv (Vt N)
def alX:az bE (afw N):=(alW N).pu (asC N) (alW N).o.l.l (funext λ⟨a,b,c⟩=>by rw[Vt,aW5 N N];kernel_rfl)
def s79:bH:=⟨[.c (.sl aR .aY),.I],[tmf [.D .I],tmf [.I]],0,[],[],[(0,29,.I)],[]⟩
def acv:ai:=(afw N).on s79
def aW6:aX:=tmv [(7,.A .I 0),(19,.D .bool),(20,.I),(21,.I)] 0 1
def aW7:aW:=[(.exit 0,tmv [(7,.A .I 0)] 0 1)]
def ap8(N:Nat):Nat->tmI×List Bool×Int×Int->Option tmI|0,_=>none|k+1,(b,c,d,a)=>cond (a<d) ((idx c a).bind λe=>cond e (aH (room (b.length+1) 8) (ap8 N k ((b++[a]),c,d,(au (a+1))))) (ap8 N k (b,c,d,(au (a+1))))) b
def bn1:∀k,ap8 N k=tmq (acv N) 8 79 aW6 aW7 k:=lpI (λ_=>rfl) λk=>by kernel_rfl
def axk:ai:=(acv N).aa N 0 8 aW6 aW7
def F79:List aA×Int->Option (tmI×Int)|(a,b)=>(aax N (a,[b])).bind λc=>cond (c !=0) (some ([],c)) ((Vt N (a,b,true)).bind λd=>(ap8 N N ([],d,(d.length:Int),0)).bind λe=>some (e,0))
def G79:ai:=(afw N).put 79 s79 (F79 N)
def K79:az bE (G79 N):=(alX N).pu (axk N) (alX N).o.l (funext λ⟨a,b⟩=>by rw[F79,bn1 N N];kernel_rfl)
def s38:bH:=sg [.c (.sl aR .aY),.I] [tmf [.I],tmf [.I]]
def acw:ai:=(G79 N).on s38
def aW8:aX:=tmn [(0,.c (.sl aR .aY)),(6,.I),(32,.D .I),(33,.I),(34,.I)]
def aW9:aW:=[tmr [(4,.I),(5,.I)],(.exit 0,tmn [(6,.I)])]
def az1:Nat->List aA×Int×tmI×Int×Int->Option ((Int×Int)⊕Int)|0,_=>none|k+1,(b,c,d,e,a)=>cond (a<e) ((idx d a).bind λg=>(Ud N (b,g)).bind λf=>cond (f.2.2!=0) (some (Sum.inl (0,f.2.2))) (az1 k (b,c,d,e,(au (a+1))))) (some (Sum.inr c))
def bn2:∀k,az1 N k=tmq (acw N) 8 38 aW8 aW9 k:=lpI (λ_=>rfl) λk=>by kernel_rfl
def axm:ai:=(acw N).aa N 0 8 aW8 aW9
def F38:List aA×Int->Option (Int×Int)|(a,c)=>(Ud N (a,c)).bind λb=>cond (b.2.2!=0) (some (0,b.2.2)) ((F79 N (a,c)).bind λd=>(az1 N N (a,b.1,d.1,(d.1.length:Int),0)).bind λf=>match f with|.inl e=>(e.1,e.2)|.inr g=>some (g,0))
def G38:ai:=(G79 N).put 38 s38 (F38 N)
def K38:az bE (G38 N):=(K79 N).pu (axm N) (K79 N).o.l (funext λ⟨a,b⟩=>by rw[F38,bn2 N N];kernel_rfl)
def s81:bH:=sg [.agg (cv aF)] [tmf [.bool]]
def F81:Int×tmI->Option Bool|(a,b)=>(F82 N (a,b)).bind λc=>some (c !=0)
def G81:ai:=(G38 N).put 81 s81 (F81 N)
def K81:az bE (G81 N):=(K38 N).pl (by kernel_rfl)
def s83:bH:=⟨[.agg (cv aF),.agg (cv aF)],[tmf [.bool]],0,[(0,1,4,.bool)],[],[],[]⟩
def F83(N:Nat):Int×tmI×Int×tmI->Option Bool|(a,c,b,d)=>(cond (a<(aK (b+(aK (d.length:Int))))) (some (decide (b<(aK (a+(aK (c.length:Int))))))) (some false)).bind λe=>e
def G83:ai:=(G81 N).put 83 s83 (F83 N)
def K83:az bE (G83 N):=(K81 N).pl (by kernel_rfl)
def s39:bH:=⟨[.c (.sl aF .aY),.U,.I],[tmf [.I],tmf [.I]],0,[(0,21,50,.bool)],[],[],[]⟩
def acy:ai:=(G83 N).on s39
def aX0:aX:=tm [(0,.c (.sl aF .aY)),(1,.fL 81 []),(7,.I),(8,.I)] [[],[]] [] 3 [] 0
def aX1:aW:=[(.ret,tm [(4,.I)] [[],[]] [] 3 [] 0),(.exit 0,tm [] [[],[]] [] 3 [] 0)]
def az2:Nat->List Region×Int×Int->Option (Int⊕Unit)|0,_=>none|k+1,(b,c,a)=>cond (a<c) ((idx b a).bind λd=>(F81 N (d.1,d.2)).bind λe=>cond e (some (Sum.inl a)) (az2 k (b,c,(au (a+1))))) (some (Sum.inr ()))
def bn3:∀k,az2 N k=lp (acy N) 1020001007000 3 (tq 127) 3 aX0 aX1 k:=lpI (λ_=>rfl) λk=>by kernel_rfl
def acz:ai:=(acy N).aa N 1020001007000 3 aX0 aX1
def aX2:aX:=tm [(0,.c (.sl aF .aY)),(1,.U),(2,.I),(9,.P 0 9 0),(21,.c (.sl aF .aY)),(22,.I),(23,.I),(30,.c (.sl aF .aY)),(31,.I),(32,.I)] [] [(0,9,.box 0 (bq aF))] 1 [] 1
def aX3:aW:=[tmr [(6,.I),(7,.I)],(.exit 2,tmn [(0,.c (.sl aF .aY)),(1,.U),(2,.I),(21,.c (.sl aF .aY)),(22,.I),(23,.I)])]
def az3:Nat->List Region×Int×Int×List Region×Int×Int×List Region×Int×Int×Int×tmI->Option ((Int×Int)⊕(List Region×Int×Int×List Region×Int×Int))|0,_=>none|k+1,(d,e,f,g,h,i,j,l,a,m,b)=>cond (a<l) ((idx j a).bind λc=>(cond ((b.length:Int)>0) (cond ((c.2.length:Int)>0) ((F83 N (m,b,c.1,c.2)).bind λn=>some n) (some false)) (some false)).bind λo=>cond o (some (Sum.inl (0,14))) (az3 k (d,e,f,g,h,i,j,l,(au (a+1)),m,b))) (some (Sum.inr (d,e,f,g,h,i)))
def bn4:∀k,az3 N k=tmq (acz N) 16 39 aX2 aX3 k:=lpI (λ_=>rfl) λk=>by kernel_rfl
def acA:ai:=(acz N).aa N 0 16 aX2 aX3
def aX4:aX:=tmn [(0,.c (.sl aF .aY)),(1,.U),(2,.I),(21,.c (.sl aF .aY)),(22,.I),(23,.I)]
def aX5:aW:=[tmr [(6,.I),(7,.I)],(.exit 0,tmn [(0,.c (.sl aF .aY)),(1,.U),(2,.I)])]
def WP:Nat->List Region×Int×Int×List Region×Int×Int->Option ((Int×Int)⊕(List Region×Int×Int))|0,_=>none|k+1,(c,d,e,f,g,a)=>cond (a<g) ((idx f a).bind λh=>aH (decide (0<=a)) (aH (decide (a.toNat<=c.length)) ((az3 N N (c,d,e,f,g,a,(c.take a.toNat),((c.take a.toNat).length:Int),0,h.1,h.2)).bind λj=>match j with|.inl i=>some (Sum.inl (i.1,i.2))|.inr b=>WP k (b.1,b.2.1,b.2.2.1,b.2.2.2.1,b.2.2.2.2.1,(au (b.2.2.2.2.2+1)))))) (some (Sum.inr (c,d,e)))
def aX6:∀k,WP N k=tmq (acA N) 9 39 aX4 aX5 k|0=>rfl|k+1=>funext λ⟨a,b,c,d,e,f⟩=>by rw[WP,aX6 k,bn4 N N];kernel_rfl
def acB:ai:=(acA N).aa N 0 9 aX4 aX5
def aX7:aX:=tmn [(1,.U),(2,.I),(55,.c (.sl aF .aY)),(56,.I),(57,.I)]
def aX8:aW:=[tmr [(6,.I),(7,.I)],(.exit 4,tmz)]
def ap9:Nat->Int×Int×List Region×Int×Int->Option ((Int×Int)⊕Unit)|0,_=>none|k+1,(b,c,d,e,a)=>cond (a<e) ((idx d a).bind λf=>(Y0 N (f.1,f.2,b,c)).bind λg=>cond g.2 (some (Sum.inl (a,0))) (ap9 k (b,c,d,e,(au (a+1))))) (some (Sum.inr ()))
def bn5:∀k,ap9 N k=tmq (acB N) 31 39 aX7 aX8 k:=lpI (λ_=>rfl) λk=>by kernel_rfl
def axv:ai:=(acB N).aa N 0 31 aX7 aX8
def F39:List Region×Int×Int->Option (Int×Int)|(a,d,e)=>cond ((a.length:Int)>17) (some (0,4)) ((az2 N N (a,(a.length:Int),0)).bind λj=>match j with|.inl l=>cond (l>=0) (some (0,8)) ((WP N N (a,d,e,a,(a.length:Int),0)).bind λm=>match m with|.inl f=>(f.1,f.2)|.inr b=>cond (b.2.2<1) (some (0,2)) ((ap9 N N (b.2.1,b.2.2,b.1,(b.1.length:Int),0)).bind λn=>match n with|.inl g=>(g.1,g.2)|.inr q=>some (0,6)))|.inr r=>(WP N N (a,d,e,a,(a.length:Int),0)).bind λo=>match o with|.inl h=>(h.1,h.2)|.inr c=>cond (c.2.2<1) (some (0,2)) ((ap9 N N (c.2.1,c.2.2,c.1,(c.1.length:Int),0)).bind λp=>match p with|.inl i=>(i.1,i.2)|.inr s=>some (0,6)))
def G39:ai:=(G83 N).put 39 s39 (F39 N)
def K39:az bE (G39 N):=(K83 N).pu (axv N) (K83 N).o.l.l.l.l (funext λ⟨a,b,c⟩=>by rw[F39,bn3 N N,aX6 N N,bn5 N N];kernel_rfl)
def s41:bH:=sg [.agg (cv aF),.U,.I] [tmf [.D .B],tmf [.I]]
def F41:Int×tmI×Int×Int->Option (tmI×Int)|(e,c,f,b)=>(F86 N (e,c,f,b)).bind λd=>cond (d.2!=0) (some ([],d.2)) (cond (!d.1) (some ([],16)) ((Y0 N (e,c,f,b)).bind λa=>aH (decide (0<=a.1)) (aH (decide (0<=(au (a.1+b)))) (aH (decide (a.1.toNat<=(Int.toNat (au (a.1+b))))&&decide ((Int.toNat (au (a.1+b)))<=c.length)) (aH (room ((c.drop a.1.toNat).take ((Int.toNat (au (a.1+b)))-a.1.toNat)).length 1) (some (((c.drop a.1.toNat).take ((Int.toNat (au (a.1+b)))-a.1.toNat)),0)))))))
def G41:ai:=(G39 N).put 41 s41 (F41 N)
def K41:az bE (G41 N):=(K39 N).pl (by kernel_rfl)
def s87:bH:=sg [.c (.sl .B .aY),.I] [tmf [.U]]
def acD:ai:=(G41 N).on s87
def aX9:aX:=tmn [(0,.c (.sl .B .aY)),(1,.I),(5,.U),(6,.I)]
def aY0:aW:=[(.exit 0,tmn [(5,.U)])]
def aa4(N:Nat):Nat->tmI×Int×Int×Int->Option Int|0,_=>none|k+1,(b,c,d,a)=>cond (a>=0) ((idx b (au ((au (8*c))+a))).bind λe=>aa4 N k (b,c,(BD .u64 (aK (d*256)) (aK e)),(au (a-1)))) d
def bn6:∀k,aa4 N k=tmq (acD N) 4 87 aX9 aY0 k:=lpI (λ_=>rfl) λk=>by kernel_rfl
def axA:ai:=(acD N).aa N 0 4 aX9 aY0
def Sc:tmI×Int->Option Int|(a,b)=>(aa4 N N (a,b,0,7)).bind λc=>c
def G87:ai:=(G41 N).put 87 s87 (Sc N)
def K87:az bE (G87 N):=(K41 N).pu (axA N) (K41 N).o.l (funext λ⟨a,b⟩=>by rw[Sc,bn6 N N];kernel_rfl)
def al0:bH:=⟨[.agg (cv qg),.U,.I],[tmf [.D .B],tmf [.I]],0,[(0,2,25,.bool)],[],[],[]⟩
def M7:List aA×List Region×Int×Int->Option (tmI×Int)|(h,b,a,c)=>(F39 N (b,a,(max c 1))).bind λd=>(cond (d.2!=0) (some true) (some ((Int.tmod a 8)!=0))).bind λg=>cond g (some ([],16)) ((idx b d.1).bind λe=>(F41 N (e.1,e.2,a,c)).bind λf=>(f.1,f.2))
def al1:ai:=(G87 N).put 129 al0 (M7 N)
def al2:az bE (al1 N):=(K87 N).pl (by kernel_rfl)
def s88:bH:=sg [.agg (cv qg),.U,.U] [tmf [.str],tmf [.I]]
def F88:List aA×List Region×Int×Int->Option (List UInt8×Int)|(c,d,e,a)=>cond (a>64) (some (([]:List UInt8),12)) (cond (a==0) (some (([]:List UInt8),0)) ((M7 N (c,d,e,(au a))).bind λb=>some ((b.1.map λ(n:Int)=>UInt8.ofNat n.toNat),b.2)))
def G88:ai:=(al1 N).put 88 s88 (F88 N)
def K88:az bE (G88 N):=(al2 N).pl (by kernel_rfl)
def al3:bH:=sg [.c (.sl aR .aY),.I] [tmf [.I]]
def QL:List aA×Int->Option Int|(a,b)=>(Ud N (a,b)).bind λc=>c.1
def afx:ai:=(G88 N).put 130 al3 (QL N)
def al4:az bE (afx N):=(K88 N).pl (by kernel_rfl)
def s91:bH:=⟨[.agg (cv aR)],[tmf [.D .I]],0,[],[],[(0,16,.I),(0,26,.I)],[]⟩
def acE:ai:=(afx N).on s91
def aY1:aX:=tm [(1,.P 0 1 0),(3,.A .I 1),(7,.c (.sl cS .aY)),(8,.I),(9,.I)] [] [(0,1,.box 0 (cv aR))] 1 [1] 2
def aY2:aW:=[(.exit 0,tm [(1,.P 0 1 0),(3,.A .I 1)] [] [(0,1,.box 0 (cv aR))] 1 [1] 2)]
def ab7(N:Nat):Nat->tmI×List Field×Int×Int×oo->Option (tmI×oo)|0,_=>none|k+1,(a,c,d,b,e,f,g,h)=>cond (b<d) ((idx c b).bind λi=>aH (room (a.length+1) 8) (ab7 N k ((a++[i.2]),c,d,(au (b+1)),e,f,g,h))) (a,e,f,g,h)
def bn7:∀k,ab7 N k=tmq (acE N) 4 91 aY1 aY2 k:=lpI (λ_=>rfl) λk=>by kernel_rfl
def acF:ai:=(acE N).aa N 0 4 aY1 aY2
def aY3:aX:=tm [(1,.P 0 1 0),(3,.A .I 1),(20,.I),(21,.I)] [] [(0,1,.box 0 (cv aR))] 1 [1] 2
def aY4:aW:=[(.exit 2,tmv [(3,.A .I 0)] 0 1)]
def ac0(N:Nat):Nat->tmI×Int×Int×oo->Option tmI|0,_=>none|k+1,(a,b,c,e,d,f,g)=>cond (c<b) (aH (room (a.length+1) 8) (ac0 N k ((a++[d]),b,(au (c+1)),e,d,f,g))) a
def bn8:∀k,ac0 N k=tmq (acF N) 13 91 aY3 aY4 k:=lpI (λ_=>rfl) λk=>by kernel_rfl
def axG:ai:=(acF N).aa N 0 13 aY3 aY4
def F91:oo->Option tmI|(c,d,e,b)=>(ab7 N N ([],b,(b.length:Int),0,c,d,e,b)).bind λa=>(ac0 N N (a.1,a.2.2.2.1,0,a.2.1,a.2.2.1,a.2.2.2.1,a.2.2.2.2)).bind λf=>f
def G91:ai:=(afx N).put 91 s91 (F91 N)
def K91:az bE (G91 N):=(al4 N).pu (axG N) (al4 N).o.l.l (funext λ⟨a,b,c,d⟩=>by rw[F91,bn7 N N,bn8 N N];kernel_rfl)
def s92:bH:=⟨[.c (.sl aR .aY),.agg (cv aR)],[tmf [.D .I]],0,[],[],[(0,36,.I)],[]⟩
def acG:ai:=(G91 N).on s92
def aY5:aX:=tm [(0,.c (.sl aR .aY)),(3,.P 0 3 0),(9,.A .I 1),(25,.I),(26,.I)] [] [(0,3,.box 0 (cv aR))] 1 [1] 2
def aY6:aW:=[(.exit 0,tmv [(9,.A .I 0)] 0 1)]
def az4:Nat->List aA×tmI×Int×Int×oo->Option tmI|0,_=>none|k+1,(c,a,d,b,f,e,g,h)=>cond (b<d) ((QL N (c,e)).bind λi=>aH (room (a.length+1) 8) (az4 k (c,(a++[(au (b*i))]),d,(au (b+1)),f,e,g,h))) a
def bn9:∀k,az4 N k=tmq (acG N) 8 92 aY5 aY6 k:=lpI (λ_=>rfl) λk=>by kernel_rfl
def axI:ai:=(acG N).aa N 0 8 aY5 aY6
def F92:List aA×oo->Option tmI|(a,b,e,c,d)=>cond (b==5) ((F34 N (a,d)).bind λf=>f.1) ((az4 N N (a,[],c,0,b,e,c,d)).bind λg=>g)
def G92:ai:=(G91 N).put 92 s92 (F92 N)
def K92:az bE (G92 N):=(K91 N).pu (axI N) (K91 N).o.l (funext λ⟨a,b,c,d,e⟩=>by rw[F92,bn9 N N];kernel_rfl)
def Vw:bH:=⟨[.agg (cv qg),.c (.sl .B .aY),.I,.I],[(true,[.B,.I,.str,.D .val,.bool]),tmf [.I]],0,[(0,9,9,.I),(0,26,104,.bool)],[],[],[]⟩
abbrev M8:Type:=(List aA)×List Region×tmI×Int×Int->Option (Int×Int×List UInt8×List jC×Bool×Int)
def Q42(R:M8):ai:=(G92 N).put 42 Vw R
def s90:bH:=⟨[.agg (cv qg),.c (.sl .B .aY),.c (.sl .I .aY),.c (.sl .I .aY),.I],[tmf [.D .val],tmf [.I]],0,[],[],[(0,42,.val)],[]⟩
def acH(R:M8):ai:=(Q42 N R).on s90
def aE6:aX:=tm [(1,.c (.sl .B .aY)),(3,.c (.sl .I .aY)),(4,.I),(5,.P 0 5 0),(12,.A .val 1),(17,.c (.sl .I .aY)),(18,.I),(19,.I)] [] [(0,5,.box 0 (cv qg))] 1 [1] 2
def aE7:aW:=[tmr [(10,.N),(11,.I)],(.exit 0,tmv [(12,.A .val 0)] 0 1)]
def aq0(N:Nat)(R:M8):Nat->tmI×tmI×Int×List jC×tmI×Int×Int×List aA×List Region->Option (Int⊕(List jC))|0,_=>none|k+1,(c,f,g,d,h,i,b,j,l)=>cond (b<i) ((idx h b).bind λm=>(idx f b).bind λe=>aH (decide (0<=e)) (aH (decide (e.toNat<=c.length)) ((R (j,l,(c.drop e.toNat),m,g)).bind λa=>cond (a.2.2.2.2.2!=0) (some (Sum.inl a.2.2.2.2.2)) (aH (room (d.length+1) 64) (aq0 N R k (c,f,g,(d++[(jC.mk a.1 a.2.1 a.2.2.1 a.2.2.2.1 a.2.2.2.2.1)]),h,i,(au (b+1)),j,l)))))) (some (Sum.inr d))
def bo0(R:M8):∀k,aq0 N R k=lp (acH N R) 0 4 (tq 90) 4 aE6 aE7 k:=lpI (λ_=>rfl) λk=>by kernel_rfl
def axK(R:M8):ai:=(acH N R).aa N 0 4 aE6 aE7
def F90(R:M8):List aA×List Region×tmI×tmI×tmI×Int->Option (List jC×Int)|(b,c,d,a,e,f)=>(aq0 N R N (d,e,f,[],a,(a.length:Int),0,b,c)).bind λg=>match g with|.inl h=>some ([],h)|.inr i=>some (i,0)
def G90(R:M8):ai:=(Q42 N R).put 90 s90 (F90 N R)
def K90(R:M8)(hR:lK bE 42 (Vw.tI R)):az bE (G90 N R):=((K92 N).jK hR).put ((((K92 N).jK hR).on s90).aa N 0 4 aE6 aE7) _ _ _ (funext λ⟨a,b,c,d,e,f⟩=>by rw[F90,bo0 N R N];kernel_rfl)
def s89:bH:=⟨[.agg (cv qg),.U,.agg (cv aR),.I,.I,.I],[(true,[.B,.I,.str,.D .val,.bool]),tmf [.I]],0,[(0,4,43,.bool)],[],[(0,57,.I),(0,63,.I)],[]⟩
def acI(R:M8):ai:=(G90 N R).on s89
def aE8:aX:=tm [(5,.I),(6,.P 0 6 0),(8,.P 0 8 1),(12,.P 0 12 2),(14,.I),(15,.D .B),(17,.P 0 17 3),(18,.A .I 4),(19,.A .I 5),(50,.I),(51,.I)] [] [(0,6,.box 0 (cv qg)),(0,8,.box 1 (cv aR)),(0,12,.box 2 [.B,.I,.str,.nil true,.bool]),(0,17,.box 3 [.B,.I,.str,.nil true,.bool])] 1 [4,5] 6
def aE9:aW:=[(.exit 0,tm [(5,.I),(6,.P 0 6 0),(12,.P 0 12 1),(15,.D .B),(17,.P 0 17 2),(18,.A .I 3),(19,.A .I 4)] [] [(0,6,.box 0 (cv qg)),(0,12,.box 1 [.B,.I,.str,.nil true,.bool]),(0,17,.box 2 [.B,.I,.str,.nil true,.bool])] 1 [3,4] 5)]
def az5(N:Nat)(R:M8):Nat->Int×Int×tmI×tmI×tmI×Int×Int×List aA×List Region×Df (Int×Int×List UInt8×Bool×Int×Int×List UInt8×Bool)->Option (Int×tmI×tmI×tmI×List aA×List Region×Int×Int×List UInt8×Bool×Int×Int×List UInt8×Bool)|0,_=>none|k+1,(d,e,f,a,b,g,c,h,i,t,j,u,v,l,m,n,o,p,q,r,s)=>cond (c<g) (aH (room (a.length+1) 8) (aH (room (b.length+1) 8) (az5 N R k (d,e,f,(a++[j]),(b++[(au (c*e))]),g,(au (c+1)),h,i,t,j,u,v,l,m,n,o,p,q,r,s)))) (d,f,a,b,h,i,l,m,n,o,p,q,r,s)
def bo1(R:M8):∀k,az5 N R k=lp (acI N R) 0 14 (tq 89) 14 aE8 aE9 k:=lpI (λ_=>rfl) λk=>by kernel_rfl
def axM(R:M8):ai:=(acI N R).aa N 0 14 aE8 aE9
def F89(R:M8):List aA×List Region×Int×Df (Int×Int×Int)->Option (Int×Int×List UInt8×List jC×Bool×Int)|(c,e,l,b,f,m,n,g,o,h)=>(QL N (c,f)).bind λi=>(M7 N (c,e,l,(au (i*o)))).bind λd=>(cond (d.2!=0) (some true) (some (g==0))).bind λp=>cond p (some (b,0,([]:List UInt8),[],false,d.2)) (cond (h==0) (some (b,0,([]:List UInt8),[],true,0)) ((az5 N R N (h,i,d.1,[],[],g,0,c,e,b,f,m,n,0,0,([]:List UInt8),false,b,0,([]:List UInt8),false)).bind λa=>(F90 N R (a.2.2.2.2.1,a.2.2.2.2.2.1,a.2.1,a.2.2.1,a.2.2.2.1,(au (a.1-1)))).bind λj=>(a.2.2.2.2.2.2.2.2.2.2.1,a.2.2.2.2.2.2.2.2.2.2.2.1,a.2.2.2.2.2.2.2.2.2.2.2.2.1,j.1,a.2.2.2.2.2.2.2.2.2.2.2.2.2,j.2)))
def G89(R:M8):ai:=(G90 N R).put 89 s89 (F89 N R)
def K89(R:M8)(hR:lK bE 42 (Vw.tI R)):az bE (G89 N R):=(K90 N R hR).put (((K90 N R hR).on s89).aa N 0 14 aE8 aE9) _ _ _ (funext λ⟨a,b,c,d,e,f,g,h,i,j⟩=>by rw[F89,bo1 N R N];kernel_rfl)
end
end Go.Proofs.YtnfdnnplfbfgaaaGreat
