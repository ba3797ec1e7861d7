/- What the functions compute. -/
import Derived.Test.YtkdilffhbejjaaaGreatTab21t
set_option linter.unusedSimpArgs false
namespace Go.Proofs.YtkdilffhbejjaaaGreat
set_option linter.unusedVariables false
open Go Go.bM Go.Sym
noncomputable section
variable(N:Nat)
@[reducible]def cS:Ty:=(.prod .str (.int .i64))
abbrev Field:Type:=(List UInt8)×Int
@[reducible]def eH:Ty:=(.prod (.int .i64) (.int .i64))
abbrev oB:Type:=Int×Int
@[reducible]def ia:Ty:=(.prod (.int .i64) (.int .u64))
abbrev eN:Type:=Int×Int
@[reducible]def aX:Ty:=(.prod (.int .u64) (.sl (.int .u8)))
abbrev Region:Type:=Int×(List Int)
@[reducible]def ri:Ty:=(.prod (.int .i64) (.prod (.int .i64) (.prod .bool .bool)))
@[reducible]def AR:Ty:=(.prod (.int .i64) (.prod (.int .i64) eH))
@[reducible]def bf:Ty:=(.prod (.int .u8) (.prod (.int .i64) eH))
abbrev Instr:Type:=Int×(Int×oB)
@[reducible]def gE:Ty:=(.prod (.int .u64) (.prod (.int .u64) (.prod (.int .i64) (.prod .bool (.int .u64)))))
abbrev lY:Type:=Int×(Int×(Int×(Bool×Int)))
@[reducible]def uH:Ty:=(.prod (.int .u64) (.prod (.int .i64) (.prod (.int .i64) (.prod (.int .u64) (.int .u64)))))
abbrev Ju:Type:=Int×(Int×(Int×(Int×Int)))
@[reducible]def bI:Ty:=(.prod (.int .u8) (.prod (.int .i64) (.prod (.int .i64) (.sl cS))))
abbrev aA:Type:=Int×(Int×(Int×List Field))
@[reducible]def G2:Ty:=(.prod (.sl (.int .i64)) AR)
@[reducible]def ju:Ty:=(.prod (.int .u8) (.prod (.int .u64) (.prod (.int .u64) (.prod (.int .u64) (.prod (.int .u64) (.int .i64))))))
abbrev dY:Type:=Int×(Int×(Int×(Int×(Int×Int))))
@[reducible]def Ys:Ty:=(.prod (.sl ia) (.prod (.sl ia) eH))
@[reducible]def dK:Ty:=(.prod .str (.prod (.int .i64) (.prod (.int .i64) (.prod (.sl cS) (.prod (.sl bf) (.prod (.sl ia) (.sl ia)))))))
abbrev Func:Type:=(List UInt8)×(Int×(Int×(List Field×(List Instr×(List eN×List eN)))))
@[reducible]def aY:Ty:=(.prod (.sl bI) (.prod (.sl .str) (.sl dK)))
abbrev agv:Type:=(List aA)×(List (List UInt8)×List Func)
@[reducible]def bG:Ty:=(.prod aY dK)
abbrev function:Type:=agv×Func
@[reducible]def eV:Ty:=(.prod aY (.prod AR (.prod aX (.prod (.sl aX) (.prod (.sl ju) (.int .i64))))))
abbrev Yt:Type:=Int×Int×Bool×Bool
abbrev ack(α:Type):Type:=Int×Int×Bool×Bool×α
abbrev AS:Type:=Int×Int×Int×Int
abbrev uj(α:Type):Type:=Int×Int×Int×Int×α
abbrev ic:Type:=Int×Int×Int×Int
abbrev LS(α:Type):Type:=Int×Int×Int×Int×α
abbrev Cu(α:Type):Type:=Int×Int×Int×Bool×Int×α
abbrev ZZ(α:Type):Type:=Int×Int×Int×Int×Int×α
abbrev yf:Type:=Int×Int×Int×(List Field)
abbrev acm(α:Type):Type:=Int×Int×Int×List Field×α
abbrev AT:Type:=(List Int)×Int×Int×Int×Int
abbrev Jv:Type:=Int×Int×Int×Int×Int×Int
abbrev NJ:Type:=(List eN)×List eN×Int×Int
abbrev gV:Type:=(List UInt8)×Int×Int×List Field×List Instr×List eN×(List eN)
abbrev agw(α:Type):Type:=(List UInt8)×Int×Int×List Field×List Instr×List eN×List eN×α
abbrev dc:Type:=(List aA)×List (List UInt8)×(List Func)
abbrev bP(α:Type):Type:=(List aA)×List (List UInt8)×List Func×α
abbrev dw:Type:=(List aA)×List (List UInt8)×List Func×List UInt8×Int×Int×List Field×List Instr×List eN×(List eN)
abbrev dL(α:Type):Type:=(List aA)×List (List UInt8)×List Func×List UInt8×Int×Int×List Field×List Instr×List eN×List eN×α
abbrev mZ:Type:=(List aA)×List (List UInt8)×List Func×Int×Int×Int×Int×Int×List Int×List Region×List dY×Int
abbrev oC(α:Type):Type:=(List aA)×List (List UInt8)×List Func×Int×Int×Int×Int×Int×List Int×List Region×List dY×Int×α
def Gz(_:Nat):ah:=ah.base bJ (lk []) (lk []) (lk []) (lkU []) (lk [])
theorem Kz:az bJ (Gz N):=Yg ..
def s17:bN:=sg [.c (.sl bI .bC)] [(false,[.bool])]
def Z0:ah:=(Gz N).on s17
def f17.sZ:bq:=tm [(0,.c (.sl bI .bC)),(3,.c (.int .i64)),(4,.c (.int .i64))] [] [] 1 [] 0
def f17.tc:bn:=[(.ret,tm [(2,.c (.bool))] [] [] 1 [] 0),(.exit 2,tm [(0,.c (.sl bI .bC)),(3,.c (.int .i64))] [] [] 1 [] 0)]
def f17.jc(N:Nat):Nat->List aA×Int×Int->Option (Bool⊕(List aA×Int))|0,_=>none|k+1,(a,b,c)=>((idx a b).bind λd=>(cond (decide (c<(d.2.2.2.length:Int))) ((idx a b).bind λe=>((idx e.2.2.2 c).bind λf=>(cond (decide ((f.1.length:Int)>100)) (some (Sum.inl true)) (f17.jc N k (a,b,(av (c+1))))))) (some (Sum.inr (a,b)))))
theorem f17.Jw:∀k,f17.jc N k=lp (Z0 N) 0 15 (tq 17) 15 f17.sZ f17.tc k|0=>rfl|k+1=>funext λ⟨a,b,c⟩=>by rw[f17.jc,f17.Jw k];kernel_rfl
def Z1:ah:=(Z0 N).aa N 0 15 f17.sZ f17.tc
def f17.bQ:bq:=tm [(0,.c (.sl bI .bC)),(3,.c (.int .i64))] [] [] 1 [] 0
def f17.bR:bn:=[(.ret,tm [(2,.c (.bool))] [] [] 1 [] 0),(.exit 0,tm [] [] [] 1 [] 0)]
def f17.aP:Nat->List aA×Int->Option (Bool⊕Unit)|0,_=>none|k+1,(a,b)=>(cond (decide (b<(a.length:Int))) ((idx a b).bind λd=>(cond (decide ((d.2.2.2.length:Int)>20)) (some (Sum.inl true)) ((f17.jc N N (a,b,0)).bind λe=>(match e with|.inl f=>some (Sum.inl f)|.inr c=>f17.aP k (c.1,(av (c.2+1))))))) (some (Sum.inr ())))
theorem f17.cV:∀k,f17.aP N k=lp (Z1 N) 0 6 (tq 17) 6 f17.bQ f17.bR k|0=>rfl|k+1=>funext λ⟨a,b⟩=>by rw[f17.aP,f17.cV k,f17.Jw N N];kernel_rfl
def aqQ:ah:=(Z1 N).aa N 0 6 f17.bQ f17.bR
def F17:List aA->Option Bool|a=>(cond (decide ((a.length:Int)>40)) (some true) ((f17.aP N N (a,0)).bind λb=>(match b with|.inl c=>some c|.inr d=>some false)))
def G17:ah:=(Gz N).put 17 s17 (F17 N)
theorem K17:az bJ (G17 N):=(Kz N).put ((((Kz N).on s17).aa N 0 15 f17.sZ f17.tc).aa N 0 6 f17.bQ f17.bR) _ _ _ (funext λa=>by rw[F17,f17.cV N N];kernel_rfl)
def s9:bN:=⟨[.agg (cF aY)],[(false,[.bool])],0,[(0,1,22,.bool),(0,23,85,.bool)],[],[],[]⟩
def agx:ah:=(G17 N).on s9
def f9.bQ:bq:=tm [(1,.c (.ptr 0 1 0 0 0)),(3,.c (.int .i64))] [] [(0,1,.box 0 (cF aY))] 1 [] 1
def f9.bR:bn:=[(.ret,tm [(2,.c (.bool))] [] [] 1 [] 0),(.exit 0,tm [(1,.c (.ptr 0 1 0 0 0))] [] [(0,1,.box 0 (cF aY))] 1 [] 1)]
def f9.aP(N:Nat):Nat->Int×dc->Option (Bool⊕dc)|0,_=>none|k+1,(b,c,a,d)=>(cond (decide (b<(a.length:Int))) ((idx a b).bind λe=>(cond (decide ((e.length:Int)>100)) (some (Sum.inl true)) (f9.aP N k ((av (b+1)),c,a,d)))) (some (Sum.inr (c,a,d))))
theorem f9.cV:∀k,f9.aP N k=lp (agx N) 0 6 (tq 9) 6 f9.bQ f9.bR k|0=>rfl|k+1=>funext λ⟨a,b,c,d⟩=>by rw[f9.aP,f9.cV k];kernel_rfl
def agy:ah:=(agx N).aa N 0 6 f9.bQ f9.bR
def f9.Cv:bq:=tm [(1,.c (.ptr 0 1 0 0 0)),(4,.c (.int .i64)),(5,.c (.int .i64)),(6,.c (.ptr 0 6 1 0 0)),(7,.c (.int .i64))] [] [(0,1,.box 0 (cF aY)),(0,6,.box 1 (aZ dK))] 1 [] 2
def f9.Cw:bn:=[(.ret,tm [(2,.c (.bool))] [] [] 1 [] 0),(.exit 4,tm [(1,.c (.ptr 0 1 0 0 0)),(4,.c (.int .i64)),(5,.c (.int .i64))] [] [(0,1,.box 0 (cF aY))] 1 [] 1)]
def f9.kG(N:Nat):Nat->Int×Int×Int×dw->Option (Bool⊕(Int×Int×dc))|0,_=>none|k+1,(c,d,a,e,f,g,h,i,j,b,l,m,n)=>(cond (decide (a<(b.length:Int))) ((idx b a).bind λo=>(cond (decide ((o.1.length:Int)>100)) (some (Sum.inl true)) (f9.kG N k (c,d,(av (a+1)),e,f,g,h,i,j,b,l,m,n)))) (some (Sum.inr (c,d,e,f,g))))
theorem f9.Jx:∀k,f9.kG N k=lp (agy N) 0 28 (tq 9) 28 f9.Cv f9.Cw k|0=>rfl|k+1=>funext λ⟨a,b,c,d,e,f,g,h,i,j,l,m,n⟩=>by rw[f9.kG,f9.Jx k];kernel_rfl
def agz:ah:=(agy N).aa N 0 28 f9.Cv f9.Cw
def f9.jv:bq:=tm [(1,.c (.ptr 0 1 0 0 0)),(4,.c (.int .i64)),(5,.c (.int .i64))] [] [(0,1,.box 0 (cF aY))] 1 [] 1
def f9.jw:bn:=[(.ret,tm [(2,.c (.bool))] [] [] 1 [] 0),(.exit 2,tm [] [] [] 1 [] 0)]
def f9.cQ:Nat->Int×Int×dc->Option (Bool⊕Unit)|0,_=>none|k+1,(e,c,f,g,d)=>(cond (decide (c<(d.length:Int))) ((idx d c).bind λa=>((cond (decide ((a.1.length:Int)>100)) (some true) (cond (decide ((a.2.2.2.1.length:Int)>20)) (some true) (cond (decide ((a.2.2.2.2.1.length:Int)>210)) (some true) (cond (decide ((a.2.2.2.2.2.1.length:Int)>210)) (some true) (cond (decide ((a.2.2.2.2.2.2.length:Int)>210)) (some true) (some (decide ((av (e+(a.2.2.2.2.1.length:Int)))>1000)))))))).bind λh=>(cond h (some (Sum.inl true)) ((f9.kG N N ((av (e+(a.2.2.2.2.1.length:Int))),c,0,f,g,d,a.1,a.2.1,a.2.2.1,a.2.2.2.1,a.2.2.2.2.1,a.2.2.2.2.2.1,a.2.2.2.2.2.2)).bind λi=>(match i with|.inl j=>some (Sum.inl j)|.inr b=>f9.cQ k (b.1,(av (b.2.1+1)),b.2.2.1,b.2.2.2.1,b.2.2.2.2)))))) (some (Sum.inr ())))
theorem f9.nc:∀k,f9.cQ N k=lp (agz N) 0 17 (tq 9) 17 f9.jv f9.jw k|0=>rfl|k+1=>funext λ⟨a,b,c,d,e⟩=>by rw[f9.cQ,f9.nc k,f9.Jx N N];kernel_rfl
def avA:ah:=(agz N).aa N 0 17 f9.jv f9.jw
def F9:dc->Option Bool|(b,c,d)=>(((F17 N b).bind λe=>(cond e (some true) (cond (decide ((c.length:Int)>40)) (some true) (some (decide ((d.length:Int)>40)))))).bind λf=>(cond f (some true) ((f9.aP N N (0,b,c,d)).bind λg=>(match g with|.inl h=>some h|.inr a=>((f9.cQ N N (0,0,a.1,a.2.1,a.2.2)).bind λi=>(match i with|.inl j=>some j|.inr l=>some false))))))
def G9:ah:=(G17 N).put 9 s9 (F9 N)
theorem K9:az bJ (G9 N):=(K17 N).put (((((K17 N).on s9).aa N 0 6 f9.bQ f9.bR).aa N 0 28 f9.Cv f9.Cw).aa N 0 17 f9.jv f9.jw) _ _ _ (funext λ⟨a,b,c⟩=>by rw[F9,f9.cV N N,f9.nc N N];kernel_rfl)
def s4:bN:=⟨[.agg (cF eV)],[(false,[.bool])],0,[(0,1,25,.bool)],[],[],[]⟩
def agA:ah:=(G9 N).on s4
def f4.bQ:bq:=tm [(1,.c (.ptr 0 1 0 0 0)),(3,.c (.int .i64))] [] [(0,1,.box 0 (cF eV))] 1 [] 1
def f4.bR:bn:=[(.ret,tm [(2,.c (.bool))] [] [] 1 [] 0),(.exit 0,tm [] [] [] 1 [] 0)]
def f4.aP(N:Nat):Nat->Int×mZ->Option (Bool⊕Unit)|0,_=>none|k+1,(a,c,d,e,f,g,h,i,j,l,b,m,n)=>(cond (decide (a<(b.length:Int))) ((idx b a).bind λo=>(cond (decide ((o.2.length:Int)>4200)) (some (Sum.inl true)) (f4.aP N k ((av (a+1)),c,d,e,f,g,h,i,j,l,b,m,n)))) (some (Sum.inr ())))
theorem f4.cV:∀k,f4.aP N k=lp (agA N) 0 6 (tq 4) 6 f4.bQ f4.bR k|0=>rfl|k+1=>funext λ⟨a,b,c,d,e,f,g,h,i,j,l,m,n⟩=>by rw[f4.aP,f4.cV k];kernel_rfl
def avB:ah:=(agA N).aa N 0 6 f4.bQ f4.bR
def F4:mZ->Option Bool|(a,b,c,g,h,i,j,l,d,e,f,m)=>(((F9 N (a,b,c)).bind λn=>(cond n (some true) (cond (decide ((d.length:Int)>4200)) (some true) (cond (decide ((e.length:Int)>20)) (some true) (some (decide ((f.length:Int)>20))))))).bind λo=>(cond o (some true) ((f4.aP N N (0,a,b,c,g,h,i,j,l,d,e,f,m)).bind λp=>(match p with|.inl q=>some q|.inr r=>some false))))
def G4:ah:=(G9 N).put 4 s4 (F4 N)
theorem K4:az bJ (G4 N):=(K9 N).put (((K9 N).on s4).aa N 0 6 f4.bQ f4.bR) _ _ _ (funext λ⟨a,b,c,d,e,f,g,h,i,j,l,m⟩=>by rw[F4,f4.cV N N];kernel_rfl)
def agB:bN:=⟨[.c (.int .i64),.c (.int .i64)],[(false,[.bool])],0,[(0,1,4,.bool)],[],[],[]⟩
def Jy(N:Nat):Int×Int->Option Bool|(a,b)=>((cond (decide (a>=0)) (some (decide (a<b))) (some false)).bind λc=>some c)
def agC:ah:=(G4 N).put 196 agB (Jy N)
theorem agD:az bJ (agC N):=(K4 N).put ((K4 N).on agB) _ _ _ (funext λ⟨a,b⟩=>by rw[Jy];kernel_rfl)
def agE:bN:=sg [.c (.int .i64)] [(false,[.bool])]
def Yu(N:Nat):Int->Option Bool|a=>some (a !=0)
def acn:ah:=(agC N).put 220 agE (Yu N)
theorem agF:az bJ (acn N):=(agD N).put ((agD N).on agE) _ _ _ (funext λa=>by rw[Yu];kernel_rfl)
def aco:bN:=sg [.c (.sl (.int .i64) .bC)] [(false,[.bool])]
def SK:ah:=(acn N).on aco
def f197.lZ:bq:=tm [(0,.c (.sl (.int .i64) .bC)),(1,.fk 220 []),(7,.c (.int .i64)),(8,.c (.int .i64))] [[],[]] [] 3 [] 0
def f197.l9:bn:=[(.ret,tm [(4,.c (.int .i64))] [[],[]] [] 3 [] 0),(.exit 0,tm [] [[],[]] [] 3 [] 0)]
def f197.dM:Nat->List Int×Int×Int->Option (Int⊕Unit)|0,_=>none|k+1,(b,c,a)=>(cond (decide (a<c)) ((idx b a).bind λd=>((Yu N d).bind λe=>(cond e (some (Sum.inl a)) (f197.dM k (b,c,(av (a+1))))))) (some (Sum.inr ())))
theorem f197.qp:∀k,f197.dM N k=lp (SK N) 1004001007000 3 (tq 81) 3 f197.lZ f197.l9 k|0=>rfl|k+1=>funext λ⟨a,b,c⟩=>by rw[f197.dM,f197.qp k];kernel_rfl
def anb:ah:=(SK N).aa N 1004001007000 3 f197.lZ f197.l9
def Jz:List Int->Option Bool|a=>((f197.dM N N (a,(a.length:Int),0)).bind λb=>(match b with|.inl c=>some (!(decide (c>=0)))|.inr d=>some (!(decide ((-1:Int)>=0)))))
def acp:ah:=(acn N).put 197 aco (Jz N)
theorem agG:az bJ (acp N):=(agF N).put (((agF N).on aco).aa N 1004001007000 3 f197.lZ f197.l9) _ _ _ (funext λa=>by rw[Jz,f197.qp N N];kernel_rfl)
def acq:bN:=⟨[.c (.str)],[(false,[.bool])],0,[(0,1,17,.bool),(0,11,45,.bool)],[],[],[]⟩
def SM:ah:=(acp N).on acq
def f161.bQ:bq:=tm [(19,.c (.sl (.int .u8) .d)),(20,.c (.int .i64)),(21,.c (.int .i64))] [] [] 1 [] 0
def f161.bR:bn:=[(.ret,tm [(2,.c (.bool))] [] [] 1 [] 0),(.exit 0,tm [] [] [] 1 [] 0)]
def f161.aP(N:Nat):Nat->List Int×Int×Int->Option (Bool⊕Unit)|0,_=>none|k+1,(c,d,b)=>(cond (decide (b<d)) ((idx c b).bind λa=>((cond (decide ((Ct .u8 a 32)<97)) (cond (decide (a<48)) (some true) (some (decide (a>57)))) (cond (decide ((Ct .u8 a 32)>122)) (cond (decide (a<48)) (some true) (some (decide (a>57)))) (cond ((uw .u8 a 64)==0) (cond (decide (a<48)) (some true) (some (decide (a>57)))) (some false)))).bind λe=>(cond e (some (Sum.inl false)) (f161.aP N k (c,d,(av (b+1))))))) (some (Sum.inr ())))
theorem f161.cV:∀k,f161.aP N k=lp (SM N) 0 6 (tq 161) 6 f161.bQ f161.bR k|0=>rfl|k+1=>funext λ⟨a,b,c⟩=>by rw[f161.aP,f161.cV k];kernel_rfl
def anc:ah:=(SM N).aa N 0 6 f161.bQ f161.bR
def LU:List UInt8->Option Bool|a=>((cond ((a.length:Int)==0) (some true) (cond (decide ((a.length:Int)>16)) (some true) ((idx a 0).bind λc0=>some (decide ((c0.toNat:Int)<=57))))).bind λb=>(cond b (some false) ((f161.aP N N ((bK a),((bK a).length:Int),0)).bind λc=>(match c with|.inl d=>some d|.inr e=>some true))))
def acr:ah:=(acp N).put 161 acq (LU N)
theorem agH:az bJ (acr N):=(agG N).put (((agG N).on acq).aa N 0 6 f161.bQ f161.bR) _ _ _ (funext λa=>by rw[LU,f161.cV N N];kernel_rfl)
def acs:bN:=⟨[.c (.sl bI .bC),.c (.int .i64)],[(false,[.bool])],0,[(0,8,16,.bool),(0,6,16,.bool),(0,13,29,.bool)],[],[],[]⟩
def SN:ah:=(acr N).on acs
def f158.SO:bq:=tm [(1,.c (.int .i64)),(5,.c (.ptr 0 5 0 0 0)),(6,.fk 196 []),(7,.c (.mp 0 70 1)),(72,.c (.sl cS .d)),(73,.c (.int .i64)),(74,.c (.int .i64))] [] [(0,5,.box 0 (aZ bI)),(0,70,.set 1)] 1 [] 2
def f158.SP:bn:=[(.ret,tm [(4,.c (.bool))] [] [] 1 [] 0),(.exit 1,tm [(5,.c (.ptr 0 5 0 0 0))] [] [(0,5,.box 0 (aZ bI))] 1 [] 1)]
def f158.zQ:Nat->Int×List Field×Int×Int×acm (List (List UInt8))->Option (Bool⊕yf)|0,_=>none|k+1,(c,d,e,b,f,g,h,i,j)=>(cond (decide (b<e)) ((idx d b).bind λa=>((LU N a.1).bind λl=>(cond (!l) (some (Sum.inl false)) (cond (hasB j a.1) (some (Sum.inl false)) ((Jy N (a.2,c)).bind λm=>(cond (!m) (some (Sum.inl false)) (f158.zQ k (c,d,e,(av (b+1)),f,g,h,i,(sj j a.1))))))))) (some (Sum.inr (f,g,h,i))))
theorem f158.Z2:∀k,f158.zQ N k=lp (SN N) 0 25 (tq 158) 25 f158.SO f158.SP k|0=>rfl|k+1=>funext λ⟨a,b,c,d,e,f,g,h,i⟩=>by rw[f158.zQ,f158.Z2 k];kernel_rfl
def ane:ah:=(SN N).aa N 0 25 f158.SO f158.SP
def SQ:List aA×Int->Option Bool|(d,c)=>((idx d c).bind λa=>((cond (a.1==1) (some true) ((cond (a.1==2) (some true) (some (a.1==3))).bind λe=>some e)).bind λf=>(cond f ((Jz N [a.2.1,a.2.2.1,(a.2.2.2.length:Int)]).bind λg=>some g) ((cond (a.1==4) (some true) (some (a.1==7))).bind λh=>(cond h ((Jy N (a.2.1,(d.length:Int))).bind λi=>(cond i ((Jz N [a.2.2.1,(a.2.2.2.length:Int)]).bind λj=>some j) (some false))) (cond (a.1==6) ((Jy N (a.2.1,c)).bind λl=>(cond l ((Jy N ((av (a.2.2.1-1)),16)).bind λm=>(cond m ((Jz N [(a.2.2.2.length:Int)]).bind λn=>some n) (some false))) (some false))) (cond (a.1==5) ((f158.zQ N N (c,a.2.2.2,(a.2.2.2.length:Int),0,a.1,a.2.1,a.2.2.1,a.2.2.2,([]:List (List UInt8)))).bind λo=>(match o with|.inl p=>some p|.inr b=>((Jz N [b.2.1,b.2.2.1]).bind λq=>(cond q (cond (decide ((b.2.2.2.length:Int)>0)) (some (decide ((b.2.2.2.length:Int)<=8))) (some false)) (some false))))) (some false))))))))
def acu:ah:=(acr N).put 158 acs (SQ N)
theorem agI:az bJ (acu N):=(agH N).put (((agH N).on acs).aa N 0 25 f158.SO f158.SP) _ _ _ (funext λ⟨a,b⟩=>by rw[SQ,f158.Z2 N N];kernel_rfl)
def acv:bN:=⟨[.c (.sl bI .bC)],[(false,[.sl (.int .i64) .d])],0,[(0,26,7,(.int .i64)),(0,23,7,(.int .i64)),(0,20,7,(.int .i64))],[],[(0,12,(.int .i64)),(0,17,(.int .i64))],[]⟩
def SS:ah:=(acu N).on acv
def f159.Cy:bq:=tm [(0,.c (.sl bI .bC)),(3,.c (.ref 0 3 0 (.int .i64))),(4,.c (.ref 0 17 1 (.int .i64))),(5,.c (.int .i64)),(7,.c (.int .i64)),(13,.c (.int .i64)),(18,.c (.sl bI .bC)),(19,.c (.int .i64)),(20,.c (.int .i64)),(59,.c (.sl cS .d)),(60,.c (.int .i64)),(61,.c (.int .i64))] [] [(0,3,.row 0 (.int .i64)),(0,17,.row 1 (.int .i64))] 1 [] 2
def f159.Cz:bn:=[(.exit 5,tm [(0,.c (.sl bI .bC)),(3,.c (.ref 0 3 0 (.int .i64))),(4,.c (.ref 0 17 1 (.int .i64))),(5,.c (.int .i64)),(7,.c (.int .i64)),(13,.c (.int .i64)),(18,.c (.sl bI .bC)),(19,.c (.int .i64)),(20,.c (.int .i64))] [] [(0,3,.row 0 (.int .i64)),(0,17,.row 1 (.int .i64))] 1 [] 2)]
def f159.nP(N:Nat):Nat->List aA×Int×Int×Int×List aA×Int×Int×List Field×Int×Int×List Int×List Int->Option ((List aA×Int×Int×Int×List aA×Int×Int×List Int×List Int))|0,_=>none|k+1,(c,d,e,f,g,h,i,j,l,b,m,a)=>(cond (decide (b<l)) ((idx j b).bind λn=>(aF (ga n.2 a.length) ((a[n.2.toNat]?).bind λo=>f159.nP N k (c,d,(av (e+o)),f,g,h,i,j,l,(av (b+1)),m,a)))) (some (c,d,e,f,g,h,i,m,a)))
theorem f159.JA:∀k,f159.nP N k=lp (SS N) 0 30 (tq 159) 30 f159.Cy f159.Cz k|0=>rfl|k+1=>funext λ⟨a,b,c,d,e,f,g,h,i,j,l,m⟩=>by rw[f159.nP,f159.JA k];kernel_rfl
def SU:ah:=(SS N).aa N 0 30 f159.Cy f159.Cz
def f159.oD:bq:=tm [(0,.c (.sl bI .bC)),(3,.c (.ref 0 3 0 (.int .i64))),(4,.c (.ref 0 17 1 (.int .i64))),(13,.c (.int .i64)),(18,.c (.sl bI .bC)),(19,.c (.int .i64)),(20,.c (.int .i64))] [] [(0,3,.row 0 (.int .i64)),(0,17,.row 1 (.int .i64))] 1 [] 2
def f159.oE:bn:=[(.exit 2,tm [(0,.c (.sl bI .bC)),(4,.c (.ref 0 17 0 (.int .i64))),(13,.c (.int .i64))] [] [(0,17,.row 0 (.int .i64))] 1 [] 1)]
def f159.eE:Nat->List aA×Int×List aA×Int×Int×List Int×List Int->Option ((List aA×Int×List Int))|0,_=>none|k+1,(f,g,h,i,d,c,e)=>(cond (decide (d<i)) ((idx h d).bind λb=>((cond (b.1==4) (aF (ga b.2.1 c.length) ((c[b.2.1.toNat]?).bind λj=>some (av (1+j)))) ((cond (b.1==7) (aF (ga b.2.1 c.length) ((c[b.2.1.toNat]?).bind λl=>some (av (1+(av (16*l)))))) ((cond (b.1==6) (aF (ga b.2.1 e.length) ((e[b.2.1.toNat]?).bind λm=>some (av (1+(av (b.2.2.1*m)))))) (some 1)).bind λn=>some n)).bind λo=>some o)).bind λp=>((f159.nP N N (f,d,p,g,h,i,d,b.2.2.2,(b.2.2.2.length:Int),0,c,e)).bind λa=>(aF (ga a.2.1 a.2.2.2.2.2.2.2.2.length) ((a.2.2.2.2.2.2.2.2[a.2.1.toNat]?).bind λq=>f159.eE k (a.1,a.2.2.2.1,a.2.2.2.2.1,a.2.2.2.2.2.1,(av (a.2.2.2.2.2.2.1+1)),a.2.2.2.2.2.2.2.1,(a.2.2.2.2.2.2.2.2.set a.2.1.toNat (min a.2.2.1 5001)))))))) (some (f,g,e)))
theorem f159.td:∀k,f159.eE N k=lp (SU N) 0 11 (tq 159) 11 f159.oD f159.oE k|0=>rfl|k+1=>funext λ⟨a,b,c,d,e,f,g⟩=>by rw[f159.eE,f159.td k,f159.JA N N];kernel_rfl
def SV:ah:=(SU N).aa N 0 11 f159.oD f159.oE
def f159.eC:bq:=tm [(0,.c (.sl bI .bC)),(3,.c (.ref 0 3 0 (.int .i64))),(13,.c (.int .i64))] [] [(0,3,.row 0 (.int .i64))] 1 [] 1
def f159.eD:bn:=[(.exit 0,tm [(3,.c (.ref 0 3 0 (.int .i64)))] [] [(0,3,.row 0 (.int .i64))] 1 [] 1)]
def f159.bz:Nat->List aA×Int×List Int->Option ((List Int))|0,_=>none|k+1,(a,c,d)=>(cond (decide (c<4)) (aF (decide (0<=(a.length:Int))) (aF (decide (0<=(a.length:Int))) (aF (decide ((Int.toNat (a.length:Int))<=(Int.toNat (a.length:Int)))&&room (Int.toNat (a.length:Int)) 8) ((f159.eE N N (a,c,a,(a.length:Int),0,d,(List.replicate (Int.toNat (a.length:Int)) (0:Int)))).bind λb=>f159.bz k (b.1,(av (b.2.1+1)),b.2.2))))) (some d))
theorem f159.gL:∀k,f159.bz N k=lp (SV N) 0 4 (tq 159) 4 f159.eC f159.eD k|0=>rfl|k+1=>funext λ⟨a,b,c⟩=>by rw[f159.bz,f159.gL k,f159.td N N];kernel_rfl
def anf:ah:=(SV N).aa N 0 4 f159.eC f159.eD
def SW:List aA->Option (List Int)|a=>(aF (decide (0<=(a.length:Int))) (aF (decide (0<=(a.length:Int))) (aF (decide ((Int.toNat (a.length:Int))<=(Int.toNat (a.length:Int)))&&room (Int.toNat (a.length:Int)) 8) ((f159.bz N N (a,0,(List.replicate (Int.toNat (a.length:Int)) (0:Int)))).bind λb=>some b))))
def acw:ah:=(acu N).put 159 acv (SW N)
theorem agJ:az bJ (acw N):=(agI N).put (((((agI N).on acv).aa N 0 30 f159.Cy f159.Cz).aa N 0 11 f159.oD f159.oE).aa N 0 4 f159.eC f159.eD) _ _ _ (funext λa=>by rw[SW,f159.gL N N];kernel_rfl)
def acy:bN:=sg [.c (.sl bI .bC)] [(false,[.int .i64])]
def SX:ah:=(acw N).on acy
def f115.bQ:bq:=tm [(0,.c (.sl bI .bC)),(10,.c (.int .i64)),(11,.c (.int .i64))] [] [] 1 [] 0
def f115.bR:bn:=[(.ret,tm [(2,.c (.int .i64))] [] [] 1 [] 0),(.exit 0,tm [(0,.c (.sl bI .bC))] [] [] 1 [] 0)]
def f115.aP:Nat->List aA×Int×Int->Option (Int⊕(List aA))|0,_=>none|k+1,(a,c,b)=>(cond (decide (b<c)) ((SQ N (a,b)).bind λd=>(cond (!d) (some (Sum.inl 8)) (f115.aP k (a,c,(av (b+1)))))) (some (Sum.inr a)))
theorem f115.cV:∀k,f115.aP N k=lp (SX N) 0 6 (tq 115) 6 f115.bQ f115.bR k|0=>rfl|k+1=>funext λ⟨a,b,c⟩=>by rw[f115.aP,f115.cV k];kernel_rfl
def SY:ah:=(SX N).aa N 0 6 f115.bQ f115.bR
def f115.jv:bq:=tm [(20,.c (.sl (.int .i64) .d)),(21,.c (.int .i64)),(22,.c (.int .i64))] [] [] 1 [] 0
def f115.jw:bn:=[(.ret,tm [(2,.c (.int .i64))] [] [] 1 [] 0),(.exit 2,tm [] [] [] 1 [] 0)]
def f115.cQ(N:Nat):Nat->List Int×Int×Int->Option (Int⊕Unit)|0,_=>none|k+1,(b,c,a)=>(cond (decide (a<c)) ((idx b a).bind λd=>(cond (decide (d>5000)) (some (Sum.inl 8)) (f115.cQ N k (b,c,(av (a+1)))))) (some (Sum.inr ())))
theorem f115.nc:∀k,f115.cQ N k=lp (SY N) 0 17 (tq 115) 17 f115.jv f115.jw k|0=>rfl|k+1=>funext λ⟨a,b,c⟩=>by rw[f115.cQ,f115.nc k];kernel_rfl
def ang:ah:=(SY N).aa N 0 17 f115.jv f115.jw
def LV:List aA->Option Int|a=>(cond (decide ((a.length:Int)>32)) (some 8) ((f115.aP N N (a,(a.length:Int),0)).bind λc=>(match c with|.inl d=>some d|.inr e=>((SW N e).bind λb=>((f115.cQ N N (b,(b.length:Int),0)).bind λf=>(match f with|.inl g=>some g|.inr h=>some 0))))))
def acz:ah:=(acw N).put 115 acy (LV N)
theorem agK:az bJ (acz N):=(agJ N).put ((((agJ N).on acy).aa N 0 6 f115.bQ f115.bR).aa N 0 17 f115.jv f115.jw) _ _ _ (funext λa=>by rw[LV,f115.cV N N,f115.nc N N];kernel_rfl)
def acA:bN:=⟨[.c (.sl eH .bC),.c (.sl cS .bC)],[(false,[.sl (.int .i64) .d]),(true,(aZ eH))],0,[],[],[(0,13,(.int .i64))],[]⟩
def SZ:ah:=(acz N).on acA
def f124.eC:bq:=tm [(0,.c (.sl eH .bC)),(5,.c (.ptr 0 5 0 0 0)),(6,.c (.ref 0 13 1 (.int .i64))),(7,.c (.ptr 0 7 2 0 0)),(15,.c (.sl cS .bC)),(16,.c (.int .i64)),(17,.c (.int .i64))] [] [(0,5,.box 0 (aZ eH)),(0,13,.row 1 (.int .i64)),(0,7,.box 2 (aZ eH))] 1 [] 3
def f124.eD:bn:=[(.exit 0,tm [(5,.c (.ptr 0 5 0 0 0)),(6,.c (.ref 0 13 1 (.int .i64))),(7,.c (.ptr 0 7 2 0 0))] [] [(0,5,.box 0 (aZ eH)),(0,13,.row 1 (.int .i64)),(0,7,.box 2 (aZ eH))] 1 [] 3)]
def f124.bz(N:Nat):Nat->List oB×List Field×uj (List Int×Int×Int)->Option ((Int×Int×List Int×Int×Int))|0,_=>none|k+1,(e,f,g,a,h,i,c,d,j)=>(cond (decide (a<g)) ((idx f a).bind λl=>((idx e l.2).bind λb=>(aF (ga a c.length) ((c[a.toNat]?).bind λn=>(aF (ga a (c.set a.toNat (pq .i64 (av ((av (d+b.2))-1)) (av (b.2-1)))).length) (((c.set a.toNat (pq .i64 (av ((av (d+b.2))-1)) (av (b.2-1))))[a.toNat]?).bind λm=>f124.bz N k (e,f,g,(av (a+1)),h,i,(c.set a.toNat (pq .i64 (av ((av (d+b.2))-1)) (av (b.2-1)))),(min 1048576 (av (m+b.1))),(max j b.2)))))))) (some (h,i,c,d,j)))
theorem f124.gL:∀k,f124.bz N k=lp (SZ N) 0 4 (tq 124) 4 f124.eC f124.eD k|0=>rfl|k+1=>funext λ⟨a,b,c,d,e,f,g,h,i⟩=>by rw[f124.bz,f124.gL k];kernel_rfl
def anh:ah:=(SZ N).aa N 0 4 f124.eC f124.eD
def LW:List oB×List Field->Option (List Int×Int×Int)|(c,a)=>(aF (decide (0<=(a.length:Int))) (aF (decide (0<=(a.length:Int))) (aF (decide ((Int.toNat (a.length:Int))<=(Int.toNat (a.length:Int)))&&room (Int.toNat (a.length:Int)) 8) ((f124.bz N N (c,a,(a.length:Int),0,0,0,(List.replicate (Int.toNat (a.length:Int)) (0:Int)),0,1)).bind λb=>some (b.2.2.1,(pq .i64 (av ((av (b.2.2.2.1+b.2.2.2.2))-1)) (av (b.2.2.2.2-1))),b.2.2.2.2)))))
def acB:ah:=(acz N).put 124 acA (LW N)
theorem agL:az bJ (acB N):=(agK N).put (((agK N).on acA).aa N 0 4 f124.eC f124.eD) _ _ _ (funext λ⟨a,b⟩=>by rw[LW,f124.gL N N];kernel_rfl)
def acC:bN:=⟨[.c (.sl bI .bC)],[(false,[.sl eH .d])],0,[(0,15,25,.bool)],[],[(0,9,eH)],[]⟩
def S0:ah:=(acB N).on acC
def f123.eC:bq:=tm [(3,.c (.ref 0 9 0 eH)),(10,.c (.sl bI .bC)),(11,.c (.int .i64)),(12,.c (.int .i64))] [] [(0,9,.row 0 eH)] 1 [] 1
def f123.eD:bn:=[(.exit 0,tm [(3,.c (.ref 0 9 0 eH))] [] [(0,9,.row 0 eH)] 1 [] 1)]
def f123.bz:Nat->List aA×Int×Int×List oB->Option ((List oB))|0,_=>none|k+1,(d,e,a,b)=>(cond (decide (a<e)) ((idx d a).bind λc=>(cond (c.1==1) (aF (ga a b.length) ((b[a.toNat]?).bind λi=>f123.bz k (d,e,(av (a+1)),(b.set a.toNat (1,1))))) ((cond (c.1==2) (some true) (some (c.1==4))).bind λg=>(cond g (aF (ga a b.length) ((b[a.toNat]?).bind λj=>f123.bz k (d,e,(av (a+1)),(b.set a.toNat (8,8))))) (cond (c.1==3) (aF (ga a b.length) ((b[a.toNat]?).bind λl=>f123.bz k (d,e,(av (a+1)),(b.set a.toNat (16,8))))) (cond (c.1==7) (aF (ga a b.length) ((b[a.toNat]?).bind λm=>f123.bz k (d,e,(av (a+1)),(b.set a.toNat (24,8))))) (cond (c.1==6) (aF (ga c.2.1 b.length) ((b[c.2.1.toNat]?).bind λf=>(aF (ga a b.length) ((b[a.toNat]?).bind λn=>f123.bz k (d,e,(av (a+1)),(b.set a.toNat ((min 1048576 (av (c.2.2.1*f.1))),f.2))))))) (cond (c.1==5) ((LW N (b,c.2.2.2)).bind λh=>(aF (ga a b.length) ((b[a.toNat]?).bind λo=>f123.bz k (d,e,(av (a+1)),(b.set a.toNat h.2))))) (f123.bz k (d,e,(av (a+1)),b)))))))))) (some b))
theorem f123.gL:∀k,f123.bz N k=lp (S0 N) 0 4 (tq 123) 4 f123.eC f123.eD k|0=>rfl|k+1=>funext λ⟨a,b,c,d⟩=>by rw[f123.bz,f123.gL k];kernel_rfl
def ani:ah:=(S0 N).aa N 0 4 f123.eC f123.eD
def Pu:List aA->Option (List oB)|a=>(aF (decide (0<=(a.length:Int))) (aF (decide (0<=(a.length:Int))) (aF (decide ((Int.toNat (a.length:Int))<=(Int.toNat (a.length:Int)))&&room (Int.toNat (a.length:Int)) 16) ((f123.bz N N (a,(a.length:Int),0,(List.replicate (Int.toNat (a.length:Int)) (0,0)))).bind λb=>some b))))
def agM:ah:=(acB N).put 123 acC (Pu N)
theorem agN:az bJ (agM N):=(agL N).put (((agL N).on acC).aa N 0 4 f123.eC f123.eD) _ _ _ (funext λa=>by rw[Pu,f123.gL N N];kernel_rfl)
def agO:bN:=⟨[.c (.sl bI .bC),.c (.int .i64)],[(false,[.sl eH .d]),(false,[.int .i64])],0,[(0,5,20,.bool)],[],[],[]⟩
def Yv:List aA×Int->Option (List oB×Int)|(a,b)=>((LV N a).bind λc=>(cond (c !=0) (some ([],c)) ((cond (decide (b<0)) (some true) (some (decide (b>=(a.length:Int))))).bind λe=>(cond e (some ([],2)) ((Pu N a).bind λd=>((idx d b).bind λf=>(cond (decide (f.1>256)) (some ([],16)) (some (d,0)))))))))
def agP:ah:=(agM N).put 160 agO (Yv N)
theorem agQ:az bJ (agP N):=(agN N).put ((agN N).on agO) _ _ _ (funext λ⟨a,b⟩=>by rw[Yv];kernel_rfl)
def agR:bN:=sg [.c (.sl bI .bC),.c (.int .i64)] [(false,[.int .i64]),(false,[.int .i64]),(false,[.int .i64])]
def Pv:List aA×Int->Option (Int×Int×Int)|(c,b)=>((Yv N (c,b)).bind λa=>(cond (a.2!=0) (some (0,0,a.2)) ((idx a.1 b).bind λd=>((idx a.1 b).bind λe=>some (d.1,e.2,0)))))
def acD:ah:=(agP N).put 116 agR (Pv N)
theorem agS:az bJ (acD N):=(agQ N).put ((agQ N).on agR) _ _ _ (funext λ⟨a,b⟩=>by rw[Pv];kernel_rfl)
def acE:bN:=sg [.c (.sl cS .bC)] [(false,[.bool])]
def S1:ah:=(acD N).on acE
def f162.mb:bq:=tm [(0,.c (.sl cS .bC)),(1,.fk 199 [.ptr 0 4 0 0 0]),(7,.c (.int .i64)),(8,.c (.int .i64))] [[],[]] [(0,4,.box 0 (aZ cS))] 3 [] 1
def f162.mc:bn:=[(.ret,tm [(4,.c (.int .i64))] [[],[]] [] 3 [] 0),(.exit 0,tm [] [[],[]] [] 3 [] 0)]
def f162.cP(N:Nat):Nat->List Field×Int×Int×List UInt8×Int->Option (Int⊕Unit)|0,_=>none|k+1,(b,c,a,d,e)=>(cond (decide (a<c)) ((idx b a).bind λf=>(cond (f.1==d) (some (Sum.inl a)) (f162.cP N k (b,c,(av (a+1)),d,e)))) (some (Sum.inr ())))
theorem f162.qq:∀k,f162.cP N k=lp (S1 N) 1021001007000 3 (tq 221) 3 f162.mb f162.mc k|0=>rfl|k+1=>funext λ⟨a,b,c,d,e⟩=>by rw[f162.cP,f162.qq k];kernel_rfl
def S3:ah:=(S1 N).aa N 1021001007000 3 f162.mb f162.mc
def f162.rj:bq:=tm [(0,.c (.sl cS .bC)),(5,.c (.sl cS .bC)),(6,.c (.int .i64)),(7,.c (.int .i64))] [] [] 1 [] 0
def f162.rq:bn:=[(.ret,tm [(2,.c (.bool))] [] [] 1 [] 0),(.exit 0,tm [] [] [] 1 [] 0)]
def f162.gM:Nat->List Field×List Field×Int×Int->Option (Bool⊕Unit)|0,_=>none|k+1,(b,c,d,a)=>(cond (decide (a<d)) ((idx c a).bind λe=>((LU N e.1).bind λf=>(cond (!f) (some (Sum.inl false)) (aF (decide (0<=a)) (aF (decide (a.toNat<=b.length)) ((f162.cP N N ((b.take a.toNat),((b.take a.toNat).length:Int),0,e.1,e.2)).bind λg=>(match g with|.inl h=>(cond (decide (h>=0)) (some (Sum.inl false)) (f162.gM k (b,c,d,(av (a+1)))))|.inr i=>f162.gM k (b,c,d,(av (a+1)))))))))) (some (Sum.inr ())))
theorem f162.wV:∀k,f162.gM N k=lp (S3 N) 0 3 (tq 162) 3 f162.rj f162.rq k|0=>rfl|k+1=>funext λ⟨a,b,c,d⟩=>by rw[f162.gM,f162.wV k,f162.qq N N];kernel_rfl
def anj:ah:=(S3 N).aa N 0 3 f162.rj f162.rq
def S4:List Field->Option Bool|a=>((f162.gM N N (a,a,(a.length:Int),0)).bind λb=>(match b with|.inl c=>some c|.inr d=>some true))
def agT:ah:=(acD N).put 162 acE (S4 N)
theorem agU:az bJ (agT N):=(agS N).put ((((agS N).on acE).aa N 1021001007000 3 f162.mb f162.mc).aa N 0 3 f162.rj f162.rq) _ _ _ (funext λa=>by rw[S4,f162.wV N N];kernel_rfl)
def agV:bN:=sg [] [(true,(aZ ri))]
def yg(N:Nat):Unit->Option Yt|()=>some (0,15,false,true)
def agW:ah:=(agT N).put 192 agV (yg N)
theorem agX:az bJ (agW N):=(agU N).put ((agU N).on agV) _ _ _ (funext λ()=>by rw[yg];kernel_rfl)
def agY:bN:=sg [] [(true,(aZ ri))]
def Yw(N:Nat):Unit->Option Yt|()=>some ((-9223372036854775808),9223372036854775807,false,false)
def agZ:ah:=(agW N).put 193 agY (Yw N)
theorem ag0:az bJ (agZ N):=(agX N).put ((agX N).on agY) _ _ _ (funext λ()=>by rw[Yw];kernel_rfl)
def ag1:bN:=sg [.c (.int .i64)] [(true,(aZ ri))]
def CA(N:Nat):Int->Option Yt|a=>some (0,(av (a-1)),false,false)
def ag2:ah:=(agZ N).put 194 ag1 (CA N)
theorem ag3:az bJ (ag2 N):=(ag0 N).put ((ag0 N).on ag1) _ _ _ (funext λa=>by rw[CA];kernel_rfl)
def ag4:bN:=sg [] [(true,(aZ ri))]
def tf(N:Nat):Unit->Option Yt|()=>some (0,15,true,false)
def ag5:ah:=(ag2 N).put 195 ag4 (tf N)
theorem ag6:az bJ (ag5 N):=(ag3 N).put ((ag3 N).on ag4) _ _ _ (funext λ()=>by rw[tf];kernel_rfl)
def ag7:bN:=⟨[.c (.int .u8)],[(true,[.int .i64,.int .i64,.bool,.bool,.int .i64,.int .i64,.bool,.bool,.int .i64,.int .i64,.bool,.bool]),(false,[.int .i64])],0,[(0,24,7,.bool),(0,34,16,.bool),(0,48,19,.bool),(0,46,19,.bool),(0,44,19,.bool),(0,42,19,.bool),(0,40,19,.bool),(0,38,19,.bool),(0,60,27,.bool),(0,58,27,.bool),(0,56,27,.bool),(0,54,27,.bool),(0,52,27,.bool),(0,78,46,.bool),(0,76,46,.bool),(0,84,52,.bool)],[],[(0,62,ri),(0,67,ri),(0,72,ri),(0,76,ri),(0,91,ri),(0,97,ri),(0,103,ri),(0,108,ri),(0,112,ri),(0,117,ri),(0,121,ri),(0,126,ri),(0,132,ri),(0,137,ri),(0,141,ri)],[]⟩
def He:Int->Option (ack (ack (ack Int)))|a=>((cond (a==30) (some true) (some (a==31))).bind λK=>(cond K (some (0,0,false,false,0,0,false,false,0,0,false,false,0)) (cond (a==1) ((yg N ()).bind λe=>((Yw N ()).bind λf=>some (e.1,e.2.1,e.2.2.1,e.2.2.2,f.1,f.2.1,f.2.2.1,f.2.2.2,0,0,false,false,2))) (cond (a==2) ((yg N ()).bind λg=>((CA N 32).bind λh=>some (g.1,g.2.1,g.2.2.1,g.2.2.2,h.1,h.2.1,h.2.2.1,h.2.2.2,0,0,false,false,2))) (cond (a==3) ((yg N ()).bind λi=>((CA N 2).bind λj=>some (i.1,i.2.1,i.2.2.1,i.2.2.2,j.1,j.2.1,j.2.2.1,j.2.2.2,0,0,false,false,2))) ((cond (a==4) (some true) (some (a==15))).bind λL=>(cond L ((yg N ()).bind λl=>some (l.1,l.2.1,l.2.2.1,l.2.2.2,0,0,false,false,0,0,false,false,1)) ((cond (a==6) (some true) ((cond (a==7) (some true) ((cond (a==8) (some true) ((cond (a==9) (some true) ((cond (a==10) (some true) ((cond (a==11) (some true) (some (a==19))).bind λM=>some M)).bind λO=>some O)).bind λP=>some P)).bind λQ=>some Q)).bind λR=>some R)).bind λS=>(cond S ((tf N ()).bind λb=>((yg N ()).bind λc=>((tf N ()).bind λd=>(cond b.2.2.1 (some (c.1,c.2.1,c.2.2.1,c.2.2.2,d.1,d.2.1,d.2.2.1,d.2.2.2,b.1,b.2.1,b.2.2.1,b.2.2.2,3)) (some (c.1,c.2.1,c.2.2.1,c.2.2.2,d.1,d.2.1,d.2.2.1,d.2.2.2,b.1,b.2.1,b.2.2.1,b.2.2.2,2)))))) ((cond (a==5) (some true) ((cond (a==12) (some true) ((cond (a==16) (some true) ((cond (a==18) (some true) ((cond (a==21) (some true) (some (a==33))).bind λT=>some T)).bind λU=>some U)).bind λV=>some V)).bind λW=>some W)).bind λX=>(cond X ((yg N ()).bind λm=>((tf N ()).bind λn=>some (m.1,m.2.1,m.2.2.1,m.2.2.2,n.1,n.2.1,n.2.2.1,n.2.2.2,0,0,false,false,2))) (cond (a==13) ((yg N ()).bind λo=>((tf N ()).bind λp=>((CA N 8).bind λq=>some (o.1,o.2.1,o.2.2.1,o.2.2.2,p.1,p.2.1,p.2.2.1,p.2.2.2,q.1,q.2.1,q.2.2.1,q.2.2.2,3)))) (cond (a==14) ((tf N ()).bind λr=>((CA N 8).bind λs=>((tf N ()).bind λt=>some (r.1,r.2.1,r.2.2.1,r.2.2.2,s.1,s.2.1,s.2.2.1,s.2.2.2,t.1,t.2.1,t.2.2.1,t.2.2.2,3)))) (cond (a==20) ((tf N ()).bind λu=>((tf N ()).bind λv=>((tf N ()).bind λw=>some (u.1,u.2.1,u.2.2.1,u.2.2.2,v.1,v.2.1,v.2.2.1,v.2.2.2,w.1,w.2.1,w.2.2.1,w.2.2.2,3)))) (cond (a==17) ((tf N ()).bind λx=>((tf N ()).bind λy=>some (x.1,x.2.1,x.2.2.1,x.2.2.2,y.1,y.2.1,y.2.2.1,y.2.2.2,0,0,false,false,2))) (cond (a==22) ((CA N 200).bind λz=>some (z.1,z.2.1,z.2.2.1,z.2.2.2,0,0,false,false,0,0,false,false,1)) (cond (a==23) ((tf N ()).bind λA=>((CA N 200).bind λB=>some (A.1,A.2.1,A.2.2.1,A.2.2.2,B.1,B.2.1,B.2.2.1,B.2.2.2,0,0,false,false,2))) ((cond (a==24) (some true) ((cond (a==28) (some true) (some (a==32))).bind λY=>some Y)).bind λZ=>(cond Z ((tf N ()).bind λC=>some (C.1,C.2.1,C.2.2.1,C.2.2.2,0,0,false,false,0,0,false,false,1)) (cond (a==25) ((yg N ()).bind λI=>((CA N 32).bind λD=>some ((-1),I.2.1,I.2.2.1,I.2.2.2,D.1,D.2.1,D.2.2.1,D.2.2.2,0,0,false,false,2))) ((cond (a==26) (some true) (some (a==27))).bind λa0=>(cond a0 ((CA N 32).bind λE=>some (E.1,E.2.1,E.2.2.1,E.2.2.2,0,0,false,false,0,0,false,false,1)) (cond (a==29) ((yg N ()).bind λG=>((yg N ()).bind λH=>some (G.1,G.2.1,G.2.2.1,G.2.2.2,H.1,H.2.1,H.2.2.1,H.2.2.2,0,0,false,false,2))) (cond (a==34) ((tf N ()).bind λJ=>some ((-1),J.2.1,J.2.2.1,J.2.2.2,0,0,false,false,0,0,false,false,1)) (some (0,0,false,false,0,0,false,false,0,0,false,false,(-1)))))))))))))))))))))))))))
def ag8:ah:=(ag5 N).put 156 ag7 (He N)
theorem ag9:az bJ (ag8 N):=(ag6 N).put ((ag6 N).on ag7) _ _ _ (funext λa=>by rw[He];kernel_rfl)
def aha:bN:=sg [.agg (aZ bf)] [(true,[.int .i64,.int .i64,.int .i64])]
def JB(N:Nat):ic->Option (Int×Int×Int)|(d,a,b,c)=>some (a,b,c)
def ahb:ah:=(ag8 N).put 157 aha (JB N)
theorem ahc:az bJ (ahb N):=(ag9 N).put ((ag9 N).on aha) _ _ _ (funext λ⟨a,b,c,d⟩=>by rw[JB];kernel_rfl)
def ahd:bN:=⟨[.agg (aZ bf)],[(false,[.int .i64])],0,[(0,12,34,.bool),(0,100012,34,.bool)],[(0,7),(0,100007)],[],[]⟩
def JC:ic->Option Int|(c,d,e,f)=>((He N c).bind λa=>(cond (decide (a.2.2.2.2.2.2.2.2.2.2.2.2<0)) (some 8) ((JB N (c,d,e,f)).bind λb=>((cond (decide (b.1<a.1)) (some true) (some (decide (b.1>a.2.1)))).bind λg=>(cond g (some 8) ((cond (decide (b.2.1<a.2.2.2.2.1)) (some true) (some (decide (b.2.1>a.2.2.2.2.2.1)))).bind λh=>(cond h (some 8) ((cond (decide (b.2.2<a.2.2.2.2.2.2.2.2.1)) (some true) (some (decide (b.2.2>a.2.2.2.2.2.2.2.2.2.1)))).bind λi=>(cond i (some 8) (some 0))))))))))
def ahe:ah:=(ahb N).put 155 ahd (JC N)
theorem ahf:az bJ (ahe N):=(ahc N).put ((ahc N).on ahd) _ _ _ (funext λ⟨a,b,c,d⟩=>by rw[JC];kernel_rfl)
def ahg:bN:=⟨[.c (.int .i64)],[(false,[.int .i64])],0,[(0,1,8,.bool)],[],[],[]⟩
def Pw(N:Nat):Int->Option Int|a=>((cond (decide (a<1)) (some true) (some (decide (a>200)))).bind λb=>(cond b (some 2) (some 0)))
def acF:ah:=(ahe N).put 125 ahg (Pw N)
theorem ahh:az bJ (acF N):=(ahf N).put ((ahf N).on ahg) _ _ _ (funext λa=>by rw[Pw];kernel_rfl)
def acG:bN:=⟨[.c (.sl ia .bC),.c (.int .i64)],[(false,[.bool])],0,[(0,1,28,.bool)],[],[],[]⟩
def S5:ah:=(acF N).on acG
def f126.ig:bq:=tm [(5,.c (.ptr 0 5 0 0 0)),(33,.c (.sl ia .bC)),(34,.c (.int .i64)),(35,.c (.int .i64))] [] [(0,5,.box 0 (aZ ia))] 1 [] 1
def f126.ij:bn:=[(.ret,tm [(4,.c (.bool))] [] [] 1 [] 0),(.exit 0,tm [] [] [] 1 [] 0)]
def f126.cI(N:Nat):Nat->List eN×Int×Int×Int×Int->Option (Bool⊕Unit)|0,_=>none|k+1,(c,d,b,e,f)=>(cond (decide (b<d)) ((idx c b).bind λa=>(cond (decide (a.1<=e)) (some (Sum.inl false)) (cond (a.1==a.1&&(a.2==f&&true)) (some (Sum.inl false)) (f126.cI N k (c,d,(av (b+1)),a.1,a.2))))) (some (Sum.inr ())))
theorem f126.kW:∀k,f126.cI N k=lp (S5 N) 0 7 (tq 126) 7 f126.ig f126.ij k|0=>rfl|k+1=>funext λ⟨a,b,c,d,e⟩=>by rw[f126.cI,f126.kW k];kernel_rfl
def ank:ah:=(S5 N).aa N 0 7 f126.ig f126.ij
def S6:List eN×Int->Option Bool|(a,c)=>((cond ((a.length:Int)==0) (some true) ((idx a 0).bind λd=>(cond (d.1!=0) (some true) ((idx a (av ((a.length:Int)-1))).bind λe=>some (decide (e.1>=c)))))).bind λf=>(cond f (some false) ((idx a 0).bind λb=>(aF (decide (1<=a.length)) ((f126.cI N N ((a.drop 1),((a.drop 1).length:Int),0,b.1,b.2)).bind λg=>(match g with|.inl h=>some h|.inr i=>some true))))))
def ahi:ah:=(acF N).put 126 acG (S6 N)
theorem ahj:az bJ (ahi N):=(ahh N).put (((ahh N).on acG).aa N 0 7 f126.ig f126.ij) _ _ _ (funext λ⟨a,b⟩=>by rw[S6,f126.kW N N];kernel_rfl)
def s94:bN:=sg [.c (.sl ia .bC),.c (.int .i64)] [(false,[.int .i64])]
def Z3:List eN×Int->Option Int|(c,a)=>((Pw N a).bind λb=>(cond (b !=0) (some b) ((S6 N (c,a)).bind λd=>(cond (!d) (some 8) (some 0)))))
def G94:ah:=(ahi N).put 94 s94 (Z3 N)
theorem K94:az bJ (G94 N):=(ahj N).put ((ahj N).on s94) _ _ _ (funext λ⟨a,b⟩=>by rw[Z3];kernel_rfl)
def acH:bN:=⟨[.c (.sl bI .bC),.agg (cF dK)],[(false,[.bool])],0,[(0,1,49,.bool),(0,11,66,.bool),(0,26,4,.bool)],[],[],[]⟩
def S7:ah:=(G94 N).on acH
def f117.bQ:bq:=tm [(0,.c (.sl bI .bC)),(3,.c (.ptr 0 3 0 0 0)),(51,.c (.sl cS .bC)),(52,.c (.int .i64)),(53,.c (.int .i64))] [] [(0,3,.box 0 (cF dK))] 1 [] 1
def f117.bR:bn:=[(.ret,tm [(4,.c (.bool))] [] [] 1 [] 0),(.exit 0,tm [(3,.c (.ptr 0 3 0 0 0))] [] [(0,3,.box 0 (cF dK))] 1 [] 1)]
def f117.aP(N:Nat):Nat->List aA×List Field×Int×Int×gV->Option (Bool⊕gV)|0,_=>none|k+1,(b,c,d,a,e,f,g,h,i,j,l)=>(cond (decide (a<d)) ((idx c a).bind λm=>((cond (decide (m.2<0)) (some true) (some (decide (m.2>=(b.length:Int))))).bind λn=>(cond n (some (Sum.inl false)) (f117.aP N k (b,c,d,(av (a+1)),e,f,g,h,i,j,l))))) (some (Sum.inr (e,f,g,h,i,j,l))))
theorem f117.cV:∀k,f117.aP N k=lp (S7 N) 0 6 (tq 117) 6 f117.bQ f117.bR k|0=>rfl|k+1=>funext λ⟨a,b,c,d,e,f,g,h,i,j,l⟩=>by rw[f117.aP,f117.cV k];kernel_rfl
def S8:ah:=(S7 N).aa N 0 6 f117.bQ f117.bR
def f117.jv:bq:=tm [(3,.c (.ptr 0 3 0 0 0)),(69,.c (.sl bf .bC)),(70,.c (.int .i64)),(71,.c (.int .i64))] [] [(0,3,.box 0 (cF dK))] 1 [] 1
def f117.jw:bn:=[(.ret,tm [(4,.c (.bool))] [] [] 1 [] 0),(.exit 2,tm [(3,.c (.ptr 0 3 0 0 0))] [] [(0,3,.box 0 (cF dK))] 1 [] 1)]
def f117.cQ:Nat->List Instr×Int×Int×gV->Option (Bool⊕gV)|0,_=>none|k+1,(c,d,b,e,f,g,h,i,j,l)=>(cond (decide (b<d)) ((idx c b).bind λa=>((JC N (a.1,a.2.1,a.2.2.1,a.2.2.2)).bind λm=>(cond (m !=0) (some (Sum.inl false)) (f117.cQ k (c,d,(av (b+1)),e,f,g,h,i,j,l))))) (some (Sum.inr (e,f,g,h,i,j,l))))
theorem f117.nc:∀k,f117.cQ N k=lp (S8 N) 0 17 (tq 117) 17 f117.jv f117.jw k|0=>rfl|k+1=>funext λ⟨a,b,c,d,e,f,g,h,i,j⟩=>by rw[f117.cQ,f117.nc k];kernel_rfl
def anm:ah:=(S8 N).aa N 0 17 f117.jv f117.jw
def S9:List aA×gV->Option Bool|(f,g,d,e,b,h,i,j)=>(((LU N g).bind λl=>(cond (!l) (some true) (cond (decide ((b.length:Int)>16)) (some true) ((S4 N b).bind λm=>(cond (!m) (some true) (cond (decide (d<0)) (some true) (cond (decide (d>(b.length:Int))) (some true) (cond (decide (e<(-1))) (some true) (some (decide (e>=(f.length:Int)))))))))))).bind λn=>(cond n (some false) ((f117.aP N N (f,b,(b.length:Int),0,g,d,e,b,h,i,j)).bind λo=>(match o with|.inl p=>some p|.inr a=>((f117.cQ N N (a.2.2.2.2.1,(a.2.2.2.2.1.length:Int),0,a.1,a.2.1,a.2.2.1,a.2.2.2.1,a.2.2.2.2.1,a.2.2.2.2.2.1,a.2.2.2.2.2.2)).bind λq=>(match q with|.inl r=>some r|.inr c=>(((Z3 N (c.2.2.2.2.2.1,(c.2.2.2.2.1.length:Int))).bind λs=>(cond (s==0) ((Z3 N (c.2.2.2.2.2.2,(c.2.2.2.2.1.length:Int))).bind λt=>some (t==0)) (some false))).bind λu=>some u)))))))
def acI:ah:=(G94 N).put 117 acH (S9 N)
theorem ahk:az bJ (acI N):=(K94 N).put ((((K94 N).on acH).aa N 0 6 f117.bQ f117.bR).aa N 0 17 f117.jv f117.jw) _ _ _ (funext λ⟨a,b,c,d,e,f,g,h⟩=>by rw[S9,f117.cV N N,f117.nc N N];kernel_rfl)
def s87:bN:=⟨[.agg (cF aY)],[(false,[.bool])],0,[(0,1,33,.bool)],[],[],[]⟩
def Z4:ah:=(acI N).on s87
def f87.bQ:bq:=tm [(1,.c (.ptr 0 1 0 0 0)),(36,.c (.int .i64)),(37,.c (.int .i64))] [] [(0,1,.box 0 (cF aY))] 1 [] 1
def f87.bR:bn:=[(.ret,tm [(2,.c (.bool))] [] [] 1 [] 0),(.exit 0,tm [(1,.c (.ptr 0 1 0 0 0))] [] [(0,1,.box 0 (cF aY))] 1 [] 1)]
def f87.aP:Nat->Int×Int×dc->Option (Bool⊕dc)|0,_=>none|k+1,(c,a,b,d,e)=>(cond (decide (a<c)) ((Pv N (b,a)).bind λf=>(cond (f.2.2!=0) (some (Sum.inl false)) (f87.aP k (c,(av (a+1)),b,d,e)))) (some (Sum.inr (b,d,e))))
theorem f87.cV:∀k,f87.aP N k=lp (Z4 N) 0 6 (tq 87) 6 f87.bQ f87.bR k|0=>rfl|k+1=>funext λ⟨a,b,c,d,e⟩=>by rw[f87.aP,f87.cV k];kernel_rfl
def Z5:ah:=(Z4 N).aa N 0 6 f87.bQ f87.bR
def f87.Ta:bq:=tm [(1,.c (.ptr 0 1 0 0 0)),(52,.c (.sl .str .bC)),(53,.c (.int .i64)),(54,.c (.int .i64))] [] [(0,1,.box 0 (cF aY))] 1 [] 1
def f87.Tc:bn:=[(.ret,tm [(2,.c (.bool))] [] [] 1 [] 0),(.exit 2,tm [(1,.c (.ptr 0 1 0 0 0))] [] [(0,1,.box 0 (cF aY))] 1 [] 1)]
def f87.CB(N:Nat):Nat->List (List UInt8)×Int×Int×dc->Option (Bool⊕dc)|0,_=>none|k+1,(b,c,a,d,e,f)=>(cond (decide (a<c)) ((idx b a).bind λg=>(cond (decide ((g.length:Int)>64)) (some (Sum.inl false)) (f87.CB N k (b,c,(av (a+1)),d,e,f)))) (some (Sum.inr (d,e,f))))
theorem f87.Z6:∀k,f87.CB N k=lp (Z5 N) 0 18 (tq 87) 18 f87.Ta f87.Tc k|0=>rfl|k+1=>funext λ⟨a,b,c,d,e,f⟩=>by rw[f87.CB,f87.Z6 k];kernel_rfl
def Z7:ah:=(Z5 N).aa N 0 18 f87.Ta f87.Tc
def f87.Cy:bq:=tm [(1,.c (.ptr 0 1 0 0 0)),(9,.c (.mp 0 62 1)),(64,.c (.sl dK .bC)),(65,.c (.int .i64)),(66,.c (.int .i64))] [] [(0,1,.box 0 (cF aY)),(0,62,.set 1)] 1 [] 2
def f87.Cz:bn:=[(.ret,tm [(2,.c (.bool))] [] [] 1 [] 0),(.exit 4,tm [] [] [] 1 [] 0)]
def f87.nP:Nat->List Func×Int×Int×bP (List (List UInt8))->Option (Bool⊕Unit)|0,_=>none|k+1,(c,d,b,e,g,h,f)=>(cond (decide (b<d)) ((idx c b).bind λa=>(cond (hasB f a.1) (some (Sum.inl false)) ((S9 N (e,a.1,a.2.1,a.2.2.1,a.2.2.2.1,a.2.2.2.2.1,a.2.2.2.2.2.1,a.2.2.2.2.2.2)).bind λi=>(cond (!i) (some (Sum.inl false)) (f87.nP k (c,d,(av (b+1)),e,g,h,(sj f a.1))))))) (some (Sum.inr ())))
theorem f87.JA:∀k,f87.nP N k=lp (Z7 N) 0 30 (tq 87) 30 f87.Cy f87.Cz k|0=>rfl|k+1=>funext λ⟨a,b,c,d,e,f,g⟩=>by rw[f87.nP,f87.JA k];kernel_rfl
def aqU:ah:=(Z7 N).aa N 0 30 f87.Cy f87.Cz
def F87:dc->Option Bool|(c,e,d)=>(((LV N c).bind λf=>(cond (f !=0) (some true) (cond (decide ((e.length:Int)>32)) (some true) (cond ((d.length:Int)==0) (some true) (some (decide ((d.length:Int)>32))))))).bind λg=>(cond g (some false) ((f87.aP N N ((c.length:Int),0,c,e,d)).bind λh=>(match h with|.inl i=>some i|.inr a=>((f87.CB N N (a.2.1,(a.2.1.length:Int),0,a.1,a.2.1,a.2.2)).bind λj=>(match j with|.inl l=>some l|.inr b=>((f87.nP N N (b.2.2,(b.2.2.length:Int),0,b.1,b.2.1,b.2.2,([]:List (List UInt8)))).bind λm=>(match m with|.inl n=>some n|.inr o=>some true))))))))
def G87:ah:=(acI N).put 87 s87 (F87 N)
theorem K87:az bJ (G87 N):=(ahk N).put (((((ahk N).on s87).aa N 0 6 f87.bQ f87.bR).aa N 0 18 f87.Ta f87.Tc).aa N 0 30 f87.Cy f87.Cz) _ _ _ (funext λ⟨a,b,c⟩=>by rw[F87,f87.cV N N,f87.Z6 N N,f87.JA N N];kernel_rfl)
def acJ:bN:=⟨[.c (.int .u64)],[(false,[.sl (.int .u8) .d])],1,[],[(0,4)],[(0,2,(.int .u8)),(1014000,5,(.int .u8)),(1018000,5,(.int .u8))],[]⟩
def Td:ah:=(G87 N).on acJ
def f119.yh:bq:=tm [(0,.c (.int .u64)),(3,.c (.ptr 0 3 0 0 0)),(4,.fk 163 [.ptr 0 3 0 0 0])] [] [(0,3,.box 0 [.ref 0 1163006 1 (.int .u8)]),(0,1163006,.row 1 (.int .u8))] 1 [] 2
def f119.yj:bn:=[(.exit 0,tm [(0,.c (.int .u64)),(3,.c (.ptr 0 3 0 0 0)),(4,.fk 163 [.ptr 0 3 0 0 0])] [] [(0,3,.box 0 [.ref 0 1163006 1 (.int .u8)]),(0,1163006,.row 1 (.int .u8))] 1 [] 2)]
def f119.me(N:Nat):Nat->Int×List Int->Option ((Int×List Int))|0,_=>none|k+1,(a,b)=>(cond (decide (a>=128)) (aF (room (b.length+1) 1) (f119.me N k ((Int.fdiv a 128),(b++[(Ct .u8 (W1 a) 128)])))) (some (a,b)))
theorem f119.Fq:∀k,f119.me N k=lp (Td N) 0 100004 (tq 119) 4 f119.yh f119.yj k|0=>rfl|k+1=>funext λ⟨a,b⟩=>by rw[f119.me,f119.Fq k];kernel_rfl
def anp:ah:=(Td N).aa N 0 100004 f119.yh f119.yj
def gQ:Int->Option (List Int)|a=>(cond (decide (a>=128)) (aF (room 1 1) ((f119.me N N ((Int.fdiv a 128),[(Ct .u8 (W1 a) 128)])).bind λb=>(aF (room (b.2.length+1) 1) (some (b.2++[(W1 b.1)]))))) (aF (room 1 1) (some [(W1 a)])))
def ahm:ah:=(G87 N).put 119 acJ (gQ N)
theorem ahn:az bJ (ahm N):=(K87 N).put (((K87 N).on acJ).aa N 0 100004 f119.yh f119.yj) _ _ _ (funext λa=>by rw[gQ,f119.Fq N N];kernel_rfl)
def aho:bN:=sg [.c (.int .i64)] [(false,[.sl (.int .u8) .d])]
def ru:Int->Option (List Int)|a=>((gQ N (Yi .u64 (aL ((aL a)*2)) (aL (Int.fdiv a 9223372036854775808)))).bind λb=>some b)
def ahp:ah:=(ahm N).put 120 aho (ru N)
theorem ahq:az bJ (ahp N):=(ahn N).put ((ahn N).on aho) _ _ _ (funext λa=>by rw[ru];kernel_rfl)
def ahr:bN:=⟨[.agg (aZ bf)],[(false,[.sl (.int .u8) .d]),(false,[.int .i64])],0,[(0,100017,39,.bool),(0,17,39,.bool)],[(0,9),(0,100009)],[(0,23,(.int .u8))],[]⟩
def Te:ic->Option (List Int×Int)|(a,m,n,o)=>((JC N (a,m,n,o)).bind λp=>(cond (p !=0) (some ([],p)) ((He N a).bind λb=>((JB N (a,m,n,o)).bind λc=>(cond (decide (0>=b.2.2.2.2.2.2.2.2.2.2.2.2)) (cond (decide (1>=b.2.2.2.2.2.2.2.2.2.2.2.2)) (cond (decide (2>=b.2.2.2.2.2.2.2.2.2.2.2.2)) (some ([a],0)) (cond (decide (b.2.2.2.2.2.2.2.2.1<0)) ((ru N c.2.2).bind λq=>(aF (room (1+q.length) 1) (some (([a]++q),0)))) ((gQ N (aL c.2.2)).bind λr=>(aF (room (1+r.length) 1) (some (([a]++r),0)))))) (cond (decide (b.2.2.2.2.1<0)) ((ru N c.2.1).bind λf=>(aF (room (1+f.length) 1) (cond (decide (2>=b.2.2.2.2.2.2.2.2.2.2.2.2)) (some (([a]++f),0)) (cond (decide (b.2.2.2.2.2.2.2.2.1<0)) ((ru N c.2.2).bind λs=>(aF (room (([a]++f).length+s.length) 1) (some ((([a]++f)++s),0)))) ((gQ N (aL c.2.2)).bind λt=>(aF (room (([a]++f).length+t.length) 1) (some ((([a]++f)++t),0)))))))) ((gQ N (aL c.2.1)).bind λg=>(aF (room (1+g.length) 1) (cond (decide (2>=b.2.2.2.2.2.2.2.2.2.2.2.2)) (some (([a]++g),0)) (cond (decide (b.2.2.2.2.2.2.2.2.1<0)) ((ru N c.2.2).bind λu=>(aF (room (([a]++g).length+u.length) 1) (some ((([a]++g)++u),0)))) ((gQ N (aL c.2.2)).bind λv=>(aF (room (([a]++g).length+v.length) 1) (some ((([a]++g)++v),0)))))))))) (cond (decide (b.1<0)) ((ru N c.1).bind λd=>(aF (room (1+d.length) 1) (cond (decide (1>=b.2.2.2.2.2.2.2.2.2.2.2.2)) (cond (decide (2>=b.2.2.2.2.2.2.2.2.2.2.2.2)) (some (([a]++d),0)) (cond (decide (b.2.2.2.2.2.2.2.2.1<0)) ((ru N c.2.2).bind λw=>(aF (room (([a]++d).length+w.length) 1) (some ((([a]++d)++w),0)))) ((gQ N (aL c.2.2)).bind λx=>(aF (room (([a]++d).length+x.length) 1) (some ((([a]++d)++x),0)))))) (cond (decide (b.2.2.2.2.1<0)) ((ru N c.2.1).bind λh=>(aF (room (([a]++d).length+h.length) 1) (cond (decide (2>=b.2.2.2.2.2.2.2.2.2.2.2.2)) (some ((([a]++d)++h),0)) (cond (decide (b.2.2.2.2.2.2.2.2.1<0)) ((ru N c.2.2).bind λy=>(aF (room ((([a]++d)++h).length+y.length) 1) (some (((([a]++d)++h)++y),0)))) ((gQ N (aL c.2.2)).bind λz=>(aF (room ((([a]++d)++h).length+z.length) 1) (some (((([a]++d)++h)++z),0)))))))) ((gQ N (aL c.2.1)).bind λi=>(aF (room (([a]++d).length+i.length) 1) (cond (decide (2>=b.2.2.2.2.2.2.2.2.2.2.2.2)) (some ((([a]++d)++i),0)) (cond (decide (b.2.2.2.2.2.2.2.2.1<0)) ((ru N c.2.2).bind λA=>(aF (room ((([a]++d)++i).length+A.length) 1) (some (((([a]++d)++i)++A),0)))) ((gQ N (aL c.2.2)).bind λB=>(aF (room ((([a]++d)++i).length+B.length) 1) (some (((([a]++d)++i)++B),0)))))))))))) ((gQ N (aL c.1)).bind λe=>(aF (room (1+e.length) 1) (cond (decide (1>=b.2.2.2.2.2.2.2.2.2.2.2.2)) (cond (decide (2>=b.2.2.2.2.2.2.2.2.2.2.2.2)) (some (([a]++e),0)) (cond (decide (b.2.2.2.2.2.2.2.2.1<0)) ((ru N c.2.2).bind λC=>(aF (room (([a]++e).length+C.length) 1) (some ((([a]++e)++C),0)))) ((gQ N (aL c.2.2)).bind λD=>(aF (room (([a]++e).length+D.length) 1) (some ((([a]++e)++D),0)))))) (cond (decide (b.2.2.2.2.1<0)) ((ru N c.2.1).bind λj=>(aF (room (([a]++e).length+j.length) 1) (cond (decide (2>=b.2.2.2.2.2.2.2.2.2.2.2.2)) (some ((([a]++e)++j),0)) (cond (decide (b.2.2.2.2.2.2.2.2.1<0)) ((ru N c.2.2).bind λE=>(aF (room ((([a]++e)++j).length+E.length) 1) (some (((([a]++e)++j)++E),0)))) ((gQ N (aL c.2.2)).bind λG=>(aF (room ((([a]++e)++j).length+G.length) 1) (some (((([a]++e)++j)++G),0)))))))) ((gQ N (aL c.2.1)).bind λl=>(aF (room (([a]++e).length+l.length) 1) (cond (decide (2>=b.2.2.2.2.2.2.2.2.2.2.2.2)) (some ((([a]++e)++l),0)) (cond (decide (b.2.2.2.2.2.2.2.2.1<0)) ((ru N c.2.2).bind λH=>(aF (room ((([a]++e)++l).length+H.length) 1) (some (((([a]++e)++l)++H),0)))) ((gQ N (aL c.2.2)).bind λI=>(aF (room ((([a]++e)++l).length+I.length) 1) (some (((([a]++e)++l)++I),0))))))))))))))))))
def acK:ah:=(ahp N).put 121 ahr (Te N)
theorem ahs:az bJ (acK N):=(ahq N).put ((ahq N).on ahr) _ _ _ (funext λ⟨a,b,c,d⟩=>by rw[Te];kernel_rfl)
def acL:bN:=sg [.c (.sl ia .bC),.c (.int .i64)] [(false,[.sl (.int .u8) .d]),(false,[.int .i64])]
def Tf:ah:=(acK N).on acL
def f122.CC:bq:=tm [(7,.c (.ref 0 20 0 (.int .u8))),(8,.c (.int .i64)),(21,.c (.sl ia .bC)),(22,.c (.int .i64)),(23,.c (.int .i64))] [] [(0,20,.row 0 (.int .u8))] 1 [] 1
def f122.CD:bn:=[(.exit 0,tm [(7,.c (.ref 0 20 0 (.int .u8)))] [] [(0,20,.row 0 (.int .u8))] 1 [] 1)]
def f122.nV:Nat->Int×List eN×Int×Int×List Int->Option ((List Int))|0,_=>none|k+1,(h,e,f,b,a)=>(cond (decide (b<f)) ((idx e b).bind λc=>((gQ N (aL (av (c.1-h)))).bind λd=>(aF (room (a.length+d.length) 1) ((gQ N c.2).bind λg=>(aF (room ((a++d).length+g.length) 1) (f122.nV k (c.1,e,f,(av (b+1)),((a++d)++g)))))))) (some a))
theorem f122.JD:∀k,f122.nV N k=lp (Tf N) 0 9 (tq 122) 9 f122.CC f122.CD k|0=>rfl|k+1=>funext λ⟨a,b,c,d,e⟩=>by rw[f122.nV,f122.JD k];kernel_rfl
def anq:ah:=(Tf N).aa N 0 9 f122.CC f122.CD
def Tg:List eN×Int->Option (List Int×Int)|(a,c)=>((Z3 N (a,c)).bind λb=>(cond (b !=0) (some ([],b)) ((gQ N (aL (a.length:Int))).bind λd=>((f122.nV N N (0,a,(a.length:Int),0,d)).bind λe=>some (e,0)))))
def acM:ah:=(acK N).put 122 acL (Tg N)
theorem aht:az bJ (acM N):=(ahs N).put (((ahs N).on acL).aa N 0 9 f122.CC f122.CD) _ _ _ (funext λ⟨a,b⟩=>by rw[Tg,f122.JD N N];kernel_rfl)
def s66:bN:=⟨[.agg (cF aY)],[(false,[.sl (.int .u8) .d]),(false,[.int .i64])],0,[(1015000,12,29,.bool)],[],[(1015000,23,(.int .u8)),(1042000,70,(.sl ia))],[]⟩
def Z8:ah:=(acM N).on s66
def f66.mg:bq:=tm [(0,.c (.ptr 0 4 0 0 0)),(10,.c (.sl cS .d)),(11,.c (.int .i64)),(12,.c (.int .i64))] [[(0,.c (.ptr 0 4 0 0 0))],[(1,.c (.ptr 0 1 1 0 0)),(4,.c (.ptr 0 4 0 0 0))]] [(0,4,.box 0 [.sl (.int .u8) (.app 2)]),(0,1,.box 1 (cF aY))] 3 [2] 3
def f66.mh:bn:=[(.exit 0,tm [] [[(0,.c (.ptr 0 4 0 0 0))],[(1,.c (.ptr 0 1 1 0 0)),(4,.c (.ptr 0 4 0 0 0))]] [(0,4,.box 0 [.sl (.int .u8) (.app 2)]),(0,1,.box 1 (cF aY))] 3 [2] 3)]
def f66.dN:Nat->List Field×Int×Int×List Int×dc->Option ((List Int×dc))|0,_=>none|k+1,(e,f,d,a,g,h,i)=>(cond (decide (d<f)) ((idx e d).bind λb=>((gQ N (aL (b.1.length:Int))).bind λc=>(aF (room (a.length+c.length) 1) (aF (room ((a++c).length+(bK b.1).length) 1) ((gQ N (aL b.2)).bind λj=>(aF (room (((a++c)++(bK b.1)).length+j.length) 1) (f66.dN k (e,f,(av (d+1)),(((a++c)++(bK b.1))++j),g,h,i)))))))) (some (a,g,h,i)))
theorem f66.qt:∀k,f66.dN N k=lp (Z8 N) 1015001051000 3 (tq 118) 3 f66.mg f66.mh k|0=>rfl|k+1=>funext λ⟨a,b,c,d,e,f,g⟩=>by rw[f66.dN,f66.qt k];kernel_rfl
def Z9:ah:=(Z8 N).aa N 1015001051000 3 f66.mg f66.mh
def f66.vh:bq:=tm [(0,.c (.ptr 0 4 0 0 0)),(10,.c (.sl bI .bC)),(11,.c (.int .i64)),(12,.c (.int .i64))] [[(1,.c (.ptr 0 1 1 0 0)),(4,.c (.ptr 0 4 0 0 0))]] [(0,4,.box 0 [.sl (.int .u8) (.app 2)]),(0,1,.box 1 (cF aY))] 2 [2] 3
def f66.vi:bn:=[(.exit 0,tm [] [[(1,.c (.ptr 0 1 0 0 0)),(4,.c (.ptr 0 4 1 0 0))]] [(0,1,.box 0 (cF aY)),(0,4,.box 1 [.sl (.int .u8) (.app 2)])] 2 [2] 3)]
def f66.fM:Nat->List aA×Int×Int×List Int×dc->Option ((bP (List Int)))|0,_=>none|k+1,(d,e,c,b,f,g,h)=>(cond (decide (c<e)) ((idx d c).bind λa=>(aF (room (b.length+1) 1) ((cond (a.1==4) (some true) (some (a.1==7))).bind λo=>(cond o ((gQ N (aL a.2.1)).bind λl=>(aF (room ((b++[a.1]).length+l.length) 1) (f66.fM k (d,e,(av (c+1)),((b++[a.1])++l),f,g,h)))) (cond (a.1==6) ((gQ N (aL a.2.1)).bind λj=>(aF (room ((b++[a.1]).length+j.length) 1) ((gQ N (aL a.2.2.1)).bind λm=>(aF (room (((b++[a.1])++j).length+m.length) 1) (f66.fM k (d,e,(av (c+1)),(((b++[a.1])++j)++m),f,g,h)))))) (cond (a.1==5) ((gQ N (aL (a.2.2.2.length:Int))).bind λn=>(aF (room ((b++[a.1]).length+n.length) 1) ((f66.dN N N (a.2.2.2,(a.2.2.2.length:Int),0,((b++[a.1])++n),f,g,h)).bind λi=>f66.fM k (d,e,(av (c+1)),i.1,i.2.1,i.2.2.1,i.2.2.2)))) (f66.fM k (d,e,(av (c+1)),(b++[a.1]),f,g,h)))))))) (some (f,g,h,b)))
theorem f66.CE:∀k,f66.fM N k=lp (Z9 N) 1015000 3 (tq 88) 3 f66.vh f66.vi k|0=>rfl|k+1=>funext λ⟨a,b,c,d,e,f,g⟩=>by rw[f66.fM,f66.CE k,f66.qt N N];kernel_rfl
def aaa:ah:=(Z9 N).aa N 1015000 3 f66.vh f66.vi
def f66.CC:bq:=tm [(1,.c (.ptr 0 1 0 0 0)),(4,.c (.ptr 0 4 1 0 0)),(21,.c (.sl .str .bC)),(22,.c (.int .i64)),(23,.c (.int .i64))] [] [(0,1,.box 0 (cF aY)),(0,4,.box 1 [.sl (.int .u8) (.app 2)])] 1 [2] 3
def f66.CD:bn:=[(.exit 0,tm [(1,.c (.ptr 0 1 0 0 0)),(4,.c (.ptr 0 4 1 0 0))] [] [(0,1,.box 0 (cF aY)),(0,4,.box 1 [.sl (.int .u8) (.app 2)])] 1 [2] 3)]
def f66.nV:Nat->List (List UInt8)×Int×Int×bP (List Int)->Option ((bP (List Int)))|0,_=>none|k+1,(e,f,b,g,h,i,a)=>(cond (decide (b<f)) ((idx e b).bind λc=>((gQ N (aL (c.length:Int))).bind λd=>(aF (room (a.length+d.length) 1) (aF (room ((a++d).length+(bK c).length) 1) (f66.nV k (e,f,(av (b+1)),g,h,i,((a++d)++(bK c)))))))) (some (g,h,i,a)))
theorem f66.JD:∀k,f66.nV N k=lp (aaa N) 0 9 (tq 66) 9 f66.CC f66.CD k|0=>rfl|k+1=>funext λ⟨a,b,c,d,e,f,g⟩=>by rw[f66.nV,f66.JD k];kernel_rfl
def aab:ah:=(aaa N).aa N 0 9 f66.CC f66.CD
def f66.mj:bq:=tm [(0,.c (.ptr 0 4 0 0 0)),(10,.c (.sl cS .d)),(11,.c (.int .i64)),(12,.c (.int .i64))] [[(0,.c (.ptr 0 4 0 0 0)),(3,.c (.ptr 1 3 1 0 0))],[(4,.c (.ptr 0 4 0 0 0))]] [(0,4,.box 0 [.sl (.int .u8) (.app 2)]),(1,3,.box 1 (aZ dK))] 3 [2] 3
def f66.mo:bn:=[(.exit 0,tm [] [[(0,.c (.ptr 0 4 0 0 0)),(3,.c (.ptr 1 3 1 0 0))],[(4,.c (.ptr 0 4 0 0 0))]] [(0,4,.box 0 [.sl (.int .u8) (.app 2)]),(1,3,.box 1 (aZ dK))] 3 [2] 3)]
def f66.dO:Nat->List Field×Int×Int×List Int×gV->Option ((List Int×gV))|0,_=>none|k+1,(e,f,d,a,g,h,i,j,l,m,n)=>(cond (decide (d<f)) ((idx e d).bind λb=>((gQ N (aL (b.1.length:Int))).bind λc=>(aF (room (a.length+c.length) 1) (aF (room ((a++c).length+(bK b.1).length) 1) ((gQ N (aL b.2)).bind λo=>(aF (room (((a++c)++(bK b.1)).length+o.length) 1) (f66.dO k (e,f,(av (d+1)),(((a++c)++(bK b.1))++o),g,h,i,j,l,m,n)))))))) (some (a,g,h,i,j,l,m,n)))
theorem f66.qu:∀k,f66.dO N k=lp (aab N) 1042001035000 3 (tq 118) 3 f66.mj f66.mo k|0=>rfl|k+1=>funext λ⟨a,b,c,d,e,f,g,h,i,j,l⟩=>by rw[f66.dO,f66.qu k];kernel_rfl
def aac:ah:=(aab N).aa N 1042001035000 3 f66.mj f66.mo
def f66.vj:bq:=tm [(0,.c (.ptr 0 4 0 0 0)),(3,.c (.ptr 1 3 1 0 0)),(42,.c (.sl bf .d)),(43,.c (.int .i64)),(44,.c (.int .i64))] [[(4,.c (.ptr 0 4 0 0 0))]] [(0,4,.box 0 [.sl (.int .u8) (.app 2)]),(1,3,.box 1 (aZ dK))] 2 [2] 3
def f66.vk:bn:=[(.ret,tm [(4,.c (.int .i64))] [[(4,.c (.ptr 0 4 0 0 0))]] [(0,4,.box 0 [.sl (.int .u8) (.app 1)])] 2 [1] 2),(.exit 0,tm [(0,.c (.ptr 0 4 0 0 0)),(3,.c (.ptr 1 3 1 0 0))] [[(4,.c (.ptr 0 4 0 0 0))]] [(0,4,.box 0 [.sl (.int .u8) (.app 2)]),(1,3,.box 1 (aZ dK))] 2 [2] 3)]
def f66.jx:Nat->List Instr×Int×Int×List Int×gV->Option ((Int×List Int)⊕(List Int×gV))|0,_=>none|k+1,(e,f,d,a,g,h,i,j,l,m,n)=>(cond (decide (d<f)) ((idx e d).bind λb=>((Te N (b.1,b.2.1,b.2.2.1,b.2.2.2)).bind λc=>(cond (c.2!=0) (some (Sum.inl (c.2,a))) (aF (room (a.length+c.1.length) 1) (f66.jx k (e,f,(av (d+1)),(a++c.1),g,h,i,j,l,m,n)))))) (some (Sum.inr (a,g,h,i,j,l,m,n))))
theorem f66.CF:∀k,f66.jx N k=lp (aac N) 1042000 8 (tq 91) 8 f66.vj f66.vk k|0=>rfl|k+1=>funext λ⟨a,b,c,d,e,f,g,h,i,j,l⟩=>by rw[f66.jx,f66.CF k];kernel_rfl
def aad:ah:=(aac N).aa N 1042000 8 f66.vj f66.vk
def f66.tg:bq:=tm [(0,.c (.ptr 0 4 0 0 0)),(3,.c (.ptr 1 3 1 0 0)),(70,.c (.sl (.sl ia) .full)),(71,.c (.int .i64)),(72,.c (.int .i64))] [[(4,.c (.ptr 0 4 0 0 0))]] [(0,4,.box 0 [.sl (.int .u8) (.app 2)]),(1,3,.box 1 (aZ dK))] 2 [2] 3
def f66.th:bn:=[(.ret,tm [(4,.c (.int .i64))] [[(4,.c (.ptr 0 4 0 0 0))]] [(0,4,.box 0 [.sl (.int .u8) (.app 1)])] 2 [1] 2),(.exit 2,tm [] [[(4,.c (.ptr 0 4 0 0 0))]] [(0,4,.box 0 [.sl (.int .u8) (.app 1)])] 2 [1] 2)]
def f66.fB:Nat->List (List eN)×Int×Int×List Int×gV->Option ((Int×List Int)⊕(List Int))|0,_=>none|k+1,(d,e,c,a,g,h,i,j,f,l,m)=>(cond (decide (c<e)) ((idx d c).bind λn=>((Tg N (n,(f.length:Int))).bind λb=>(cond (b.2!=0) (some (Sum.inl (b.2,a))) (aF (room (a.length+b.1.length) 1) (f66.fB k (d,e,(av (c+1)),(a++b.1),g,h,i,j,f,l,m)))))) (some (Sum.inr a)))
theorem f66.zR:∀k,f66.fB N k=lp (aad N) 1042000 21 (tq 91) 21 f66.tg f66.th k|0=>rfl|k+1=>funext λ⟨a,b,c,d,e,f,g,h,i,j,l⟩=>by rw[f66.fB,f66.zR k];kernel_rfl
def aae:ah:=(aad N).aa N 1042000 21 f66.tg f66.th
def f66.tj:bq:=tm [(4,.c (.ptr 0 4 0 0 0)),(35,.c (.sl dK .bC)),(36,.c (.int .i64)),(37,.c (.int .i64))] [] [(0,4,.box 0 [.sl (.int .u8) (.app 1)])] 1 [1] 2
def f66.tn:bn:=[(.ret,tm [(2,.c (.nil true)),(3,.c (.int .i64))] [] [] 1 [] 0),(.exit 2,tm [(4,.c (.ptr 0 4 0 0 0))] [] [(0,4,.box 0 [.sl (.int .u8) (.app 1)])] 1 [1] 2)]
def f66.fe:Nat->List Func×Int×Int×List Int->Option (Int⊕(List Int))|0,_=>none|k+1,(g,h,f,d)=>(cond (decide (f<h)) ((idx g f).bind λa=>((gQ N (aL (a.1.length:Int))).bind λe=>(aF (room (d.length+e.length) 1) (aF (room ((d++e).length+(bK a.1).length) 1) ((gQ N (aL a.2.1)).bind λi=>(aF (room (((d++e)++(bK a.1)).length+i.length) 1) ((ru N a.2.2.1).bind λj=>(aF (room ((((d++e)++(bK a.1))++i).length+j.length) 1) ((gQ N (aL (a.2.2.2.1.length:Int))).bind λn=>(aF (room (((((d++e)++(bK a.1))++i)++j).length+n.length) 1) ((f66.dO N N (a.2.2.2.1,(a.2.2.2.1.length:Int),0,(((((d++e)++(bK a.1))++i)++j)++n),a.1,a.2.1,a.2.2.1,a.2.2.2.1,a.2.2.2.2.1,a.2.2.2.2.2.1,a.2.2.2.2.2.2)).bind λb=>((gQ N (aL (b.2.2.2.2.2.1.length:Int))).bind λo=>(aF (room (b.1.length+o.length) 1) ((f66.jx N N (b.2.2.2.2.2.1,(b.2.2.2.2.2.1.length:Int),0,(b.1++o),b.2.1,b.2.2.1,b.2.2.2.1,b.2.2.2.2.1,b.2.2.2.2.2.1,b.2.2.2.2.2.2.1,b.2.2.2.2.2.2.2)).bind λp=>(match p with|.inl l=>(cond (l.1!=0) (some (Sum.inl l.1)) (f66.fe k (g,h,(av (f+1)),l.2)))|.inr c=>((f66.fB N N ([c.2.2.2.2.2.2.1,c.2.2.2.2.2.2.2],2,0,c.1,c.2.1,c.2.2.1,c.2.2.2.1,c.2.2.2.2.1,c.2.2.2.2.2.1,c.2.2.2.2.2.2.1,c.2.2.2.2.2.2.2)).bind λq=>(match q with|.inl m=>(cond (m.1!=0) (some (Sum.inl m.1)) (f66.fe k (g,h,(av (f+1)),m.2)))|.inr r=>f66.fe k (g,h,(av (f+1)),r)))))))))))))))))) (some (Sum.inr d)))
theorem f66.zS:∀k,f66.fe N k=lp (aae N) 0 19 (tq 66) 19 f66.tj f66.tn k|0=>rfl|k+1=>funext λ⟨a,b,c,d⟩=>by rw[f66.fe,f66.zS k,f66.qu N N,f66.CF N N,f66.zR N N];kernel_rfl
def aqW:ah:=(aae N).aa N 0 19 f66.tj f66.tn
def F66:dc->Option (List Int×Int)|(b,d,e)=>((F87 N (b,d,e)).bind λj=>(cond (!j) (some ([],8)) ((gQ N (aL (b.length:Int))).bind λf=>(aF (room f.length 1) ((f66.fM N N (b,(b.length:Int),0,f,b,d,e)).bind λa=>((gQ N (aL (a.2.1.length:Int))).bind λg=>(aF (room (a.2.2.2.length+g.length) 1) ((f66.nV N N (a.2.1,(a.2.1.length:Int),0,a.1,a.2.1,a.2.2.1,(a.2.2.2++g))).bind λc=>((gQ N (aL (c.2.2.1.length:Int))).bind λh=>(aF (room (c.2.2.2.length+h.length) 1) ((f66.fe N N (c.2.2.1,(c.2.2.1.length:Int),0,(c.2.2.2++h))).bind λl=>(match l with|.inl m=>some ([],m)|.inr i=>(cond (decide ((i.length:Int)>20000)) (some ([],4)) (some (i,0)))))))))))))))
def G66:ah:=(acM N).put 66 s66 (F66 N)
theorem K66:az bJ (G66 N):=(aht N).put (((((((((aht N).on s66).aa N 1015001051000 3 f66.mg f66.mh).aa N 1015000 3 f66.vh f66.vi).aa N 0 9 f66.CC f66.CD).aa N 1042001035000 3 f66.mj f66.mo).aa N 1042000 8 f66.vj f66.vk).aa N 1042000 21 f66.tg f66.th).aa N 0 19 f66.tj f66.tn) _ _ _ (funext λ⟨a,b,c⟩=>by rw[F66,f66.CE N N,f66.JD N N,f66.zS N N];kernel_rfl)
def s36:bN:=sg [.agg (cF aY)] [(false,[.int .i64])]
def F36:dc->Option Int|(a,b,c)=>((F66 N (a,b,c)).bind λd=>some d.2)
def G36:ah:=(G66 N).put 36 s36 (F36 N)
theorem K36:az bJ (G36 N):=(K66 N).put ((K66 N).on s36) _ _ _ (funext λ⟨a,b,c⟩=>by rw[F36];kernel_rfl)
def acO:bN:=⟨[.c (.sl bf .bC)],[(false,[.int .i64])],0,[(0,15,51,.bool)],[],[],[]⟩
def Th:ah:=(G36 N).on acO
def f135.ig:bq:=tm [(3,.c (.int .i64)),(23,.c (.sl bf .bC)),(24,.c (.int .i64)),(25,.c (.int .i64))] [] [] 1 [] 0
def f135.ij:bn:=[(.ret,tm [(2,.c (.int .i64))] [] [] 1 [] 0),(.exit 0,tm [] [] [] 1 [] 0)]
def f135.cI:Nat->Int×List Instr×Int×Int->Option (Int⊕Unit)|0,_=>none|k+1,(b,d,e,c)=>(cond (decide (c<e)) ((idx d c).bind λa=>((JC N (a.1,a.2.1,a.2.2.1,a.2.2.2)).bind λf=>(cond (f !=0) (some (Sum.inl 8)) ((cond (a.1==22) (cond (decide (a.2.1>=b)) (some true) (cond (a.1==23) (some (decide (a.2.2.1>=b))) (some false))) (cond (a.1==23) (some (decide (a.2.2.1>=b))) (some false))).bind λg=>(cond g (some (Sum.inl 8)) (f135.cI k (b,d,e,(av (c+1))))))))) (some (Sum.inr ())))
theorem f135.kW:∀k,f135.cI N k=lp (Th N) 0 7 (tq 135) 7 f135.ig f135.ij k|0=>rfl|k+1=>funext λ⟨a,b,c,d⟩=>by rw[f135.cI,f135.kW k];kernel_rfl
def ant:ah:=(Th N).aa N 0 7 f135.ig f135.ij
def LX:List Instr->Option Int|a=>(cond ((a.length:Int)==0) (some 8) (cond (decide ((a.length:Int)>200)) (some 8) ((idx a (av ((a.length:Int)-1))).bind λb=>(cond (!(b.1==34&&(b.2.1==(-1)&&(b.2.2.1==0&&(b.2.2.2==0&&true))))) (some 8) ((f135.cI N N ((a.length:Int),a,(a.length:Int),0)).bind λc=>(match c with|.inl d=>some d|.inr e=>some 0))))))
def ahv:ah:=(G36 N).put 135 acO (LX N)
theorem ahw:az bJ (ahv N):=(K36 N).put (((K36 N).on acO).aa N 0 7 f135.ig f135.ij) _ _ _ (funext λa=>by rw[LX,f135.kW N N];kernel_rfl)
def ahx:bN:=⟨[.c (.sl bf .bC),.c (.int .i64)],[(false,[.sl (.int .i64) .d])],0,[(0,7,13,.bool),(0,5,13,.bool)],[],[(0,21,(.int .i64)),(0,28,(.int .i64)),(0,35,(.int .i64))],[]⟩
def LY(N:Nat):List Instr×Int->Option (List Int)|(c,b)=>((idx c b).bind λa=>((cond (a.1==34) (some true) ((cond (a.1==28) (some true) (some (a.1==30))).bind λd=>some d)).bind λe=>(cond e (some []) (cond (a.1==22) (some [a.2.1]) (cond (a.1==23) (aF (decide ([(av (b+1)),a.2.2.1].length<4611686018427387904)) (aF (decide ((jQ [(av (b+1)),a.2.2.1]).length<4611686018427387904)) (some (jR (jQ [(av (b+1)),a.2.2.1]))))) (some [(av (b+1))]))))))
def acP:ah:=(ahv N).put 187 ahx (LY N)
theorem ahy:az bJ (acP N):=(ahw N).put ((ahw N).on ahx) _ _ _ (funext λ⟨a,b⟩=>by rw[LY];kernel_rfl)
def acQ:bN:=⟨[.c (.sl bf .bC)],[(false,[.sl .bool .d]),(false,[.int .i64])],0,[],[],[(0,13,.bool),(1016000,10,(.int .i64)),(1016000,39,(.int .i64))],[]⟩
def Ti:ah:=(acP N).on acQ
def f106.tu:bq:=tm [(0,.c (.sl bf .bC)),(1,.fk 137 [.ptr 0 5 0 0 0]),(4,.c (.ref 1 10 1 (.int .i64))),(5,.c (.int .i64)),(27,.c (.sl (.int .i64) .d)),(28,.c (.int .i64)),(29,.c (.int .i64))] [[(5,.c (.ptr 0 5 0 0 0))]] [(0,5,.box 0 [.ref 0 13 2 .bool]),(0,13,.row 2 .bool),(1,10,.row 1 (.int .i64))] 2 [] 3
def f106.tv:bn:=[(.exit 2,tm [(0,.c (.sl bf .bC)),(1,.fk 137 [.ptr 0 5 0 0 0]),(4,.c (.ref 1 10 1 (.int .i64)))] [[(5,.c (.ptr 0 5 0 0 0))]] [(0,5,.box 0 [.ref 0 13 2 .bool]),(0,13,.row 2 .bool),(1,10,.row 1 (.int .i64))] 2 [] 3)]
def f106.gv(N:Nat):Nat->List Instr×Int×List Int×Int×Int×List Bool×List Int->Option ((List Instr×List Bool×List Int))|0,_=>none|k+1,(e,h,f,g,c,a,d)=>(cond (decide (c<g)) ((idx f c).bind λb=>(aF (ga b a.length) ((a[b.toNat]?).bind λi=>(aF (ga b a.length) ((a[b.toNat]?).bind λj=>(cond (!i) (aF (room (d.length+1) 8) (f106.gv N k (e,h,f,g,(av (c+1)),(a.set b.toNat true),(d++[b])))) (f106.gv N k (e,h,f,g,(av (c+1)),(a.set b.toNat true),d)))))))) (some (e,a,d)))
theorem f106.zT:∀k,f106.gv N k=lp (Ti N) 1016000 11 (tq 136) 11 f106.tu f106.tv k|0=>rfl|k+1=>funext λ⟨a,b,c,d,e,f,g⟩=>by rw[f106.gv,f106.zT k];kernel_rfl
def Tj:ah:=(Ti N).aa N 1016000 11 f106.tu f106.tv
def f106.vl:bq:=tm [(0,.c (.sl bf .bC)),(1,.fk 137 [.ptr 0 5 0 0 0]),(4,.c (.ref 1 10 1 (.int .i64)))] [[(5,.c (.ptr 0 5 0 0 0))]] [(0,5,.box 0 [.ref 0 13 2 .bool]),(0,13,.row 2 .bool),(1,10,.row 1 (.int .i64))] 2 [] 3
def f106.vm:bn:=[(.exit 0,tm [] [[(5,.c (.ptr 0 5 0 0 0))]] [(0,5,.box 0 [.ref 0 13 1 .bool]),(0,13,.row 1 .bool)] 2 [] 2)]
def f106.jy:Nat->List Instr×List Bool×List Int->Option ((List Bool))|0,_=>none|k+1,(c,d,a)=>(cond (decide ((a.length:Int)>0)) (aF (ga (av ((a.length:Int)-1)) a.length) ((a[(Int.toNat (av ((a.length:Int)-1)))]?).bind λe=>(aF (decide (0<=(av ((a.length:Int)-1)))) (aF (decide ((Int.toNat (av ((a.length:Int)-1)))<=a.length)) ((LY N (c,e)).bind λf=>((f106.gv N N (c,e,f,(f.length:Int),0,d,(a.take (Int.toNat (av ((a.length:Int)-1)))))).bind λb=>f106.jy k (b.1,b.2.1,b.2.2))))))) (some d))
theorem f106.CG:∀k,f106.jy N k=lp (Tj N) 1016000 3 (tq 136) 3 f106.vl f106.vm k|0=>rfl|k+1=>funext λ⟨a,b,c⟩=>by rw[f106.jy,f106.CG k,f106.zT N N];kernel_rfl
def anu:ah:=(Tj N).aa N 1016000 3 f106.vl f106.vm
def Tk:List Instr->Option (List Bool×Int)|a=>((LX N a).bind λc=>(cond (c !=0) (some ([],c)) (aF (decide (0<=(a.length:Int))) (aF (decide (0<=(a.length:Int))) (aF (decide ((Int.toNat (a.length:Int))<=(Int.toNat (a.length:Int)))&&room (Int.toNat (a.length:Int)) 1) (aF (ga 0 (List.replicate (Int.toNat (a.length:Int)) false).length) (((List.replicate (Int.toNat (a.length:Int)) false)[(Int.toNat 0)]?).bind λd=>(aF (ga 0 (List.replicate (Int.toNat (a.length:Int)) false).length) (((List.replicate (Int.toNat (a.length:Int)) false)[(Int.toNat 0)]?).bind λe=>((f106.jy N N (a,((List.replicate (Int.toNat (a.length:Int)) false).set (Int.toNat 0) true),[0])).bind λb=>(aF (ga (av ((b.length:Int)-1)) b.length) ((b[(Int.toNat (av ((b.length:Int)-1)))]?).bind λf=>some ((b.set (Int.toNat (av ((b.length:Int)-1))) true),0)))))))))))))
def ahz:ah:=(acP N).put 106 acQ (Tk N)
theorem ahA:az bJ (ahz N):=(ahy N).put ((((ahy N).on acQ).aa N 1016000 11 f106.tu f106.tv).aa N 1016000 3 f106.vl f106.vm) _ _ _ (funext λa=>by rw[Tk,f106.CG N N];kernel_rfl)
def ahB:bN:=⟨[.agg (aZ bf)],[(false,[.sl (.int .i64) .d]),(false,[.sl (.int .i64) .d]),(false,[.int .i64])],1,[(0,13,34,.bool),(0,16,46,.bool),(0,100013,34,.bool),(0,100016,46,.bool)],[(0,8),(0,100008)],[(0,2,(.int .i64)),(0,37,(.int .i64)),(0,49,(.int .i64))],[]⟩
def LZ:ic->Option (List Int×List Int×Int)|(c,d,e,f)=>((JC N (c,d,e,f)).bind λg=>(cond (g !=0) (some (([]:List Int),[],g)) ((He N c).bind λb=>((JB N (c,d,e,f)).bind λa=>((cond b.2.2.1 (some (decide (a.1>=0))) (some false)).bind λh=>(cond h (aF (room (0+1) 8) ((cond b.2.2.2.1 (some (decide (a.1>=0))) (some false)).bind λi=>(cond i (aF (room 1 8) ((cond b.2.2.2.2.2.2.1 (some (decide (a.2.1>=0))) (some false)).bind λj=>(cond j (aF (room (1+1) 8) ((cond b.2.2.2.2.2.2.2.1 (some (decide (a.2.1>=0))) (some false)).bind λl=>(cond l (aF (room (1+1) 8) ((cond b.2.2.2.2.2.2.2.2.2.2.1 (some (decide (a.2.2>=0))) (some false)).bind λm=>(cond m (aF (room (2+1) 8) ((cond b.2.2.2.2.2.2.2.2.2.2.2.1 (some (decide (a.2.2>=0))) (some false)).bind λn=>(cond n (aF (room (2+1) 8) (some ((((([]:List Int)++[a.1])++[a.2.1])++[a.2.2]),(([a.1]++[a.2.1])++[a.2.2]),0))) (some ((((([]:List Int)++[a.1])++[a.2.1])++[a.2.2]),([a.1]++[a.2.1]),0))))) ((cond b.2.2.2.2.2.2.2.2.2.2.2.1 (some (decide (a.2.2>=0))) (some false)).bind λo=>(cond o (aF (room (2+1) 8) (some (((([]:List Int)++[a.1])++[a.2.1]),(([a.1]++[a.2.1])++[a.2.2]),0))) (some (((([]:List Int)++[a.1])++[a.2.1]),([a.1]++[a.2.1]),0))))))) ((cond b.2.2.2.2.2.2.2.2.2.2.1 (some (decide (a.2.2>=0))) (some false)).bind λp=>(cond p (aF (room (2+1) 8) ((cond b.2.2.2.2.2.2.2.2.2.2.2.1 (some (decide (a.2.2>=0))) (some false)).bind λq=>(cond q (aF (room (1+1) 8) (some ((((([]:List Int)++[a.1])++[a.2.1])++[a.2.2]),([a.1]++[a.2.2]),0))) (some ((((([]:List Int)++[a.1])++[a.2.1])++[a.2.2]),[a.1],0))))) ((cond b.2.2.2.2.2.2.2.2.2.2.2.1 (some (decide (a.2.2>=0))) (some false)).bind λr=>(cond r (aF (room (1+1) 8) (some (((([]:List Int)++[a.1])++[a.2.1]),([a.1]++[a.2.2]),0))) (some (((([]:List Int)++[a.1])++[a.2.1]),[a.1],0))))))))) ((cond b.2.2.2.2.2.2.2.1 (some (decide (a.2.1>=0))) (some false)).bind λs=>(cond s (aF (room (1+1) 8) ((cond b.2.2.2.2.2.2.2.2.2.2.1 (some (decide (a.2.2>=0))) (some false)).bind λt=>(cond t (aF (room (1+1) 8) ((cond b.2.2.2.2.2.2.2.2.2.2.2.1 (some (decide (a.2.2>=0))) (some false)).bind λu=>(cond u (aF (room (2+1) 8) (some (((([]:List Int)++[a.1])++[a.2.2]),(([a.1]++[a.2.1])++[a.2.2]),0))) (some (((([]:List Int)++[a.1])++[a.2.2]),([a.1]++[a.2.1]),0))))) ((cond b.2.2.2.2.2.2.2.2.2.2.2.1 (some (decide (a.2.2>=0))) (some false)).bind λv=>(cond v (aF (room (2+1) 8) (some ((([]:List Int)++[a.1]),(([a.1]++[a.2.1])++[a.2.2]),0))) (some ((([]:List Int)++[a.1]),([a.1]++[a.2.1]),0))))))) ((cond b.2.2.2.2.2.2.2.2.2.2.1 (some (decide (a.2.2>=0))) (some false)).bind λw=>(cond w (aF (room (1+1) 8) ((cond b.2.2.2.2.2.2.2.2.2.2.2.1 (some (decide (a.2.2>=0))) (some false)).bind λx=>(cond x (aF (room (1+1) 8) (some (((([]:List Int)++[a.1])++[a.2.2]),([a.1]++[a.2.2]),0))) (some (((([]:List Int)++[a.1])++[a.2.2]),[a.1],0))))) ((cond b.2.2.2.2.2.2.2.2.2.2.2.1 (some (decide (a.2.2>=0))) (some false)).bind λy=>(cond y (aF (room (1+1) 8) (some ((([]:List Int)++[a.1]),([a.1]++[a.2.2]),0))) (some ((([]:List Int)++[a.1]),[a.1],0))))))))))) ((cond b.2.2.2.2.2.2.1 (some (decide (a.2.1>=0))) (some false)).bind λz=>(cond z (aF (room (1+1) 8) ((cond b.2.2.2.2.2.2.2.1 (some (decide (a.2.1>=0))) (some false)).bind λA=>(cond A (aF (room 1 8) ((cond b.2.2.2.2.2.2.2.2.2.2.1 (some (decide (a.2.2>=0))) (some false)).bind λB=>(cond B (aF (room (2+1) 8) ((cond b.2.2.2.2.2.2.2.2.2.2.2.1 (some (decide (a.2.2>=0))) (some false)).bind λC=>(cond C (aF (room (1+1) 8) (some ((((([]:List Int)++[a.1])++[a.2.1])++[a.2.2]),([a.2.1]++[a.2.2]),0))) (some ((((([]:List Int)++[a.1])++[a.2.1])++[a.2.2]),[a.2.1],0))))) ((cond b.2.2.2.2.2.2.2.2.2.2.2.1 (some (decide (a.2.2>=0))) (some false)).bind λD=>(cond D (aF (room (1+1) 8) (some (((([]:List Int)++[a.1])++[a.2.1]),([a.2.1]++[a.2.2]),0))) (some (((([]:List Int)++[a.1])++[a.2.1]),[a.2.1],0))))))) ((cond b.2.2.2.2.2.2.2.2.2.2.1 (some (decide (a.2.2>=0))) (some false)).bind λE=>(cond E (aF (room (2+1) 8) ((cond b.2.2.2.2.2.2.2.2.2.2.2.1 (some (decide (a.2.2>=0))) (some false)).bind λG=>(cond G (aF (room 1 8) (some ((((([]:List Int)++[a.1])++[a.2.1])++[a.2.2]),[a.2.2],0))) (some ((((([]:List Int)++[a.1])++[a.2.1])++[a.2.2]),[],0))))) ((cond b.2.2.2.2.2.2.2.2.2.2.2.1 (some (decide (a.2.2>=0))) (some false)).bind λH=>(cond H (aF (room 1 8) (some (((([]:List Int)++[a.1])++[a.2.1]),[a.2.2],0))) (some (((([]:List Int)++[a.1])++[a.2.1]),[],0))))))))) ((cond b.2.2.2.2.2.2.2.1 (some (decide (a.2.1>=0))) (some false)).bind λI=>(cond I (aF (room 1 8) ((cond b.2.2.2.2.2.2.2.2.2.2.1 (some (decide (a.2.2>=0))) (some false)).bind λJ=>(cond J (aF (room (1+1) 8) ((cond b.2.2.2.2.2.2.2.2.2.2.2.1 (some (decide (a.2.2>=0))) (some false)).bind λK=>(cond K (aF (room (1+1) 8) (some (((([]:List Int)++[a.1])++[a.2.2]),([a.2.1]++[a.2.2]),0))) (some (((([]:List Int)++[a.1])++[a.2.2]),[a.2.1],0))))) ((cond b.2.2.2.2.2.2.2.2.2.2.2.1 (some (decide (a.2.2>=0))) (some false)).bind λL=>(cond L (aF (room (1+1) 8) (some ((([]:List Int)++[a.1]),([a.2.1]++[a.2.2]),0))) (some ((([]:List Int)++[a.1]),[a.2.1],0))))))) ((cond b.2.2.2.2.2.2.2.2.2.2.1 (some (decide (a.2.2>=0))) (some false)).bind λM=>(cond M (aF (room (1+1) 8) ((cond b.2.2.2.2.2.2.2.2.2.2.2.1 (some (decide (a.2.2>=0))) (some false)).bind λO=>(cond O (aF (room 1 8) (some (((([]:List Int)++[a.1])++[a.2.2]),[a.2.2],0))) (some (((([]:List Int)++[a.1])++[a.2.2]),[],0))))) ((cond b.2.2.2.2.2.2.2.2.2.2.2.1 (some (decide (a.2.2>=0))) (some false)).bind λP=>(cond P (aF (room 1 8) (some ((([]:List Int)++[a.1]),[a.2.2],0))) (some ((([]:List Int)++[a.1]),[],0))))))))))))) ((cond b.2.2.2.1 (some (decide (a.1>=0))) (some false)).bind λQ=>(cond Q (aF (room 1 8) ((cond b.2.2.2.2.2.2.1 (some (decide (a.2.1>=0))) (some false)).bind λR=>(cond R (aF (room (0+1) 8) ((cond b.2.2.2.2.2.2.2.1 (some (decide (a.2.1>=0))) (some false)).bind λS=>(cond S (aF (room (1+1) 8) ((cond b.2.2.2.2.2.2.2.2.2.2.1 (some (decide (a.2.2>=0))) (some false)).bind λT=>(cond T (aF (room (1+1) 8) ((cond b.2.2.2.2.2.2.2.2.2.2.2.1 (some (decide (a.2.2>=0))) (some false)).bind λU=>(cond U (aF (room (2+1) 8) (some (((([]:List Int)++[a.2.1])++[a.2.2]),(([a.1]++[a.2.1])++[a.2.2]),0))) (some (((([]:List Int)++[a.2.1])++[a.2.2]),([a.1]++[a.2.1]),0))))) ((cond b.2.2.2.2.2.2.2.2.2.2.2.1 (some (decide (a.2.2>=0))) (some false)).bind λV=>(cond V (aF (room (2+1) 8) (some ((([]:List Int)++[a.2.1]),(([a.1]++[a.2.1])++[a.2.2]),0))) (some ((([]:List Int)++[a.2.1]),([a.1]++[a.2.1]),0))))))) ((cond b.2.2.2.2.2.2.2.2.2.2.1 (some (decide (a.2.2>=0))) (some false)).bind λW=>(cond W (aF (room (1+1) 8) ((cond b.2.2.2.2.2.2.2.2.2.2.2.1 (some (decide (a.2.2>=0))) (some false)).bind λX=>(cond X (aF (room (1+1) 8) (some (((([]:List Int)++[a.2.1])++[a.2.2]),([a.1]++[a.2.2]),0))) (some (((([]:List Int)++[a.2.1])++[a.2.2]),[a.1],0))))) ((cond b.2.2.2.2.2.2.2.2.2.2.2.1 (some (decide (a.2.2>=0))) (some false)).bind λY=>(cond Y (aF (room (1+1) 8) (some ((([]:List Int)++[a.2.1]),([a.1]++[a.2.2]),0))) (some ((([]:List Int)++[a.2.1]),[a.1],0))))))))) ((cond b.2.2.2.2.2.2.2.1 (some (decide (a.2.1>=0))) (some false)).bind λZ=>(cond Z (aF (room (1+1) 8) ((cond b.2.2.2.2.2.2.2.2.2.2.1 (some (decide (a.2.2>=0))) (some false)).bind λa0=>(cond a0 (aF (room (0+1) 8) ((cond b.2.2.2.2.2.2.2.2.2.2.2.1 (some (decide (a.2.2>=0))) (some false)).bind λa1=>(cond a1 (aF (room (2+1) 8) (some ((([]:List Int)++[a.2.2]),(([a.1]++[a.2.1])++[a.2.2]),0))) (some ((([]:List Int)++[a.2.2]),([a.1]++[a.2.1]),0))))) ((cond b.2.2.2.2.2.2.2.2.2.2.2.1 (some (decide (a.2.2>=0))) (some false)).bind λa2=>(cond a2 (aF (room (2+1) 8) (some (([]:List Int),(([a.1]++[a.2.1])++[a.2.2]),0))) (some (([]:List Int),([a.1]++[a.2.1]),0))))))) ((cond b.2.2.2.2.2.2.2.2.2.2.1 (some (decide (a.2.2>=0))) (some false)).bind λa3=>(cond a3 (aF (room (0+1) 8) ((cond b.2.2.2.2.2.2.2.2.2.2.2.1 (some (decide (a.2.2>=0))) (some false)).bind λa4=>(cond a4 (aF (room (1+1) 8) (some ((([]:List Int)++[a.2.2]),([a.1]++[a.2.2]),0))) (some ((([]:List Int)++[a.2.2]),[a.1],0))))) ((cond b.2.2.2.2.2.2.2.2.2.2.2.1 (some (decide (a.2.2>=0))) (some false)).bind λa5=>(cond a5 (aF (room (1+1) 8) (some (([]:List Int),([a.1]++[a.2.2]),0))) (some (([]:List Int),[a.1],0))))))))))) ((cond b.2.2.2.2.2.2.1 (some (decide (a.2.1>=0))) (some false)).bind λa6=>(cond a6 (aF (room (0+1) 8) ((cond b.2.2.2.2.2.2.2.1 (some (decide (a.2.1>=0))) (some false)).bind λa7=>(cond a7 (aF (room 1 8) ((cond b.2.2.2.2.2.2.2.2.2.2.1 (some (decide (a.2.2>=0))) (some false)).bind λa8=>(cond a8 (aF (room (1+1) 8) ((cond b.2.2.2.2.2.2.2.2.2.2.2.1 (some (decide (a.2.2>=0))) (some false)).bind λa9=>(cond a9 (aF (room (1+1) 8) (some (((([]:List Int)++[a.2.1])++[a.2.2]),([a.2.1]++[a.2.2]),0))) (some (((([]:List Int)++[a.2.1])++[a.2.2]),[a.2.1],0))))) ((cond b.2.2.2.2.2.2.2.2.2.2.2.1 (some (decide (a.2.2>=0))) (some false)).bind λb0=>(cond b0 (aF (room (1+1) 8) (some ((([]:List Int)++[a.2.1]),([a.2.1]++[a.2.2]),0))) (some ((([]:List Int)++[a.2.1]),[a.2.1],0))))))) ((cond b.2.2.2.2.2.2.2.2.2.2.1 (some (decide (a.2.2>=0))) (some false)).bind λb1=>(cond b1 (aF (room (1+1) 8) ((cond b.2.2.2.2.2.2.2.2.2.2.2.1 (some (decide (a.2.2>=0))) (some false)).bind λb2=>(cond b2 (aF (room 1 8) (some (((([]:List Int)++[a.2.1])++[a.2.2]),[a.2.2],0))) (some (((([]:List Int)++[a.2.1])++[a.2.2]),[],0))))) ((cond b.2.2.2.2.2.2.2.2.2.2.2.1 (some (decide (a.2.2>=0))) (some false)).bind λb3=>(cond b3 (aF (room 1 8) (some ((([]:List Int)++[a.2.1]),[a.2.2],0))) (some ((([]:List Int)++[a.2.1]),[],0))))))))) ((cond b.2.2.2.2.2.2.2.1 (some (decide (a.2.1>=0))) (some false)).bind λb4=>(cond b4 (aF (room 1 8) ((cond b.2.2.2.2.2.2.2.2.2.2.1 (some (decide (a.2.2>=0))) (some false)).bind λb5=>(cond b5 (aF (room (0+1) 8) ((cond b.2.2.2.2.2.2.2.2.2.2.2.1 (some (decide (a.2.2>=0))) (some false)).bind λb6=>(cond b6 (aF (room (1+1) 8) (some ((([]:List Int)++[a.2.2]),([a.2.1]++[a.2.2]),0))) (some ((([]:List Int)++[a.2.2]),[a.2.1],0))))) ((cond b.2.2.2.2.2.2.2.2.2.2.2.1 (some (decide (a.2.2>=0))) (some false)).bind λb7=>(cond b7 (aF (room (1+1) 8) (some (([]:List Int),([a.2.1]++[a.2.2]),0))) (some (([]:List Int),[a.2.1],0))))))) ((cond b.2.2.2.2.2.2.2.2.2.2.1 (some (decide (a.2.2>=0))) (some false)).bind λb8=>(cond b8 (aF (room (0+1) 8) ((cond b.2.2.2.2.2.2.2.2.2.2.2.1 (some (decide (a.2.2>=0))) (some false)).bind λb9=>(cond b9 (aF (room 1 8) (some ((([]:List Int)++[a.2.2]),[a.2.2],0))) (some ((([]:List Int)++[a.2.2]),[],0))))) ((cond b.2.2.2.2.2.2.2.2.2.2.2.1 (some (decide (a.2.2>=0))) (some false)).bind λc0=>(cond c0 (aF (room 1 8) (some (([]:List Int),[a.2.2],0))) (some (([]:List Int),[],0))))))))))))))))))
def ahC:ah:=(ahz N).put 111 ahB (LZ N)
theorem ahD:az bJ (ahC N):=(ahA N).put ((ahA N).on ahB) _ _ _ (funext λ⟨a,b,c,d⟩=>by rw[LZ];kernel_rfl)
def ahE:bN:=⟨[.c (.sl cS .bC),.c (.int .i64)],[(false,[.bool])],0,[(0,1,4,.bool)],[],[],[]⟩
def L0(N:Nat):List Field×Int->Option Bool|(b,a)=>((cond (decide (a>=0)) (some (decide (a<(b.length:Int)))) (some false)).bind λc=>some c)
def ahF:ah:=(ahC N).put 138 ahE (L0 N)
theorem ahG:az bJ (ahF N):=(ahD N).put ((ahD N).on ahE) _ _ _ (funext λ⟨a,b⟩=>by rw[L0];kernel_rfl)
def ahH:bN:=⟨[.agg (aZ bf)],[(false,[.int .i64])],0,[(0,7,9,.bool)],[],[],[]⟩
def Px(N:Nat):ic->Option Int|(a,b,c,e)=>(cond (a==25) (some c) ((cond (a==26) (some true) (some (a==27))).bind λd=>(cond d (some b) (some (-1)))))
def ahI:ah:=(ahF N).put 139 ahH (Px N)
theorem ahJ:az bJ (ahI N):=(ahG N).put ((ahG N).on ahH) _ _ _ (funext λ⟨a,b,c,d⟩=>by rw[Px];kernel_rfl)
def ahK:bN:=⟨[.c (.sl .str .bC),.c (.int .i64)],[(false,[.bool])],0,[(0,1,4,.bool)],[],[],[]⟩
def Tl(N:Nat):List (List UInt8)×Int->Option Bool|(b,a)=>((cond (decide (a>=0)) (some (decide (a<(b.length:Int)))) (some false)).bind λc=>some c)
def acR:ah:=(ahI N).put 140 ahK (Tl N)
theorem ahL:az bJ (acR N):=(ahJ N).put ((ahJ N).on ahK) _ _ _ (funext λ⟨a,b⟩=>by rw[Tl];kernel_rfl)
def acS:bN:=⟨[.agg (cF bG),.agg (aZ bf)],[(false,[.int .i64])],0,[(0,17,56,.bool)],[],[],[]⟩
def Tm:ah:=(acR N).on acS
def f107.ig:bq:=tm [(2,.c (.ptr 0 2 0 0 0)),(3,.c (.ptr 0 3 1 0 0)),(22,.c (.ref 0 13 2 (.int .i64))),(23,.c (.int .i64)),(24,.c (.int .i64))] [] [(0,2,.box 0 (cF bG)),(0,3,.box 1 (aZ bf)),(0,13,.row 2 (.int .i64))] 1 [] 3
def f107.ij:bn:=[(.ret,tm [(4,.c (.int .i64))] [] [] 1 [] 0),(.exit 0,tm [(2,.c (.ptr 0 2 0 0 0)),(3,.c (.ptr 0 3 1 0 0))] [] [(0,2,.box 0 (cF bG)),(0,3,.box 1 (aZ bf))] 1 [] 2)]
def f107.cI:Nat->Int×Int×dL (LS (List Int))->Option (Int⊕(dL ic))|0,_=>none|k+1,(d,a,e,f,g,h,i,j,b,l,m,n,o,p,q,r,c)=>(cond (decide (a<d)) (aF (ga a c.length) ((c[a.toNat]?).bind λs=>((L0 N (b,s)).bind λt=>(cond (!t) (some (Sum.inl 16)) (f107.cI k (d,(av (a+1)),e,f,g,h,i,j,b,l,m,n,o,p,q,r,c)))))) (some (Sum.inr (e,f,g,h,i,j,b,l,m,n,o,p,q,r))))
theorem f107.kW:∀k,f107.cI N k=lp (Tm N) 0 7 (tq 107) 7 f107.ig f107.ij k|0=>rfl|k+1=>funext λ⟨a,b,c,d,e,f,g,h,i,j,l,m,n,o,p,q,r⟩=>by rw[f107.cI,f107.kW k];kernel_rfl
def anv:ah:=(Tm N).aa N 0 7 f107.ig f107.ij
def Tn:dL ic->Option Int|(g,h,i,j,l,m,n,o,p,q,c,d,e,f)=>((LZ N (c,d,e,f)).bind λa=>(cond (a.2.2!=0) (some a.2.2) (aF (room (a.1.length+a.2.1.length) 8) ((f107.cI N N (((a.1++a.2.1).length:Int),0,g,h,i,j,l,m,n,o,p,q,c,d,e,f,(a.1++a.2.1))).bind λr=>(match r with|.inl s=>some s|.inr b=>((Px N (b.2.2.2.2.2.2.2.2.2.2.1,b.2.2.2.2.2.2.2.2.2.2.2.1,b.2.2.2.2.2.2.2.2.2.2.2.2.1,b.2.2.2.2.2.2.2.2.2.2.2.2.2)).bind λt=>((cond (decide (t>=(b.2.2.1.length:Int))) (some true) (cond (b.2.2.2.2.2.2.2.2.2.2.1==2) ((Tl N (b.2.1,b.2.2.2.2.2.2.2.2.2.2.2.2.1)).bind λu=>some (!u)) (some false))).bind λv=>(cond v (some 16) (some 0)))))))))
def ahM:ah:=(acR N).put 107 acS (Tn N)
theorem ahN:az bJ (ahM N):=(ahL N).put (((ahL N).on acS).aa N 0 7 f107.ig f107.ij) _ _ _ (funext λ⟨a,b,c,d,e,f,g,h,i,j,l,m,n,o⟩=>by rw[Tn,f107.kW N N];kernel_rfl)
def ahO:bN:=sg [.agg (cF bG),.c (.int .i64)] [(false,[.int .i64])]
def JE:dL Int->Option Int|(e,f,g,h,i,j,a,l,m,n,b)=>((L0 N (a,b)).bind λc=>(cond (!c) (some (-1)) ((idx a b).bind λd=>some d.2)))
def acT:ah:=(ahM N).put 141 ahO (JE N)
theorem ahP:az bJ (acT N):=(ahN N).put ((ahN N).on ahO) _ _ _ (funext λ⟨a,b,c,d,e,f,g,h,i,j,l⟩=>by rw[JE];kernel_rfl)
def acU:bN:=sg [.c (.sl (.int .u8) .bC),.c (.int .u8)] [(false,[.int .i64])]
def To:ah:=(acT N).on acU
def f219.rj:bq:=tm [(0,.c (.sl (.int .u8) .bC)),(1,.c (.int .u8)),(7,.c (.int .i64)),(8,.c (.int .i64))] [] [] 1 [] 0
def f219.rq:bn:=[(.ret,tm [(4,.c (.int .i64))] [] [] 1 [] 0),(.exit 0,tm [] [] [] 1 [] 0)]
def f219.gM(N:Nat):Nat->List Int×Int×Int×Int->Option (Int⊕Unit)|0,_=>none|k+1,(b,c,d,a)=>(cond (decide (a<d)) ((idx b a).bind λe=>(cond (c==e) (some (Sum.inl a)) (f219.gM N k (b,c,d,(av (a+1)))))) (some (Sum.inr ())))
theorem f219.wV:∀k,f219.gM N k=lp (To N) 0 3 (tq 219) 3 f219.rj f219.rq k|0=>rfl|k+1=>funext λ⟨a,b,c,d⟩=>by rw[f219.gM,f219.wV k];kernel_rfl
def anw:ah:=(To N).aa N 0 3 f219.rj f219.rq
def Yx:List Int×Int->Option Int|(a,b)=>((f219.gM N N (a,b,(a.length:Int),0)).bind λc=>(match c with|.inl d=>some d|.inr e=>some (-1)))
def ahQ:ah:=(acT N).put 219 acU (Yx N)
theorem ahR:az bJ (ahQ N):=(ahP N).put (((ahP N).on acU).aa N 0 3 f219.rj f219.rq) _ _ _ (funext λ⟨a,b⟩=>by rw[Yx,f219.wV N N];kernel_rfl)
def ahS:bN:=sg [.c (.sl (.int .u8) .bC),.c (.int .u8)] [(false,[.bool])]
def Tp:List Int×Int->Option Bool|(a,b)=>((Yx N (a,b)).bind λc=>some (decide (c>=0)))
def ahT:ah:=(ahQ N).put 188 ahS (Tp N)
theorem ahU:az bJ (ahT N):=(ahR N).put ((ahR N).on ahS) _ _ _ (funext λ⟨a,b⟩=>by rw[Tp];kernel_rfl)
def ahV:bN:=⟨[.agg (cF bG),.c (.int .i64),.c (.sl (.int .u8) .bC)],[(false,[.bool])],0,[(0,1,6,.bool)],[],[],[]⟩
def lI:dL (Int×List Int)->Option Bool|(b,g,h,i,j,l,m,n,o,p,a,c)=>((cond (decide (a>=0)) ((idx b a).bind λd=>((Tp N (c,d.1)).bind λe=>some e)) (some false)).bind λf=>some f)
def ahW:ah:=(ahT N).put 144 ahV (lI N)
theorem ahX:az bJ (ahW N):=(ahU N).put ((ahU N).on ahV) _ _ _ (funext λ⟨a,b,c,d,e,f,g,h,i,j,l,m⟩=>by rw[lI];kernel_rfl)
def ahY:bN:=sg [.agg (cF bG),.c (.int .i64),.c (.int .i64),.c (.int .i64)] [(false,[.bool])]
def Py:dL (Int×Int×Int)->Option Bool|(a,d,e,f,g,h,i,j,l,m,b,c,n)=>((lI N (a,d,e,f,g,h,i,j,l,m,b,[5])).bind λo=>(cond o ((idx a b).bind λp=>((L0 N (p.2.2.2,c)).bind λq=>(cond q ((idx a b).bind λr=>((idx r.2.2.2 c).bind λs=>some (s.2==n))) (some false)))) (some false)))
def ahZ:ah:=(ahW N).put 146 ahY (Py N)
theorem ah0:az bJ (ahZ N):=(ahX N).put ((ahX N).on ahY) _ _ _ (funext λ⟨a,b,c,d,e,f,g,h,i,j,l,m,n⟩=>by rw[Py];kernel_rfl)
def ah1:bN:=⟨[.agg (cF bG),.c (.int .i64),.c (.int .i64),.c (.sl (.int .u8) .bC)],[(false,[.bool])],0,[(0,1,8,.bool)],[],[],[]⟩
def JF:dL (Int×Int×List Int)->Option Bool|(a,c,d,e,f,g,h,i,j,l,b,m,n)=>(((lI N (a,c,d,e,f,g,h,i,j,l,b,n)).bind λo=>(cond o ((idx a b).bind λp=>some (p.2.1==m)) (some false))).bind λq=>some q)
def ah2:ah:=(ahZ N).put 147 ah1 (JF N)
theorem ah3:az bJ (ah2 N):=(ah0 N).put ((ah0 N).on ah1) _ _ _ (funext λ⟨a,b,c,d,e,f,g,h,i,j,l,m,n⟩=>by rw[JF];kernel_rfl)
def ah4:bN:=sg [.agg (cF bG),.agg (cF dK)] [(false,[.bool])]
def Tq:dL gV->Option Bool|(b,c,d,e,f,g,h,i,j,l,q,a,m,n,r,s,t)=>(cond (decide (m<0)) (cond (a==0) (some true) (cond (a==1) ((idx n 0).bind λo=>((lI N (b,c,d,e,f,g,h,i,j,l,o.2,[1,2,4])).bind λp=>some p)) (some false))) (some false))
def acV:ah:=(ah2 N).put 148 ah4 (Tq N)
theorem ah5:az bJ (acV N):=(ah3 N).put ((ah3 N).on ah4) _ _ _ (funext λ⟨a,b,c,d,e,f,g,h,i,j,l,m,n,o,p,q,r⟩=>by rw[Tq];kernel_rfl)
def acW:bN:=⟨[.agg (cF bG),.agg (aZ bf)],[(false,[.bool])],0,[(0,7,26,.bool),(0,15,39,.bool),(0,27,50,.bool),(0,25,50,.bool),(0,23,50,.bool),(0,69,4,.bool),(0,71,202,.bool),(0,79,220,.bool),(0,85,4,.bool)],[],[(0,31,(.int .i64)),(0,59,(.int .i64)),(0,70,(.int .i64)),(0,144,(.int .i64)),(0,157,(.int .i64)),(0,170,(.int .i64)),(0,177,(.int .i64)),(0,229,(.int .i64))],[]⟩
def Tt:ah:=(acV N).on acW
def f108.ir:bq:=tm [(0,.c (.sl (.int .i64) .full)),(1,.fk 143 [.ptr 0 2 0 0 0]),(7,.c (.int .i64)),(8,.c (.int .i64))] [[],[],[]] [(0,2,.box 0 (cF bG))] 4 [] 1
def f108.iu:bn:=[(.ret,tm [(4,.c (.int .i64))] [[],[],[]] [] 4 [] 0),(.exit 0,tm [] [[],[],[]] [] 4 [] 0)]
def f108.bS:Nat->List Int×Int×Int×dw->Option (Int⊕Unit)|0,_=>none|k+1,(b,c,a,d,e,f,g,h,i,j,l,m,n)=>(cond (decide (a<c)) ((idx b a).bind λo=>((lI N (d,e,f,g,h,i,j,l,m,n,o,[2])).bind λp=>(cond (!p) (some (Sum.inl a)) (f108.bS k (b,c,(av (a+1)),d,e,f,g,h,i,j,l,m,n))))) (some (Sum.inr ())))
theorem f108.kX:∀k,f108.bS N k=lp (Tt N) 1032001006001007000 3 (tq 81) 3 f108.ir f108.iu k|0=>rfl|k+1=>funext λ⟨a,b,c,d,e,f,g,h,i,j,l,m,n⟩=>by rw[f108.bS,f108.kX k];kernel_rfl
def Tu:ah:=(Tt N).aa N 1032001006001007000 3 f108.ir f108.iu
def f108.iw:bq:=tm [(0,.c (.sl (.int .i64) .full)),(1,.fk 143 [.ptr 0 2 0 0 0]),(7,.c (.int .i64)),(8,.c (.int .i64))] [[],[],[]] [(0,2,.box 0 (cF bG))] 4 [] 1
def f108.iy:bn:=[(.ret,tm [(4,.c (.int .i64))] [[],[],[]] [] 4 [] 0),(.exit 0,tm [] [[],[],[]] [] 4 [] 0)]
def f108.bT:Nat->List Int×Int×Int×dw->Option (Int⊕Unit)|0,_=>none|k+1,(b,c,a,d,e,f,g,h,i,j,l,m,n)=>(cond (decide (a<c)) ((idx b a).bind λo=>((lI N (d,e,f,g,h,i,j,l,m,n,o,[2])).bind λp=>(cond (!p) (some (Sum.inl a)) (f108.bT k (b,c,(av (a+1)),d,e,f,g,h,i,j,l,m,n))))) (some (Sum.inr ())))
theorem f108.kY:∀k,f108.bT N k=lp (Tu N) 1060001006001007000 3 (tq 81) 3 f108.iw f108.iy k|0=>rfl|k+1=>funext λ⟨a,b,c,d,e,f,g,h,i,j,l,m,n⟩=>by rw[f108.bT,f108.kY k];kernel_rfl
def Tv:ah:=(Tu N).aa N 1060001006001007000 3 f108.iw f108.iy
def f108.iz:bq:=tm [(0,.c (.sl (.int .i64) .full)),(1,.fk 143 [.ptr 0 2 0 0 0]),(7,.c (.int .i64)),(8,.c (.int .i64))] [[],[],[]] [(0,2,.box 0 (cF bG))] 4 [] 1
def f108.iA:bn:=[(.ret,tm [(4,.c (.int .i64))] [[],[],[]] [] 4 [] 0),(.exit 0,tm [] [[],[],[]] [] 4 [] 0)]
def f108.bU:Nat->List Int×Int×Int×dw->Option (Int⊕Unit)|0,_=>none|k+1,(b,c,a,d,e,f,g,h,i,j,l,m,n)=>(cond (decide (a<c)) ((idx b a).bind λo=>((lI N (d,e,f,g,h,i,j,l,m,n,o,[2])).bind λp=>(cond (!p) (some (Sum.inl a)) (f108.bU k (b,c,(av (a+1)),d,e,f,g,h,i,j,l,m,n))))) (some (Sum.inr ())))
theorem f108.kZ:∀k,f108.bU N k=lp (Tv N) 1071001006001007000 3 (tq 81) 3 f108.iz f108.iA k|0=>rfl|k+1=>funext λ⟨a,b,c,d,e,f,g,h,i,j,l,m,n⟩=>by rw[f108.bU,f108.kZ k];kernel_rfl
def Tw:ah:=(Tv N).aa N 1071001006001007000 3 f108.iz f108.iA
def f108.iB:bq:=tm [(0,.c (.sl (.int .i64) .full)),(1,.fk 143 [.ptr 0 2 0 0 0]),(7,.c (.int .i64)),(8,.c (.int .i64))] [[],[],[]] [(0,2,.box 0 (cF bG))] 4 [] 1
def f108.iC:bn:=[(.ret,tm [(4,.c (.int .i64))] [[],[],[]] [] 4 [] 0),(.exit 0,tm [] [[],[],[]] [] 4 [] 0)]
def f108.bV:Nat->List Int×Int×Int×dw->Option (Int⊕Unit)|0,_=>none|k+1,(b,c,a,d,e,f,g,h,i,j,l,m,n)=>(cond (decide (a<c)) ((idx b a).bind λo=>((lI N (d,e,f,g,h,i,j,l,m,n,o,[2])).bind λp=>(cond (!p) (some (Sum.inl a)) (f108.bV k (b,c,(av (a+1)),d,e,f,g,h,i,j,l,m,n))))) (some (Sum.inr ())))
theorem f108.k9:∀k,f108.bV N k=lp (Tw N) 1145001006001007000 3 (tq 81) 3 f108.iB f108.iC k|0=>rfl|k+1=>funext λ⟨a,b,c,d,e,f,g,h,i,j,l,m,n⟩=>by rw[f108.bV,f108.k9 k];kernel_rfl
def Tx:ah:=(Tw N).aa N 1145001006001007000 3 f108.iB f108.iC
def f108.iD:bq:=tm [(0,.c (.sl (.int .i64) .full)),(1,.fk 143 [.ptr 0 2 0 0 0]),(7,.c (.int .i64)),(8,.c (.int .i64))] [[],[],[]] [(0,2,.box 0 (cF bG))] 4 [] 1
def f108.iE:bn:=[(.ret,tm [(4,.c (.int .i64))] [[],[],[]] [] 4 [] 0),(.exit 0,tm [] [[],[],[]] [] 4 [] 0)]
def f108.bW:Nat->List Int×Int×Int×dw->Option (Int⊕Unit)|0,_=>none|k+1,(b,c,a,d,e,f,g,h,i,j,l,m,n)=>(cond (decide (a<c)) ((idx b a).bind λo=>((lI N (d,e,f,g,h,i,j,l,m,n,o,[2])).bind λp=>(cond (!p) (some (Sum.inl a)) (f108.bW k (b,c,(av (a+1)),d,e,f,g,h,i,j,l,m,n))))) (some (Sum.inr ())))
theorem f108.ld:∀k,f108.bW N k=lp (Tx N) 1158001006001007000 3 (tq 81) 3 f108.iD f108.iE k|0=>rfl|k+1=>funext λ⟨a,b,c,d,e,f,g,h,i,j,l,m,n⟩=>by rw[f108.bW,f108.ld k];kernel_rfl
def Tz:ah:=(Tx N).aa N 1158001006001007000 3 f108.iD f108.iE
def f108.iF:bq:=tm [(0,.c (.sl (.int .i64) .full)),(1,.fk 143 [.ptr 0 2 0 0 0]),(7,.c (.int .i64)),(8,.c (.int .i64))] [[],[],[]] [(0,2,.box 0 (cF bG))] 4 [] 1
def f108.iG:bn:=[(.ret,tm [(4,.c (.int .i64))] [[],[],[]] [] 4 [] 0),(.exit 0,tm [] [[],[],[]] [] 4 [] 0)]
def f108.bX:Nat->List Int×Int×Int×dw->Option (Int⊕Unit)|0,_=>none|k+1,(b,c,a,d,e,f,g,h,i,j,l,m,n)=>(cond (decide (a<c)) ((idx b a).bind λo=>((lI N (d,e,f,g,h,i,j,l,m,n,o,[2])).bind λp=>(cond (!p) (some (Sum.inl a)) (f108.bX k (b,c,(av (a+1)),d,e,f,g,h,i,j,l,m,n))))) (some (Sum.inr ())))
theorem f108.lg:∀k,f108.bX N k=lp (Tz N) 1171001006001007000 3 (tq 81) 3 f108.iF f108.iG k|0=>rfl|k+1=>funext λ⟨a,b,c,d,e,f,g,h,i,j,l,m,n⟩=>by rw[f108.bX,f108.lg k];kernel_rfl
def TA:ah:=(Tz N).aa N 1171001006001007000 3 f108.iF f108.iG
def f108.iH:bq:=tm [(0,.c (.sl (.int .i64) .full)),(1,.fk 143 [.ptr 0 2 0 0 0]),(7,.c (.int .i64)),(8,.c (.int .i64))] [[],[],[(2,.c (.ptr 0 2 0 0 0))]] [(0,2,.box 0 (cF bG))] 4 [] 1
def f108.iI:bn:=[(.ret,tm [(4,.c (.int .i64))] [[],[],[(2,.c (.ptr 0 2 0 0 0))]] [(0,2,.box 0 (cF bG))] 4 [] 1),(.exit 0,tm [] [[],[],[(2,.c (.ptr 0 2 0 0 0))]] [(0,2,.box 0 (cF bG))] 4 [] 1)]
def f108.bY:Nat->List Int×Int×Int×dw->Option ((Int×dw)⊕dw)|0,_=>none|k+1,(m,n,a,b,c,d,e,f,g,h,i,j,l)=>(cond (decide (a<n)) ((idx m a).bind λo=>((lI N (b,c,d,e,f,g,h,i,j,l,o,[2])).bind λp=>(cond (!p) (some (Sum.inl (a,b,c,d,e,f,g,h,i,j,l))) (f108.bY k (m,n,(av (a+1)),b,c,d,e,f,g,h,i,j,l))))) (some (Sum.inr (b,c,d,e,f,g,h,i,j,l))))
theorem f108.lu:∀k,f108.bY N k=lp (TA N) 1178001006001007000 3 (tq 81) 3 f108.iH f108.iI k|0=>rfl|k+1=>funext λ⟨a,b,c,d,e,f,g,h,i,j,l,m,n⟩=>by rw[f108.bY,f108.lu k];kernel_rfl
def TB:ah:=(TA N).aa N 1178001006001007000 3 f108.iH f108.iI
def f108.iJ:bq:=tm [(0,.c (.sl (.int .i64) .full)),(1,.fk 143 [.ptr 0 2 0 0 0]),(7,.c (.int .i64)),(8,.c (.int .i64))] [[],[],[]] [(0,2,.box 0 (cF bG))] 4 [] 1
def f108.iK:bn:=[(.ret,tm [(4,.c (.int .i64))] [[],[],[]] [] 4 [] 0),(.exit 0,tm [] [[],[],[]] [] 4 [] 0)]
def f108.bZ:Nat->List Int×Int×Int×dw->Option (Int⊕Unit)|0,_=>none|k+1,(b,c,a,d,e,f,g,h,i,j,l,m,n)=>(cond (decide (a<c)) ((idx b a).bind λo=>((lI N (d,e,f,g,h,i,j,l,m,n,o,[2])).bind λp=>(cond (!p) (some (Sum.inl a)) (f108.bZ k (b,c,(av (a+1)),d,e,f,g,h,i,j,l,m,n))))) (some (Sum.inr ())))
theorem f108.lz:∀k,f108.bZ N k=lp (TB N) 1230001006001007000 3 (tq 81) 3 f108.iJ f108.iK k|0=>rfl|k+1=>funext λ⟨a,b,c,d,e,f,g,h,i,j,l,m,n⟩=>by rw[f108.bZ,f108.lz k];kernel_rfl
def anx:ah:=(TB N).aa N 1230001006001007000 3 f108.iJ f108.iK
def TC:dL ic->Option Bool|(c,d,a,e,f,b,g,h,i,j,l,s,t,u)=>((JE N (c,d,a,e,f,b,g,h,i,j,s)).bind λm=>((JE N (c,d,a,e,f,b,g,h,i,j,t)).bind λn=>((JE N (c,d,a,e,f,b,g,h,i,j,u)).bind λr=>((cond (l==1) (some true) (some (l==32))).bind λv=>(cond v ((f108.bS N N ([m],1,0,c,d,a,e,f,b,g,h,i,j)).bind λw=>(match w with|.inl x=>some (!(decide (x>=0)))|.inr b6=>some (!(decide ((-1:Int)>=0))))) (cond (l==2) ((lI N (c,d,a,e,f,b,g,h,i,j,m,[3])).bind λy=>some y) ((cond (l==3) (some true) (some (l==23))).bind λz=>(cond z ((lI N (c,d,a,e,f,b,g,h,i,j,m,[1])).bind λA=>some A) (cond (l==5) (some (m==n)) ((cond (l==6) (some true) ((cond (l==7) (some true) ((cond (l==8) (some true) (some (l==9))).bind λB=>some B)).bind λC=>some C)).bind λD=>(cond D ((f108.bT N N ([m,n,r],3,0,c,d,a,e,f,b,g,h,i,j)).bind λE=>(match E with|.inl G=>some (!(decide (G>=0)))|.inr b7=>some (!(decide ((-1:Int)>=0))))) (cond (l==10) ((lI N (c,d,a,e,f,b,g,h,i,j,m,[1])).bind λH=>(cond H ((f108.bU N N ([n,r],2,0,c,d,a,e,f,b,g,h,i,j)).bind λI=>(match I with|.inl J=>some (!(decide (J>=0)))|.inr b8=>some (!(decide ((-1:Int)>=0))))) (some false))) (cond (l==11) ((lI N (c,d,a,e,f,b,g,h,i,j,m,[1])).bind λK=>(cond K (cond (n==r) ((lI N (c,d,a,e,f,b,g,h,i,j,n,[2,1,4])).bind λL=>some L) (some false)) (some false))) (cond (l==12) ((lI N (c,d,a,e,f,b,g,h,i,j,m,[1])).bind λM=>(cond M ((lI N (c,d,a,e,f,b,g,h,i,j,n,[1])).bind λO=>some O) (some false))) (cond (l==13) ((Py N (c,d,a,e,f,b,g,h,i,j,n,u,m)).bind λP=>some P) (cond (l==14) ((Py N (c,d,a,e,f,b,g,h,i,j,m,t,r)).bind λQ=>some Q) (cond (l==15) ((lI N (c,d,a,e,f,b,g,h,i,j,m,[4])).bind λR=>some R) (cond (l==16) ((JF N (c,d,a,e,f,b,g,h,i,j,n,m,[4])).bind λS=>some S) (cond (l==17) ((JF N (c,d,a,e,f,b,g,h,i,j,m,n,[4])).bind λT=>some T) (cond (l==18) ((lI N (c,d,a,e,f,b,g,h,i,j,m,[7])).bind λU=>(cond U ((f108.bV N N ([n],1,0,c,d,a,e,f,b,g,h,i,j)).bind λV=>(match V with|.inl W=>some (!(decide (W>=0)))|.inr b9=>some (!(decide ((-1:Int)>=0))))) (some false))) (cond (l==19) ((JF N (c,d,a,e,f,b,g,h,i,j,n,m,[7,6])).bind λX=>(cond X ((f108.bW N N ([r],1,0,c,d,a,e,f,b,g,h,i,j)).bind λY=>(match Y with|.inl Z=>some (!(decide (Z>=0)))|.inr c0=>some (!(decide ((-1:Int)>=0))))) (some false))) (cond (l==20) ((JF N (c,d,a,e,f,b,g,h,i,j,m,r,[7,6])).bind λa0=>(cond a0 ((f108.bX N N ([n],1,0,c,d,a,e,f,b,g,h,i,j)).bind λa1=>(match a1 with|.inl a2=>some (!(decide (a2>=0)))|.inr c1=>some (!(decide ((-1:Int)>=0))))) (some false))) (cond (l==21) ((f108.bY N N ([m],1,0,c,d,a,e,f,b,g,h,i,j)).bind λa3=>(match a3 with|.inl o=>(cond (!(decide (o.1>=0))) ((lI N (o.2.1,o.2.2.1,o.2.2.2.1,o.2.2.2.2.1,o.2.2.2.2.2.1,o.2.2.2.2.2.2.1,o.2.2.2.2.2.2.2.1,o.2.2.2.2.2.2.2.2.1,o.2.2.2.2.2.2.2.2.2.1,o.2.2.2.2.2.2.2.2.2.2,n,[3,7,6])).bind λa4=>some a4) (some false))|.inr p=>((lI N (p.1,p.2.1,p.2.2.1,p.2.2.2.1,p.2.2.2.2.1,p.2.2.2.2.2.1,p.2.2.2.2.2.2.1,p.2.2.2.2.2.2.2.1,p.2.2.2.2.2.2.2.2.1,p.2.2.2.2.2.2.2.2.2,n,[3,7,6])).bind λa5=>some a5))) (cond (l==25) ((cond (decide (s<0)) (some true) ((idx a t).bind λa6=>some (a6.2.2.1==m))).bind λa7=>some a7) ((cond (l==26) (some true) (some (l==27))).bind λa8=>(cond a8 ((idx a s).bind λq=>((Tq N (c,d,a,e,f,b,g,h,i,j,q.1,q.2.1,q.2.2.1,q.2.2.2.1,q.2.2.2.2.1,q.2.2.2.2.2.1,q.2.2.2.2.2.2)).bind λa9=>some a9)) (cond (l==28) ((lI N (c,d,a,e,f,b,g,h,i,j,m,[2,1,3])).bind λb0=>some b0) ((cond (l==29) (some true) (some (l==33))).bind λb1=>(cond b1 ((lI N (c,d,a,e,f,b,g,h,i,j,m,[1])).bind λb2=>(cond b2 ((f108.bZ N N ([n],1,0,c,d,a,e,f,b,g,h,i,j)).bind λb3=>(match b3 with|.inl b4=>some (!(decide (b4>=0)))|.inr c2=>some (!(decide ((-1:Int)>=0))))) (some false))) (cond (l==34) ((cond (decide (s<0)) (some true) (some (b==m))).bind λb5=>some b5) (some true)))))))))))))))))))))))))))))))
def ah6:ah:=(acV N).put 108 acW (TC N)
theorem anz:az bJ (ah6 N):=(ah5 N).put ((((((((((ah5 N).on acW).aa N 1032001006001007000 3 f108.ir f108.iu).aa N 1060001006001007000 3 f108.iw f108.iy).aa N 1071001006001007000 3 f108.iz f108.iA).aa N 1145001006001007000 3 f108.iB f108.iC).aa N 1158001006001007000 3 f108.iD f108.iE).aa N 1171001006001007000 3 f108.iF f108.iG).aa N 1178001006001007000 3 f108.iH f108.iI).aa N 1230001006001007000 3 f108.iJ f108.iK) _ _ _ (funext λ⟨a,b,c,d,e,f,g,h,i,j,l,m,n,o⟩=>by rw[TC,f108.kX N N,f108.kY N N,f108.kZ N N,f108.k9 N N,f108.ld N N,f108.lg N N,f108.lu N N,f108.lz N N];kernel_rfl)
def ah7(N:Nat)(x:List Int):Option (List Int):=some x
def ah8:ah:=(ah6 N).q9 190 (AQ (.int .i64))
theorem ah9:az bJ (ah8 N):=(anz N).q9 (LR (by kernel_rfl))
def s93:bN:=⟨[.c (.int .i64)],[(false,[.int .i64]),(false,[.int .i64])],0,[(0,1,9,.bool)],[],[],[]⟩
def F93(N:Nat):Int->Option (Int×Int)|a=>((cond (decide (a<0)) (some true) (some (decide (a>1073741824)))).bind λb=>(cond b (some (0,2)) (some ((pq .i64 (av (a+7)) 7),0))))
def G93:ah:=(ah8 N).put 93 s93 (F93 N)
theorem K93:az bJ (G93 N):=(ah9 N).put ((ah9 N).on s93) _ _ _ (funext λa=>by rw[F93];kernel_rfl)
def acX:bN:=sg [.agg (cF bG),.c (.sl (.int .i64) .bC)] [(false,[.int .i64]),(false,[.int .i64])]
def TD:ah:=(G93 N).on acX
def f152.eC:bq:=tm [(2,.c (.ptr 0 2 0 0 0)),(6,.c (.int .i64)),(12,.c (.sl (.int .i64) .bC)),(13,.c (.int .i64)),(14,.c (.int .i64))] [] [(0,2,.box 0 (cF bG))] 1 [] 1
def f152.eD:bn:=[(.ret,tm [(4,.c (.int .i64)),(5,.c (.int .i64))] [] [] 1 [] 0),(.exit 0,tm [(6,.c (.int .i64))] [] [] 1 [] 0)]
def f152.bz:Nat->Int×List Int×Int×Int×dw->Option ((Int×Int)⊕Int)|0,_=>none|k+1,(d,e,f,a,g,h,i,j,l,m,n,o,p,q)=>(cond (decide (a<f)) ((idx e a).bind λr=>((Pv N (g,r)).bind λb=>(cond (b.2.2!=0) (some (Sum.inl (0,b.2.2))) ((F93 N b.1).bind λc=>(cond (c.2!=0) (some (Sum.inl (0,c.2))) (f152.bz k ((av (d+c.1)),e,f,(av (a+1)),g,h,i,j,l,m,n,o,p,q))))))) (some (Sum.inr d)))
theorem f152.gL:∀k,f152.bz N k=lp (TD N) 0 4 (tq 152) 4 f152.eC f152.eD k|0=>rfl|k+1=>funext λ⟨a,b,c,d,e,f,g,h,i,j,l,m,n,o⟩=>by rw[f152.bz,f152.gL k];kernel_rfl
def anB:ah:=(TD N).aa N 0 4 f152.eC f152.eD
def Pz:dL (List Int)->Option (Int×Int)|(c,d,e,f,g,h,i,j,l,m,a)=>((f152.bz N N (0,a,(a.length:Int),0,c,d,e,f,g,h,i,j,l,m)).bind λn=>(match n with|.inl b=>some (b.1,b.2)|.inr o=>some (o,0)))
def acY:ah:=(G93 N).put 152 acX (Pz N)
theorem aia:az bJ (acY N):=(K93 N).put (((K93 N).on acX).aa N 0 4 f152.eC f152.eD) _ _ _ (funext λ⟨a,b,c,d,e,f,g,h,i,j,l⟩=>by rw[Pz,f152.gL N N];kernel_rfl)
def acZ:bN:=⟨[.agg (aZ bG),.agg (aZ bf),.c (.sl (.int .i64) .d)],[(false,[.sl (.int .i64) .d]),(false,[.bool])],0,[],[],[(0,24,(.int .i64))],[(0,6,[(.ret,tm [(6,.c (.nil true)),(7,.c (.bool))] [] [] 1 [] 0),(.normal,tm [(2,.c (.sl (.int .i64) .d)),(3,.c (.ptr 0 3 0 0 0))] [] [(0,3,.box 0 (aZ bG))] 1 [] 1)]),(0,2,[(.normal,tm [(2,.c (.sl (.int .i64) .d)),(3,.c (.ptr 0 3 1 0 0)),(4,.c (.ptr 0 4 2 0 0))] [] [(0,3,.box 1 (aZ bG)),(0,4,.box 2 (aZ bf))] 1 [] 3)])]⟩
def TE:ah:=(acY N).on acZ
def f149.CH:bq:=tm [(2,.c (.sl (.int .i64) .d)),(3,.c (.ptr 0 3 0 0 0)),(9,.c (.ptr 0 9 1 0 0)),(10,.c (.int .i64)),(45,.c (.sl (.int .i64) .d)),(46,.c (.int .i64)),(47,.c (.int .i64))] [] [(0,3,.box 0 (aZ bG)),(0,9,.box 1 (aZ dK))] 1 [] 2
def f149.CI:bn:=[(.ret,tm [(6,.c (.nil true)),(7,.c (.bool))] [] [] 1 [] 0),(.exit 0,tm [(2,.c (.sl (.int .i64) .d)),(3,.c (.ptr 0 3 0 0 0)),(10,.c (.int .i64))] [] [(0,3,.box 0 (aZ bG))] 1 [] 1)]
def f149.oF(N:Nat):Nat->List Int×Int×List Int×Int×Int×dL gV->Option (Bool⊕(List Int×Int×dw))|0,_=>none|k+1,(b,c,d,e,a,f,g,h,i,j,l,m,n,o,p,r,s,t,q,u,v,w)=>(cond (decide (a<e)) ((idx d a).bind λx=>((idx q a).bind λy=>(cond (y.2!=x) (some (Sum.inl false)) (f149.oF N k (b,c,d,e,(av (a+1)),f,g,h,i,j,l,m,n,o,p,r,s,t,q,u,v,w))))) (some (Sum.inr (b,c,f,g,h,i,j,l,m,n,o,p))))
theorem f149.JG:∀k,f149.oF N k=lp (TE N) 0 14 (tq 149) 14 f149.CH f149.CI k|0=>rfl|k+1=>funext λ⟨a,b,c,d,e,f,g,h,i,j,l,m,n,o,p,q,r,s,t,u,v,w⟩=>by rw[f149.oF,f149.JG k];kernel_rfl
def anC:ah:=(TE N).aa N 0 14 f149.CH f149.CI
def Hf:dL (LS (List Int))->Option (List Int×Bool)|(e,f,g,h,i,j,l,m,n,o,p,q,r,s,t)=>((cond (p==24) ((ah7 N t).bind λu=>((JE N (e,f,g,h,i,j,l,m,n,o,q)).bind λx=>(aF (room (u.length+1) 8) (some ((u++[x]),e,f,g,h,i,j,l,m,n,o,p,q,r,s))))) (some (t,e,f,g,h,i,j,l,m,n,o,p,q,r,s))).bind λa=>((Px N (a.2.2.2.2.2.2.2.2.2.2.2.1,a.2.2.2.2.2.2.2.2.2.2.2.2.1,a.2.2.2.2.2.2.2.2.2.2.2.2.2.1,a.2.2.2.2.2.2.2.2.2.2.2.2.2.2)).bind λv=>((cond (decide (v>=0)) ((idx a.2.2.2.1 v).bind λc=>(cond (decide ((av ((a.1.length:Int)-c.2.1))<0)) (some (Sum.inl false)) (aF (decide (0<=(av ((a.1.length:Int)-c.2.1)))) (aF (decide ((Int.toNat (av ((a.1.length:Int)-c.2.1)))<=a.1.length)) ((f149.oF N N (a.1,(av ((a.1.length:Int)-c.2.1)),(a.1.drop (Int.toNat (av ((a.1.length:Int)-c.2.1)))),((a.1.drop (Int.toNat (av ((a.1.length:Int)-c.2.1)))).length:Int),0,a.2.1,a.2.2.1,a.2.2.2.1,a.2.2.2.2.1,a.2.2.2.2.2.1,a.2.2.2.2.2.2.1,a.2.2.2.2.2.2.2.1,a.2.2.2.2.2.2.2.2.1,a.2.2.2.2.2.2.2.2.2.1,a.2.2.2.2.2.2.2.2.2.2.1,c.1,c.2.1,c.2.2.1,c.2.2.2.1,c.2.2.2.2.1,c.2.2.2.2.2.1,c.2.2.2.2.2.2)).bind λy=>(match y with|.inl z=>some (Sum.inl z)|.inr b=>(aF (decide (0<=b.2.1)) (aF (decide (b.2.1.toNat<=b.1.length)) (some (Sum.inr ((b.1.take b.2.1.toNat),b.2.2.1,b.2.2.2.1,b.2.2.2.2.1,b.2.2.2.2.2.1,b.2.2.2.2.2.2.1,b.2.2.2.2.2.2.2.1,b.2.2.2.2.2.2.2.2.1,b.2.2.2.2.2.2.2.2.2.1,b.2.2.2.2.2.2.2.2.2.2.1,b.2.2.2.2.2.2.2.2.2.2.2))))))))))) (some (Sum.inr (a.1,a.2.1,a.2.2.1,a.2.2.2.1,a.2.2.2.2.1,a.2.2.2.2.2.1,a.2.2.2.2.2.2.1,a.2.2.2.2.2.2.2.1,a.2.2.2.2.2.2.2.2.1,a.2.2.2.2.2.2.2.2.2.1,a.2.2.2.2.2.2.2.2.2.2.1)))).bind λA=>(match A with|.inl B=>some ([],B)|.inr d=>((Pz N (d.2.1,d.2.2.1,d.2.2.2.1,d.2.2.2.2.1,d.2.2.2.2.2.1,d.2.2.2.2.2.2.1,d.2.2.2.2.2.2.2.1,d.2.2.2.2.2.2.2.2.1,d.2.2.2.2.2.2.2.2.2.1,d.2.2.2.2.2.2.2.2.2.2,d.1)).bind λw=>(cond (w.2==0) (some (d.1,(decide (w.1<=4096)))) (some (d.1,false))))))))
def aib:ah:=(acY N).put 149 acZ (Hf N)
theorem aic:az bJ (aib N):=(aia N).put (((aia N).on acZ).aa N 0 14 f149.CH f149.CI) _ _ _ (funext λ⟨a,b,c,d,e,f,g,h,i,j,l,m,n,o,p⟩=>by rw[Hf,f149.JG N N];kernel_rfl)
def aid:bN:=⟨[.c (.sl bf .bC),.c (.int .i64)],[(false,[.sl (.int .i64) .d]),(false,[.int .i64])],0,[(0,5,19,.bool)],[],[],[]⟩
def TF:List Instr×Int->Option (List Int×Int)|(a,b)=>((LX N a).bind λc=>(cond (c !=0) (some ([],c)) ((cond (decide (b<0)) (some true) (some (decide (b>=(a.length:Int))))).bind λd=>(cond d (some ([],2)) ((LY N (a,b)).bind λe=>some (e,0))))))
def ac1:ah:=(aib N).put 150 aid (TF N)
theorem aie:az bJ (ac1 N):=(aic N).put ((aic N).on aid) _ _ _ (funext λ⟨a,b⟩=>by rw[TF];kernel_rfl)
def ac2:bN:=sg [.c (.sl (.int .i64) .bC),.c (.sl (.int .i64) .bC)] [(false,[.bool])]
def TG:ah:=(ac1 N).on ac2
def f151.bQ:bq:=tm [(0,.c (.sl (.int .i64) .bC)),(1,.c (.sl (.int .i64) .bC)),(12,.c (.int .i64)),(13,.c (.int .i64))] [] [] 1 [] 0
def f151.bR:bn:=[(.ret,tm [(4,.c (.bool))] [] [] 1 [] 0),(.exit 0,tm [] [] [] 1 [] 0)]
def f151.aP(N:Nat):Nat->List Int×List Int×Int×Int->Option (Bool⊕Unit)|0,_=>none|k+1,(b,c,d,a)=>(cond (decide (a<d)) ((idx b a).bind λe=>((idx c a).bind λf=>(cond (e !=f) (some (Sum.inl false)) (f151.aP N k (b,c,d,(av (a+1))))))) (some (Sum.inr ())))
theorem f151.cV:∀k,f151.aP N k=lp (TG N) 0 6 (tq 151) 6 f151.bQ f151.bR k|0=>rfl|k+1=>funext λ⟨a,b,c,d⟩=>by rw[f151.aP,f151.cV k];kernel_rfl
def anD:ah:=(TG N).aa N 0 6 f151.bQ f151.bR
def TH:List Int×List Int->Option Bool|(a,b)=>(cond ((a.length:Int)!=(b.length:Int)) (some false) ((f151.aP N N (a,b,(a.length:Int),0)).bind λc=>(match c with|.inl d=>some d|.inr e=>some true)))
def ac3:ah:=(ac1 N).put 151 ac2 (TH N)
theorem aif:az bJ (ac3 N):=(aie N).put (((aie N).on ac2).aa N 0 6 f151.bQ f151.bR) _ _ _ (funext λ⟨a,b⟩=>by rw[TH,f151.cV N N];kernel_rfl)
def ac4:bN:=⟨[.agg (aZ bG)],[(false,[.sl (.int .u64) .d]),(false,[.bool])],0,[(0,14,70,.bool)],[],[(0,25,(.sl (.int .i64))),(0,28,.bool),(0,31,(.int .i64)),(0,90,(.int .i64)),(0,105,(.int .u64))],[]⟩
def TI:ah:=(ac3 N).on ac4
def f109.tj:bq:=tm [(1,.c (.ptr 0 1 0 0 0)),(4,.c (.sl bf .d)),(5,.c (.ref 0 25 1 (.sl (.int .i64)))),(6,.c (.ref 0 28 2 .bool)),(7,.c (.ref 0 31 3 (.int .i64))),(9,.c (.sl (.int .i64) .d)),(71,.c (.sl (.int .i64) .d)),(72,.c (.int .i64)),(73,.c (.int .i64))] [] [(0,1,.box 0 (aZ bG)),(0,25,.row 1 (.sl (.int .i64))),(0,28,.row 2 .bool),(0,31,.row 3 (.int .i64))] 1 [] 4
def f109.tn:bn:=[(.ret,tm [(2,.c (.nil true)),(3,.c (.bool))] [] [] 1 [] 0),(.exit 2,tm [(1,.c (.ptr 0 1 0 0 0)),(4,.c (.sl bf .d)),(5,.c (.ref 0 25 1 (.sl (.int .i64)))),(6,.c (.ref 0 28 2 .bool)),(7,.c (.ref 0 31 3 (.int .i64)))] [] [(0,1,.box 0 (aZ bG)),(0,25,.row 1 (.sl (.int .i64))),(0,28,.row 2 .bool),(0,31,.row 3 (.int .i64))] 1 [] 4)]
def f109.fe:Nat->List Instr×List Int×List Int×Int×Int×dL (List (List Int)×List Bool×List Int)->Option (Bool⊕(List Instr×dL (List (List Int)×List Bool×List Int)))|0,_=>none|k+1,(g,d,h,i,e,j,l,m,n,o,p,q,r,s,t,b,c,f)=>(cond (decide (e<i)) ((idx h e).bind λa=>(aF (ga a c.length) ((c[a.toNat]?).bind λu=>(cond (!u) (aF (room (f.length+1) 8) (aF (ga a b.length) ((b[a.toNat]?).bind λx=>(aF (ga a c.length) ((c[a.toNat]?).bind λy=>f109.fe k (g,d,h,i,(av (e+1)),j,l,m,n,o,p,q,r,s,t,(b.set a.toNat d),(c.set a.toNat true),(f++[a]))))))) (aF (ga a b.length) ((b[a.toNat]?).bind λv=>((TH N (v,d)).bind λw=>(cond (!w) (some (Sum.inl false)) (f109.fe k (g,d,h,i,(av (e+1)),j,l,m,n,o,p,q,r,s,t,b,c,f)))))))))) (some (Sum.inr (g,j,l,m,n,o,p,q,r,s,t,b,c,f))))
theorem f109.zS:∀k,f109.fe N k=lp (TI N) 0 19 (tq 109) 19 f109.tj f109.tn k|0=>rfl|k+1=>funext λ⟨a,b,c,d,e,f,g,h,i,j,l,m,n,o,p,q,r,s⟩=>by rw[f109.fe,f109.zS k];kernel_rfl
def TJ:ah:=(TI N).aa N 0 19 f109.tj f109.tn
def f109.bQ:bq:=tm [(1,.c (.ptr 0 1 0 0 0)),(4,.c (.sl bf .d)),(5,.c (.ref 0 25 1 (.sl (.int .i64)))),(6,.c (.ref 0 28 2 .bool)),(7,.c (.ref 0 31 3 (.int .i64)))] [] [(0,1,.box 0 (aZ bG)),(0,25,.row 1 (.sl (.int .i64))),(0,28,.row 2 .bool),(0,31,.row 3 (.int .i64))] 1 [] 4
def f109.bR:bn:=[(.ret,tm [(2,.c (.nil true)),(3,.c (.bool))] [] [] 1 [] 0),(.exit 0,tm [(1,.c (.ptr 0 1 0 0 0)),(4,.c (.sl bf .d)),(5,.c (.ref 0 25 1 (.sl (.int .i64))))] [] [(0,1,.box 0 (aZ bG)),(0,25,.row 1 (.sl (.int .i64)))] 1 [] 2)]
def f109.aP:Nat->List Instr×dL (List (List Int)×List Bool×List Int)->Option (Bool⊕(List Instr×dL (List (List Int))))|0,_=>none|k+1,(c,g,h,i,j,l,m,n,o,p,q,d,t,b)=>(cond (decide ((b.length:Int)>0)) (aF (ga (av ((b.length:Int)-1)) b.length) ((b[(Int.toNat (av ((b.length:Int)-1)))]?).bind λe=>(aF (decide (0<=(av ((b.length:Int)-1)))) (aF (decide ((Int.toNat (av ((b.length:Int)-1)))<=b.length)) ((idx c e).bind λf=>(aF (ga e d.length) ((d[e.toNat]?).bind λu=>((Hf N (g,h,i,j,l,m,n,o,p,q,f.1,f.2.1,f.2.2.1,f.2.2.2,u)).bind λs=>((TF N (c,e)).bind λr=>((cond (!s.2) (some true) (some (r.2!=0))).bind λv=>(cond v (some (Sum.inl false)) ((f109.fe N N (c,s.1,r.1,(r.1.length:Int),0,g,h,i,j,l,m,n,o,p,q,d,t,(b.take (Int.toNat (av ((b.length:Int)-1)))))).bind λw=>(match w with|.inl x=>some (Sum.inl x)|.inr a=>f109.aP k (a.1,a.2.1,a.2.2.1,a.2.2.2.1,a.2.2.2.2.1,a.2.2.2.2.2.1,a.2.2.2.2.2.2.1,a.2.2.2.2.2.2.2.1,a.2.2.2.2.2.2.2.2.1,a.2.2.2.2.2.2.2.2.2.1,a.2.2.2.2.2.2.2.2.2.2.1,a.2.2.2.2.2.2.2.2.2.2.2.1,a.2.2.2.2.2.2.2.2.2.2.2.2.1,a.2.2.2.2.2.2.2.2.2.2.2.2.2)))))))))))))) (some (Sum.inr (c,g,h,i,j,l,m,n,o,p,q,d))))
theorem f109.cV:∀k,f109.aP N k=lp (TJ N) 0 6 (tq 109) 6 f109.bQ f109.bR k|0=>rfl|k+1=>funext λ⟨a,b,c,d,e,f,g,h,i,j,l,m,n,o⟩=>by rw[f109.aP,f109.cV k,f109.zS N N];kernel_rfl
def TK:ah:=(TJ N).aa N 0 6 f109.bQ f109.bR
def f109.TL:bq:=tm [(1,.c (.ptr 0 1 0 0 0)),(4,.c (.sl bf .d)),(5,.c (.ref 0 25 1 (.sl (.int .i64)))),(15,.c (.ref 0 105 2 (.int .u64))),(106,.c (.ref 0 25 1 (.sl (.int .i64)))),(107,.c (.int .i64)),(108,.c (.int .i64))] [] [(0,1,.box 0 (aZ bG)),(0,25,.row 1 (.sl (.int .i64))),(0,105,.row 2 (.int .u64))] 1 [] 3
def f109.TM:bn:=[(.ret,tm [(2,.c (.nil true)),(3,.c (.bool))] [] [] 1 [] 0),(.exit 5,tm [(4,.c (.sl bf .d)),(5,.c (.ref 0 25 0 (.sl (.int .i64)))),(15,.c (.ref 0 105 1 (.int .u64)))] [] [(0,25,.row 0 (.sl (.int .i64))),(0,105,.row 1 (.int .u64))] 1 [] 2)]
def f109.zU:Nat->List Instr×Int×Int×dL (List (List Int)×List Int)->Option (Bool⊕(List Instr×List (List Int)×List Int))|0,_=>none|k+1,(d,e,a,f,g,h,i,j,l,m,n,o,p,b,c)=>(cond (decide (a<e)) (aF (ga a b.length) ((b[a.toNat]?).bind λr=>((Pz N (f,g,h,i,j,l,m,n,o,p,r)).bind λq=>(cond (q.2!=0) (some (Sum.inl false)) (aF (ga a c.length) ((c[a.toNat]?).bind λs=>f109.zU k (d,e,(av (a+1)),f,g,h,i,j,l,m,n,o,p,b,(c.set a.toNat (aL q.1))))))))) (some (Sum.inr (d,b,c))))
theorem f109.aag:∀k,f109.zU N k=lp (TK N) 0 35 (tq 109) 35 f109.TL f109.TM k|0=>rfl|k+1=>funext λ⟨a,b,c,d,e,f,g,h,i,j,l,m,n,o,p⟩=>by rw[f109.zU,f109.aag k];kernel_rfl
def anE:ah:=(TK N).aa N 0 35 f109.TL f109.TM
def PA:dw->Option (List Int×Bool)|(d,e,f,g,h,i,j,b,l,m)=>(aF (decide (0<=(b.length:Int))) (aF (decide (0<=(b.length:Int))) (aF (decide ((Int.toNat (b.length:Int))<=(Int.toNat (b.length:Int)))&&room (Int.toNat (b.length:Int)) 24) (aF (decide (0<=(b.length:Int))) (aF (decide (0<=(b.length:Int))) (aF (decide ((Int.toNat (b.length:Int))<=(Int.toNat (b.length:Int)))&&room (Int.toNat (b.length:Int)) 1) (aF (ga 0 (List.replicate (Int.toNat (b.length:Int)) false).length) (((List.replicate (Int.toNat (b.length:Int)) false)[(Int.toNat 0)]?).bind λs=>((f109.aP N N (b,d,e,f,g,h,i,j,b,l,m,(List.replicate (Int.toNat (b.length:Int)) []),((List.replicate (Int.toNat (b.length:Int)) false).set (Int.toNat 0) true),[0])).bind λn=>(match n with|.inl o=>some ([],o)|.inr a=>(aF (decide (0<=(a.1.length:Int))) (aF (decide (0<=(a.1.length:Int))) (aF (decide ((Int.toNat (a.1.length:Int))<=(Int.toNat (a.1.length:Int)))&&room (Int.toNat (a.1.length:Int)) 8) ((f109.zU N N (a.1,(a.2.2.2.2.2.2.2.2.2.2.2.length:Int),0,a.2.1,a.2.2.1,a.2.2.2.1,a.2.2.2.2.1,a.2.2.2.2.2.1,a.2.2.2.2.2.2.1,a.2.2.2.2.2.2.2.1,a.2.2.2.2.2.2.2.2.1,a.2.2.2.2.2.2.2.2.2.1,a.2.2.2.2.2.2.2.2.2.2.1,a.2.2.2.2.2.2.2.2.2.2.2,(List.replicate (Int.toNat (a.1.length:Int)) (0:Int)))).bind λp=>(match p with|.inl q=>some ([],q)|.inr c=>(aF (ga (av ((c.1.length:Int)-1)) c.2.1.length) ((c.2.1[(Int.toNat (av ((c.1.length:Int)-1)))]?).bind λr=>some (c.2.2,((r.length:Int)==0)))))))))))))))))))
def ac5:ah:=(ac3 N).put 109 ac4 (PA N)
theorem aih:az bJ (ac5 N):=(aif N).put (((((aif N).on ac4).aa N 0 19 f109.tj f109.tn).aa N 0 6 f109.bQ f109.bR).aa N 0 35 f109.TL f109.TM) _ _ _ (funext λ⟨a,b,c,d,e,f,g,h,i,j⟩=>by rw[PA,f109.cV N N,f109.aag N N];kernel_rfl)
def ac6:bN:=sg [.c (.sl (.int .i64) .bC)] [(false,[.int .u64])]
def TN:ah:=(ac5 N).on ac6
def f153.eC:bq:=tm [(3,.c (.int .u64)),(6,.c (.sl (.int .i64) .bC)),(7,.c (.int .i64)),(8,.c (.int .i64))] [] [] 1 [] 0
def f153.eD:bn:=[(.exit 0,tm [(3,.c (.int .u64))] [] [] 1 [] 0)]
def f153.bz(N:Nat):Nat->Int×List Int×Int×Int->Option Int|0,_=>none|k+1,(b,c,d,a)=>(cond (decide (a<d)) ((idx c a).bind λe=>(aF (!decide (e<0)) (f153.bz N k ((Ct .u64 b (aL (1*(2^min e.toNat 64)))),c,d,(av (a+1)))))) (some b))
theorem f153.gL:∀k,f153.bz N k=lp (TN N) 0 4 (tq 153) 4 f153.eC f153.eD k|0=>rfl|k+1=>funext λ⟨a,b,c,d⟩=>by rw[f153.bz,f153.gL k];kernel_rfl
def anF:ah:=(TN N).aa N 0 4 f153.eC f153.eD
def PB:List Int->Option Int|a=>((f153.bz N N (0,a,(a.length:Int),0)).bind λb=>some b)
def ac7:ah:=(ac5 N).put 153 ac6 (PB N)
theorem aii:az bJ (ac7 N):=(aih N).put (((aih N).on ac6).aa N 0 4 f153.eC f153.eD) _ _ _ (funext λa=>by rw[PB,f153.gL N N];kernel_rfl)
def ac8:bN:=⟨[.c (.sl bf .bC),.c (.int .i64),.c (.int .i64)],[(false,[.sl (.int .u64) .d]),(false,[.int .i64])],0,[(0,5,36,.bool)],[],[(0,39,(.int .u64)),(0,74,(.int .u64)),(0,77,.bool),(1080000,10,(.int .i64)),(1080000,39,(.int .i64))],[]⟩
def TO:ah:=(ac7 N).on ac8
def f110.oD:bq:=tm [(0,.c (.sl bf .bC)),(2,.c (.int .i64)),(4,.c (.ptr 0 4 0 0 0)),(9,.c (.ptr 0 9 1 0 0)),(40,.c (.sl bf .bC)),(41,.c (.int .i64)),(42,.c (.int .i64))] [] [(0,4,.box 0 [.int .i64]),(0,9,.box 1 [.ref 0 39 2 (.int .u64)]),(0,39,.row 2 (.int .u64))] 1 [] 3
def f110.oE:bn:=[(.ret,tm [(6,.c (.nil true)),(7,.c (.int .i64))] [] [] 1 [] 0),(.exit 0,tm [(0,.c (.sl bf .bC)),(4,.c (.ptr 0 4 0 0 0)),(9,.c (.ptr 0 9 1 0 0))] [] [(0,4,.box 0 [.int .i64]),(0,9,.box 1 [.ref 0 39 2 (.int .u64)]),(0,39,.row 2 (.int .u64))] 1 [] 3)]
def f110.eE:Nat->List Instr×Int×List Instr×Int×Int×Int×List Int->Option (Int⊕(List Instr×Int×List Int))|0,_=>none|k+1,(g,e,h,i,a,j,b)=>(cond (decide (a<i)) ((idx h a).bind λc=>((LZ N (c.1,c.2.1,c.2.2.1,c.2.2.2)).bind λd=>(cond (d.2.2!=0) (some (Sum.inl d.2.2)) ((PB N d.2.1).bind λf=>(aF (ga a b.length) ((b[a.toNat]?).bind λn=>((PB N d.1).bind λl=>(aF (ga a (b.set a.toNat f).length) (((b.set a.toNat f)[a.toNat]?).bind λm=>(aF (!decide (e<0)) (cond ((Int.fdiv (Ct .u64 l m) (2^min e.toNat 64))!=0) (some (Sum.inl 16)) (f110.eE k (g,e,h,i,(av (a+1)),j,(b.set a.toNat f)))))))))))))) (some (Sum.inr (g,j,b))))
theorem f110.td:∀k,f110.eE N k=lp (TO N) 0 11 (tq 110) 11 f110.oD f110.oE k|0=>rfl|k+1=>funext λ⟨a,b,c,d,e,f,g⟩=>by rw[f110.eE,f110.td k];kernel_rfl
def TP:ah:=(TO N).aa N 0 11 f110.oD f110.oE
def f110.tw:bq:=tm [(0,.c (.sl bf .bC)),(1,.fk 154 [.ptr 0 4 0 0 0,.ptr 0 16 1 0 0,.ptr 0 15 2 0 0,.ptr 0 9 3 0 0]),(4,.c (.ref 1 10 4 (.int .i64))),(5,.c (.int .i64)),(27,.c (.sl (.int .i64) .d)),(28,.c (.int .i64)),(29,.c (.int .i64))] [[(15,.c (.ptr 0 15 2 0 0))]] [(0,4,.box 0 [.int .i64]),(0,16,.box 1 [.ref 0 77 5 .bool]),(0,77,.row 5 .bool),(0,15,.box 2 [.ref 0 74 6 (.int .u64)]),(0,74,.row 6 (.int .u64)),(0,9,.box 3 [.ref 0 39 7 (.int .u64)]),(0,39,.row 7 (.int .u64)),(1,10,.row 4 (.int .i64))] 2 [] 8
def f110.tA:bn:=[(.exit 2,tm [(0,.c (.sl bf .bC)),(1,.fk 154 [.ptr 0 4 0 0 0,.ptr 0 16 1 0 0,.ptr 0 15 2 0 0,.ptr 0 9 3 0 0]),(4,.c (.ref 1 10 4 (.int .i64)))] [[(15,.c (.ptr 0 15 2 0 0))]] [(0,4,.box 0 [.int .i64]),(0,16,.box 1 [.ref 0 77 5 .bool]),(0,77,.row 5 .bool),(0,15,.box 2 [.ref 0 74 6 (.int .u64)]),(0,74,.row 6 (.int .u64)),(0,9,.box 3 [.ref 0 39 7 (.int .u64)]),(0,39,.row 7 (.int .u64)),(1,10,.row 4 (.int .i64))] 2 [] 8)]
def f110.eW(N:Nat):Nat->List Instr×Int×List Int×Int×Int×Int×List Bool×List Int×List Int×List Int->Option ((List Instr×Int×List Bool×List Int×List Int×List Int))|0,_=>none|k+1,(i,d,j,l,h,f,c,b,g,e)=>(cond (decide (h<l)) ((idx j h).bind λa=>(cond (decide (d<0)) (aF (!decide (f<0)) (aF (ga a c.length) ((c[a.toNat]?).bind λs=>(aF (ga a b.length) ((b[a.toNat]?).bind λt=>(aF (room (e.length+1) 8) (f110.eW N k (i,d,j,l,(av (h+1)),f,(c.set a.toNat true),(b.set a.toNat (aL ((aL (1*(2^min f.toNat 64)))-1))),g,(e++[a]))))))))) (aF (ga d b.length) ((b[d.toNat]?).bind λm=>(aF (ga d g.length) ((g[d.toNat]?).bind λn=>(aF (ga a c.length) ((c[a.toNat]?).bind λp=>(cond (!p) (aF (ga a c.length) ((c[a.toNat]?).bind λu=>(aF (ga a b.length) ((b[a.toNat]?).bind λv=>(aF (room (e.length+1) 8) (f110.eW N k (i,d,j,l,(av (h+1)),f,(c.set a.toNat true),(b.set a.toNat (Ct .u64 m n)),g,(e++[a])))))))) (aF (ga a b.length) ((b[a.toNat]?).bind λq=>(aF (ga a b.length) ((b[a.toNat]?).bind λo=>(aF (ga a b.length) ((b[a.toNat]?).bind λw=>(aF (ga a (b.set a.toNat (uw .u64 o (Ct .u64 m n))).length) (((b.set a.toNat (uw .u64 o (Ct .u64 m n)))[a.toNat]?).bind λr=>(cond (r !=q) (aF (room (e.length+1) 8) (f110.eW N k (i,d,j,l,(av (h+1)),f,c,(b.set a.toNat (uw .u64 o (Ct .u64 m n))),g,(e++[a])))) (f110.eW N k (i,d,j,l,(av (h+1)),f,c,(b.set a.toNat (uw .u64 o (Ct .u64 m n))),g,e)))))))))))))))))))) (some (i,f,c,b,g,e)))
theorem f110.zV:∀k,f110.eW N k=lp (TP N) 1080000 11 (tq 136) 11 f110.tw f110.tA k|0=>rfl|k+1=>funext λ⟨a,b,c,d,e,f,g,h,i,j⟩=>by rw[f110.eW,f110.zV k];kernel_rfl
def TQ:ah:=(TP N).aa N 1080000 11 f110.tw f110.tA
def f110.vn:bq:=tm [(0,.c (.sl bf .bC)),(1,.fk 154 [.ptr 0 4 0 0 0,.ptr 0 16 1 0 0,.ptr 0 15 2 0 0,.ptr 0 9 3 0 0]),(4,.c (.ref 1 10 4 (.int .i64)))] [[(15,.c (.ptr 0 15 2 0 0))]] [(0,4,.box 0 [.int .i64]),(0,16,.box 1 [.ref 0 77 5 .bool]),(0,77,.row 5 .bool),(0,15,.box 2 [.ref 0 74 6 (.int .u64)]),(0,74,.row 6 (.int .u64)),(0,9,.box 3 [.ref 0 39 7 (.int .u64)]),(0,39,.row 7 (.int .u64)),(1,10,.row 4 (.int .i64))] 2 [] 8
def f110.vo:bn:=[(.exit 0,tm [] [[(15,.c (.ptr 0 15 0 0 0))]] [(0,15,.box 0 [.ref 0 74 1 (.int .u64)]),(0,74,.row 1 (.int .u64))] 2 [] 2)]
def f110.jz:Nat->List Instr×Int×List Bool×List Int×List Int×List Int->Option ((List Int))|0,_=>none|k+1,(c,g,h,d,i,a)=>(cond (decide ((a.length:Int)>0)) (aF (ga (av ((a.length:Int)-1)) a.length) ((a[(Int.toNat (av ((a.length:Int)-1)))]?).bind λe=>(aF (decide (0<=(av ((a.length:Int)-1)))) (aF (decide ((Int.toNat (av ((a.length:Int)-1)))<=a.length)) ((LY N (c,e)).bind λf=>((f110.eW N N (c,e,f,(f.length:Int),0,g,h,d,i,(a.take (Int.toNat (av ((a.length:Int)-1)))))).bind λb=>f110.jz k (b.1,b.2.1,b.2.2.1,b.2.2.2.1,b.2.2.2.2.1,b.2.2.2.2.2))))))) (some d))
theorem f110.CJ:∀k,f110.jz N k=lp (TQ N) 1080000 3 (tq 136) 3 f110.vn f110.vo k|0=>rfl|k+1=>funext λ⟨a,b,c,d,e,f⟩=>by rw[f110.jz,f110.CJ k,f110.zV N N];kernel_rfl
def anG:ah:=(TQ N).aa N 1080000 3 f110.vn f110.vo
def JH:List Instr×Int×Int->Option (List Int×Int)|(b,e,d)=>((LX N b).bind λf=>(cond (f !=0) (some ([],f)) ((cond (decide (d<0)) (some true) (cond (decide (d>16)) (some true) (cond (decide (e<0)) (some true) (some (decide (e>d)))))).bind λg=>(cond g (some ([],2)) (aF (decide (0<=(b.length:Int))) (aF (decide (0<=(b.length:Int))) (aF (decide ((Int.toNat (b.length:Int))<=(Int.toNat (b.length:Int)))&&room (Int.toNat (b.length:Int)) 8) ((f110.eE N N (b,d,b,(b.length:Int),0,e,(List.replicate (Int.toNat (b.length:Int)) (0:Int)))).bind λh=>(match h with|.inl i=>some ([],i)|.inr a=>(aF (decide (0<=(a.1.length:Int))) (aF (decide (0<=(a.1.length:Int))) (aF (decide ((Int.toNat (a.1.length:Int))<=(Int.toNat (a.1.length:Int)))&&room (Int.toNat (a.1.length:Int)) 8) (aF (decide (0<=(a.1.length:Int))) (aF (decide (0<=(a.1.length:Int))) (aF (decide ((Int.toNat (a.1.length:Int))<=(Int.toNat (a.1.length:Int)))&&room (Int.toNat (a.1.length:Int)) 1) (aF (!decide (a.2.1<0)) (aF (ga 0 (List.replicate (Int.toNat (a.1.length:Int)) false).length) (((List.replicate (Int.toNat (a.1.length:Int)) false)[(Int.toNat 0)]?).bind λj=>(aF (ga 0 (List.replicate (Int.toNat (a.1.length:Int)) (0:Int)).length) (((List.replicate (Int.toNat (a.1.length:Int)) (0:Int))[(Int.toNat 0)]?).bind λl=>((f110.jz N N (a.1,a.2.1,((List.replicate (Int.toNat (a.1.length:Int)) false).set (Int.toNat 0) true),((List.replicate (Int.toNat (a.1.length:Int)) (0:Int)).set (Int.toNat 0) (aL ((aL (1*(2^min a.2.1.toNat 64)))-1))),a.2.2,[0])).bind λc=>(aF (ga (av ((c.length:Int)-1)) c.length) ((c[(Int.toNat (av ((c.length:Int)-1)))]?).bind λm=>some ((c.set (Int.toNat (av ((c.length:Int)-1))) 0),0))))))))))))))))))))))))
def ac9:ah:=(ac7 N).put 110 ac8 (JH N)
theorem aij:az bJ (ac9 N):=(aii N).put (((((aii N).on ac8).aa N 0 11 f110.oD f110.oE).aa N 1080000 11 f110.tw f110.tA).aa N 1080000 3 f110.vn f110.vo) _ _ _ (funext λ⟨a,b,c⟩=>by rw[JH,f110.td N N,f110.CJ N N];kernel_rfl)
def ada:bN:=⟨[.c (.sl (.int .u64) .bC)],[(false,[.sl ia .d]),(false,[.int .i64])],0,[(0,13,31,.bool)],[],[(0,39,ia)],[]⟩
def TS:ah:=(ac9 N).on ada
def f112.CK:bq:=tm [(0,.c (.sl (.int .u64) .bC)),(5,.c (.sl ia (.app 0))),(14,.c (.int .i64)),(15,.c (.int .i64))] [] [] 1 [0] 1
def f112.CL:bn:=[(.exit 0,tm [(5,.c (.sl ia (.app 0)))] [] [] 1 [0] 1)]
def f112.mq(N:Nat):Nat->List Int×List eN×Int×Int->Option ((List eN))|0,_=>none|k+1,(b,c,d,a)=>(cond (decide (a<d)) ((cond (decide (a>0)) ((idx b a).bind λe=>((idx b (av (a-1))).bind λf=>some (e==f))) (some false)).bind λg=>(cond g (f112.mq N k (b,c,d,(av (a+1)))) ((idx b a).bind λh=>(aF (room (c.length+1) 16) (f112.mq N k (b,(c++[(a,h)]),d,(av (a+1)))))))) (some c))
theorem f112.TT:∀k,f112.mq N k=lp (TS N) 0 8 (tq 112) 8 f112.CK f112.CL k|0=>rfl|k+1=>funext λ⟨a,b,c,d⟩=>by rw[f112.mq,f112.TT k];kernel_rfl
def anH:ah:=(TS N).aa N 0 8 f112.CK f112.CL
def PC:List Int->Option (List eN×Int)|a=>((Pw N (a.length:Int)).bind λb=>(cond (b !=0) (some ([],b)) ((f112.mq N N (a,[],(a.length:Int),0)).bind λc=>some (c,0))))
def adb:ah:=(ac9 N).put 112 ada (PC N)
theorem aik:az bJ (adb N):=(aij N).put (((aij N).on ada).aa N 0 8 f112.CK f112.CL) _ _ _ (funext λa=>by rw[PC,f112.TT N N];kernel_rfl)
def s79:bN:=⟨[.agg (aZ aY),.c (.int .i64)],[(true,(aZ Ys))],0,[(0,7,53,.bool),(0,51,139,.bool)],[],[],[]⟩
def aah:ah:=(adb N).on s79
def f79.tB:bq:=tm [(4,.c (.ptr 0 4 0 0 0)),(5,.c (.ptr 0 5 1 0 0)),(6,.c (.sl bf .d)),(7,.c (.sl .bool .d)),(55,.c (.sl bf .d)),(56,.c (.int .i64)),(57,.c (.int .i64))] [] [(0,4,.box 0 [.nil true,.nil true,.int .i64,.int .i64]),(0,5,.box 1 (aZ bG))] 1 [] 2
def f79.tC:bn:=[(.ret,tm [(4,.c (.ptr 0 4 0 0 0))] [] [(0,4,.box 0 [.nil true,.nil true,.int .i64,.int .i64])] 1 [] 1),(.exit 0,tm [(4,.c (.ptr 0 4 0 0 0)),(5,.c (.ptr 0 5 1 0 0)),(6,.c (.sl bf .d))] [] [(0,4,.box 0 [.nil true,.nil true,.int .i64,.int .i64]),(0,5,.box 1 (aZ bG))] 1 [] 2)]
def f79.jd:Nat->List Instr×List Bool×List Instr×uj dw->Option ((Int×Int)⊕(List Instr×Int×Int×dw))|0,_=>none|k+1,(n,o,p,q,b,r,s,c,d,e,f,g,h,i,j,l,m)=>(cond (decide (b<q)) ((idx p b).bind λa=>((Tn N (c,d,e,f,g,h,i,j,l,m,a.1,a.2.1,a.2.2.1,a.2.2.2)).bind λt=>(cond (t !=0) (some (Sum.inl (b,16))) ((idx o b).bind λu=>(cond (!u) (some (Sum.inl (b,6))) ((TC N (c,d,e,f,g,h,i,j,l,m,a.1,a.2.1,a.2.2.1,a.2.2.2)).bind λv=>(cond (!v) (some (Sum.inl (b,30))) (f79.jd k (n,o,p,q,(av (b+1)),r,s,c,d,e,f,g,h,i,j,l,m))))))))) (some (Sum.inr (n,r,s,c,d,e,f,g,h,i,j,l,m))))
theorem f79.zW:∀k,f79.jd N k=lp (aah N) 0 12 (tq 79) 12 f79.tB f79.tC k|0=>rfl|k+1=>funext λ⟨a,b,c,d,e,f,g,h,i,j,l,m,n,o,p,q,r⟩=>by rw[f79.jd,f79.zW k];kernel_rfl
def aai:ah:=(aah N).aa N 0 12 f79.tB f79.tC
def f79.CM:bq:=tm [(4,.c (.ptr 0 4 0 0 0)),(11,.c (.sl (.int .u64) .d)),(13,.c (.sl (.int .u64) .d)),(14,.c (.int .i64)),(18,.c (.int .i64)),(109,.c (.sl bf .d)),(110,.c (.int .i64)),(111,.c (.int .i64)),(122,.c (.sl (.int .i64) .d)),(123,.c (.int .i64)),(124,.c (.int .i64))] [] [(0,4,.box 0 [.nil true,.nil true,.int .i64,.int .i64])] 1 [] 1
def f79.CN:bn:=[(.ret,tm [(4,.c (.ptr 0 4 0 0 0))] [] [(0,4,.box 0 [.nil true,.nil true,.int .i64,.int .i64])] 1 [] 1),(.exit 5,tm [(4,.c (.ptr 0 4 0 0 0)),(11,.c (.sl (.int .u64) .d)),(13,.c (.sl (.int .u64) .d)),(109,.c (.sl bf .d)),(110,.c (.int .i64)),(111,.c (.int .i64))] [] [(0,4,.box 0 [.nil true,.nil true,.int .i64,.int .i64])] 1 [] 1)]
def f79.ng(N:Nat):Nat->List Int×List Int×Int×Int×List Instr×Int×Int×AT->Option ((Int×Int)⊕(List Int×List Int×List Instr×AS))|0,_=>none|k+1,(d,a,b,e,f,g,h,i,j,c,l,m)=>(cond (decide (c<j)) ((idx i c).bind λn=>((cond (e !=0) (some true) ((idx a b).bind λo=>(aF (!decide (n<0)) (some ((uw .u64 (Int.fdiv o (2^min n.toNat 64)) 1)==0))))).bind λp=>(cond p (some (Sum.inl (b,38))) (f79.ng N k (d,a,b,e,f,g,h,i,j,(av (c+1)),l,m))))) (some (Sum.inr (d,a,f,g,h,l,m))))
theorem f79.JI:∀k,f79.ng N k=lp (aai N) 0 46 (tq 79) 46 f79.CM f79.CN k|0=>rfl|k+1=>funext λ⟨a,b,c,d,e,f,g,h,i,j,l,m⟩=>by rw[f79.ng,f79.JI k];kernel_rfl
def aaj:ah:=(aai N).aa N 0 46 f79.CM f79.CN
def f79.TU:bq:=tm [(4,.c (.ptr 0 4 0 0 0)),(11,.c (.sl (.int .u64) .d)),(13,.c (.sl (.int .u64) .d)),(109,.c (.sl bf .d)),(110,.c (.int .i64)),(111,.c (.int .i64))] [] [(0,4,.box 0 [.nil true,.nil true,.int .i64,.int .i64])] 1 [] 1
def f79.TV:bn:=[(.ret,tm [(4,.c (.ptr 0 4 0 0 0))] [] [(0,4,.box 0 [.nil true,.nil true,.int .i64,.int .i64])] 1 [] 1),(.exit 3,tm [(4,.c (.ptr 0 4 0 0 0)),(11,.c (.sl (.int .u64) .d)),(13,.c (.sl (.int .u64) .d))] [] [(0,4,.box 0 [.nil true,.nil true,.int .i64,.int .i64])] 1 [] 1)]
def f79.CO:Nat->List Int×List Int×List Instr×AS->Option ((Int×Int)⊕(List Int×List Int×Int×Int))|0,_=>none|k+1,(e,f,g,h,b,i,j)=>(cond (decide (b<h)) ((idx g b).bind λc=>((LZ N (c.1,c.2.1,c.2.2.1,c.2.2.2)).bind λd=>((f79.ng N N (e,f,b,d.2.2,g,h,b,d.1,(d.1.length:Int),0,i,j)).bind λm=>(match m with|.inl l=>some (Sum.inl (l.1,l.2))|.inr a=>f79.CO k (a.1,a.2.1,a.2.2.1,a.2.2.2.1,(av (a.2.2.2.2.1+1)),a.2.2.2.2.2.1,a.2.2.2.2.2.2))))) (some (Sum.inr (e,f,i,j))))
theorem f79.aak:∀k,f79.CO N k=lp (aaj N) 0 38 (tq 79) 38 f79.TU f79.TV k|0=>rfl|k+1=>funext λ⟨a,b,c,d,e,f,g⟩=>by rw[f79.CO,f79.aak k,f79.JI N N];kernel_rfl
def aq3:ah:=(aaj N).aa N 0 38 f79.TU f79.TV
def F79:bP Int->Option NJ|(n,o,e,f)=>((idx e f).bind λb=>((Tk N b.2.2.2.2.1).bind λg=>(cond (g.2!=0) (some ([],[],(-1),12)) ((cond (f==0) (cond (decide (b.2.1>0)) (some true) (some (decide (b.2.2.1>=0)))) (some false)).bind λp=>(cond p (some ([],[],(-1),30)) ((f79.jd N N (b.2.2.2.2.1,g.1,b.2.2.2.2.1,(b.2.2.2.2.1.length:Int),0,0,0,n,o,e,b.1,b.2.1,b.2.2.1,b.2.2.2.1,b.2.2.2.2.1,b.2.2.2.2.2.1,b.2.2.2.2.2.2)).bind λq=>(match q with|.inl h=>some ([],[],h.1,h.2)|.inr a=>((PA N (a.2.2.2.1,a.2.2.2.2.1,a.2.2.2.2.2.1,a.2.2.2.2.2.2.1,a.2.2.2.2.2.2.2.1,a.2.2.2.2.2.2.2.2.1,a.2.2.2.2.2.2.2.2.2.1,a.2.2.2.2.2.2.2.2.2.2.1,a.2.2.2.2.2.2.2.2.2.2.2.1,a.2.2.2.2.2.2.2.2.2.2.2.2)).bind λi=>(cond (!i.2) (some ([],[],(-1),36)) ((JH N (a.1,a.2.2.2.2.2.2.2.1,(a.2.2.2.2.2.2.2.2.2.1.length:Int))).bind λd=>(cond (d.2!=0) (some ([],[],(-1),d.2)) ((f79.CO N N (i.1,d.1,a.1,(a.1.length:Int),0,a.2.1,a.2.2.1)).bind λr=>(match r with|.inl j=>some ([],[],j.1,j.2)|.inr l=>((PC N l.1).bind λc=>(cond (c.2==0) ((PC N l.2.1).bind λm=>some (c.1,m.1,0,m.2)) (some (c.1,[],0,c.2)))))))))))))))))
def G79:ah:=(adb N).put 79 s79 (F79 N)
theorem K79:az bJ (G79 N):=(aik N).put (((((aik N).on s79).aa N 0 12 f79.tB f79.tC).aa N 0 46 f79.CM f79.CN).aa N 0 38 f79.TU f79.TV) _ _ _ (funext λ⟨a,b,c,d⟩=>by rw[F79,f79.zW N N,f79.aak N N];kernel_rfl)
def s80:bN:=sg [.c (.sl ia .bC),.c (.sl ia .bC)] [(false,[.bool])]
def aal:ah:=(G79 N).on s80
def f80.bQ:bq:=tm [(0,.c (.sl ia .bC)),(1,.c (.sl ia .bC)),(12,.c (.int .i64)),(13,.c (.int .i64))] [] [] 1 [] 0
def f80.bR:bn:=[(.ret,tm [(4,.c (.bool))] [] [] 1 [] 0),(.exit 0,tm [] [] [] 1 [] 0)]
def f80.aP(N:Nat):Nat->NJ->Option (Bool⊕Unit)|0,_=>none|k+1,(b,c,d,a)=>(cond (decide (a<d)) ((idx b a).bind λe=>((idx c a).bind λf=>(cond (!(e.1==f.1&&(e.2==f.2&&true))) (some (Sum.inl false)) (f80.aP N k (b,c,d,(av (a+1))))))) (some (Sum.inr ())))
theorem f80.cV:∀k,f80.aP N k=lp (aal N) 0 6 (tq 80) 6 f80.bQ f80.bR k|0=>rfl|k+1=>funext λ⟨a,b,c,d⟩=>by rw[f80.aP,f80.cV k];kernel_rfl
def aq5:ah:=(aal N).aa N 0 6 f80.bQ f80.bR
def F80:List eN×List eN->Option Bool|(a,b)=>(cond ((a.length:Int)!=(b.length:Int)) (some false) ((f80.aP N N (a,b,(a.length:Int),0)).bind λc=>(match c with|.inl d=>some d|.inr e=>some true)))
def G80:ah:=(G79 N).put 80 s80 (F80 N)
theorem K80:az bJ (G80 N):=(K79 N).put (((K79 N).on s80).aa N 0 6 f80.bQ f80.bR) _ _ _ (funext λ⟨a,b⟩=>by rw[F80,f80.cV N N];kernel_rfl)
def s57:bN:=⟨[.agg (aZ aY)],[(false,[.int .i64]),(false,[.int .i64]),(false,[.int .i64])],0,[(0,13,43,.bool)],[],[],[]⟩
def aan:ah:=(G80 N).on s57
def f57.ig:bq:=tm [(1,.c (.ptr 0 1 0 0 0)),(15,.c (.sl dK .d)),(16,.c (.int .i64)),(17,.c (.int .i64))] [] [(0,1,.box 0 (aZ aY))] 1 [] 1
def f57.ij:bn:=[(.ret,tm [(2,.c (.int .i64)),(3,.c (.int .i64)),(4,.c (.int .i64))] [] [] 1 [] 0),(.exit 0,tm [] [] [] 1 [] 0)]
def f57.cI:Nat->List Func×Int×Int×dc->Option ((Int×Int×Int)⊕Unit)|0,_=>none|k+1,(c,d,a,e,f,g)=>(cond (decide (a<d)) ((idx c a).bind λh=>((F79 N (e,f,g,a)).bind λb=>((cond (b.2.2.2==0) ((F80 N (b.1,h.2.2.2.2.2.1)).bind λi=>(cond (!i) (some true) ((F80 N (b.2.1,h.2.2.2.2.2.2)).bind λj=>some (!j)))) (some false)).bind λl=>(cond l (some (Sum.inl (a,(-1),32))) (cond (b.2.2.2!=0) (some (Sum.inl (a,b.2.2.1,b.2.2.2))) (f57.cI k (c,d,(av (a+1)),e,f,g))))))) (some (Sum.inr ())))
theorem f57.kW:∀k,f57.cI N k=lp (aan N) 0 7 (tq 57) 7 f57.ig f57.ij k|0=>rfl|k+1=>funext λ⟨a,b,c,d,e,f⟩=>by rw[f57.cI,f57.kW k];kernel_rfl
def aq7:ah:=(aan N).aa N 0 7 f57.ig f57.ij
def F57:dc->Option (Int×Int×Int)|(c,d,a)=>((F36 N (c,d,a)).bind λe=>(cond (e !=0) (some (0,0,e)) ((f57.cI N N (a,(a.length:Int),0,c,d,a)).bind λf=>(match f with|.inl b=>some (b.1,b.2.1,b.2.2)|.inr g=>some (0,0,0)))))
def G57:ah:=(G80 N).put 57 s57 (F57 N)
theorem K57:az bJ (G57 N):=(K80 N).put (((K80 N).on s57).aa N 0 7 f57.ig f57.ij) _ _ _ (funext λ⟨a,b,c⟩=>by rw[F57,f57.kW N N];kernel_rfl)
def s30:bN:=sg [.agg (cF aY)] [(false,[.int .i64])]
def F30:dc->Option Int|(a,b,c)=>((F57 N (a,b,c)).bind λd=>some d.2.2)
def G30:ah:=(G57 N).put 30 s30 (F30 N)
theorem K30:az bJ (G30 N):=(K57 N).put ((K57 N).on s30) _ _ _ (funext λ⟨a,b,c⟩=>by rw[F30];kernel_rfl)
def s58:bN:=⟨[.c (.int .i64),.c (.int .i64),.c (.int .i64)],[(false,[.bool])],0,[(0,1,6,.bool)],[],[],[]⟩
def Yy(N:Nat):Int×Int×Int->Option Bool|(a,b,c)=>((cond (decide (a>=b)) (some (decide (a<=c))) (some false)).bind λd=>some d)
def G58:ah:=(G30 N).put 58 s58 (Yy N)
theorem K58:az bJ (G58 N):=(K30 N).put ((K30 N).on s58) _ _ _ (funext λ⟨a,b,c⟩=>by rw[Yy];kernel_rfl)
def s60:bN:=sg [.c (.int .i64)] [(false,[.bool])]
def F60:Int->Option Bool|a=>((Yy N (a,0,65535)).bind λb=>some (!b))
def G60:ah:=(G58 N).put 60 s60 (F60 N)
theorem K60:az bJ (G60 N):=(K58 N).put ((K58 N).on s60) _ _ _ (funext λa=>by rw[F60];kernel_rfl)
def s31:bN:=⟨[.agg (cF G2)],[(false,[.int .i64])],0,[(0,2,4,.bool)],[],[],[]⟩
def aao:ah:=(G60 N).on s31
def f31.mw:bq:=tm [(0,.c (.sl (.int .i64) .bC)),(1,.fk 60 []),(7,.c (.int .i64)),(8,.c (.int .i64))] [[],[]] [] 3 [] 0
def f31.mz:bn:=[(.ret,tm [(4,.c (.int .i64))] [[],[]] [] 3 [] 0),(.exit 0,tm [] [[],[]] [] 3 [] 0)]
def f31.gN:Nat->List Int×Int×Int->Option (Int⊕Unit)|0,_=>none|k+1,(b,c,a)=>(cond (decide (a<c)) ((idx b a).bind λd=>((F60 N d).bind λe=>(cond e (some (Sum.inl a)) (f31.gN k (b,c,(av (a+1))))))) (some (Sum.inr ())))
theorem f31.qv:∀k,f31.gN N k=lp (aao N) 1036001007000 3 (tq 81) 3 f31.mw f31.mz k|0=>rfl|k+1=>funext λ⟨a,b,c⟩=>by rw[f31.gN,f31.qv k];kernel_rfl
def ark:ah:=(aao N).aa N 1036001007000 3 f31.mw f31.mz
def F31:AT->Option Int|(a,b,c,d,e)=>(((Yy N (b,1,5000)).bind λf=>(cond f ((Yy N (c,0,4096)).bind λg=>(cond g ((Yy N (d,0,16384)).bind λh=>(cond h ((Yy N (e,1,16)).bind λi=>(cond i (some (decide ((a.length:Int)<=2000))) (some false))) (some false))) (some false))) (some false))).bind λj=>(cond (!j) (some 8) ((f31.gN N N (a,(a.length:Int),0)).bind λl=>(match l with|.inl m=>(cond (decide (m>=0)) (some 8) (some 0))|.inr n=>some 0))))
def G31:ah:=(G60 N).put 31 s31 (F31 N)
theorem K31:az bJ (G31 N):=(K60 N).put (((K60 N).on s31).aa N 1036001007000 3 f31.mw f31.mz) _ _ _ (funext λ⟨a,b,c,d,e⟩=>by rw[F31,f31.qv N N];kernel_rfl)
def s54:bN:=⟨[.agg (cF aX),.c (.int .i64)],[(false,[.int .i64])],0,[(0,1,20,.bool),(0,4,26,.bool)],[],[],[]⟩
def F54(N:Nat):Int×List Int×Int->Option Int|(c,a,b)=>((cond (c !=65536) (some true) (cond ((Int.tmod (a.length:Int) 8)!=0) (some true) (some (decide ((a.length:Int)>16384))))).bind λd=>(cond d (some 8) ((cond (decide (b<0)) (some true) (some (decide (b>16384)))).bind λe=>(cond e (some 2) (some 0)))))
def G54:ah:=(G31 N).put 54 s54 (F54 N)
theorem K54:az bJ (G54 N):=(K31 N).put ((K31 N).on s54) _ _ _ (funext λ⟨a,b,c⟩=>by rw[F54];kernel_rfl)
def s25:bN:=sg [.agg (cF aX),.c (.int .i64)] [(false,[.int .i64]),(false,[.int .i64])]
def Yz:Int×List Int×Int->Option (Int×Int)|(d,a,b)=>((F54 N (d,a,b)).bind λc=>(cond (c !=0) (some (0,c)) (some ((max 0 (av ((av (Int.tdiv (av (b-(a.length:Int))) 8))*8))),0))))
def G25:ah:=(G54 N).put 25 s25 (Yz N)
theorem K25:az bJ (G25 N):=(K54 N).put ((K54 N).on s25) _ _ _ (funext λ⟨a,b,c⟩=>by rw[Yz];kernel_rfl)
def s82:bN:=sg [.c (.int .i64)] [(false,[.int .u64])]
def F82(N:Nat):Int->Option Int|a=>some (aL (16777216*(aL (av (a+1)))))
def G82:ah:=(G25 N).put 82 s82 (F82 N)
theorem K82:az bJ (G82 N):=(K25 N).put ((K25 N).on s82) _ _ _ (funext λa=>by rw[F82];kernel_rfl)
def s83:bN:=⟨[.c (.int .u64)],[(false,[.bool])],0,[(0,1,2,.bool)],[],[],[]⟩
def F83(N:Nat):Int->Option Bool|a=>((cond (decide (a>=256)) (some (decide (a<8448))) (some false)).bind λb=>some b)
def G83:ah:=(G82 N).put 83 s83 (F83 N)
theorem K83:az bJ (G83 N):=(K82 N).put ((K82 N).on s83) _ _ _ (funext λa=>by rw[F83];kernel_rfl)
def s84:bN:=⟨[.c (.int .u64)],[(false,[.bool])],0,[(0,1,2,.bool)],[],[],[]⟩
def F84(N:Nat):Int->Option Bool|a=>((cond (a==0) (some true) (cond ((Int.tmod a 8)==0) (some (decide (a>=65536))) (some false))).bind λb=>some b)
def G84:ah:=(G83 N).put 84 s84 (F84 N)
theorem K84:az bJ (G84 N):=(K83 N).put ((K83 N).on s84) _ _ _ (funext λa=>by rw[F84];kernel_rfl)
def s61:bN:=⟨[.c (.int .i64),.agg (aZ ju)],[(false,[.bool])],0,[(0,5,36,.bool),(0,8,4,.bool)],[],[],[]⟩
def F61:Int×Jv->Option Bool|(c,b,d,a,e,f,h)=>(cond (b==3) ((F82 N c).bind λi=>some (b==3&&(d==0&&(a==i&&(e==0&&(f==0&&(h==0&&true))))))) ((F82 N c).bind λg=>(((F82 N c).bind λj=>(cond (decide (a<j)) (some true) (cond (decide ((aL (a-g))<24)) (some true) (cond (decide ((aL (a-g))>4096)) (some true) (some ((Int.tmod (aL (a-g)) 8)!=0)))))).bind λl=>(cond l (some false) ((cond (b==2) ((F83 N d).bind λm=>(cond m ((F84 N e).bind λn=>(cond n ((F84 N f).bind λo=>some o) (some false))) (some false))) (cond (b==1) (cond (h==0) ((F83 N d).bind λp=>(cond p ((F84 N e).bind λq=>(cond q ((F84 N f).bind λr=>some r) (some false))) (some false))) (some false)) (some false))).bind λs=>some s)))))
def G61:ah:=(G84 N).put 61 s61 (F61 N)
theorem K61:az bJ (G61 N):=(K84 N).put ((K84 N).on s61) _ _ _ (funext λ⟨a,b,c,d,e,f,g⟩=>by rw[F61];kernel_rfl)
def s32:bN:=⟨[.c (.sl ju .bC)],[(false,[.int .i64])],0,[(0,1,12,.bool)],[],[],[]⟩
def aaq:ah:=(G61 N).on s32
def f32.bQ:bq:=tm [(13,.c (.sl ju .bC)),(14,.c (.int .i64)),(15,.c (.int .i64))] [] [] 1 [] 0
def f32.bR:bn:=[(.ret,tm [(2,.c (.int .i64))] [] [] 1 [] 0),(.exit 0,tm [] [] [] 1 [] 0)]
def f32.aP:Nat->List dY×Int×Int->Option (Int⊕Unit)|0,_=>none|k+1,(c,d,b)=>(cond (decide (b<d)) ((idx c b).bind λa=>((F61 N (b,a.1,a.2.1,a.2.2.1,a.2.2.2.1,a.2.2.2.2.1,a.2.2.2.2.2)).bind λe=>(cond (!e) (some (Sum.inl 8)) (f32.aP k (c,d,(av (b+1))))))) (some (Sum.inr ())))
theorem f32.cV:∀k,f32.aP N k=lp (aaq N) 0 6 (tq 32) 6 f32.bQ f32.bR k|0=>rfl|k+1=>funext λ⟨a,b,c⟩=>by rw[f32.aP,f32.cV k];kernel_rfl
def arG:ah:=(aaq N).aa N 0 6 f32.bQ f32.bR
def F32:List dY->Option Int|a=>((cond (decide ((a.length:Int)<1)) (some true) (some (decide ((a.length:Int)>16)))).bind λb=>(cond b (some 8) ((f32.aP N N (a,(a.length:Int),0)).bind λc=>(match c with|.inl d=>some d|.inr e=>some 0))))
def G32:ah:=(G61 N).put 32 s32 (F32 N)
theorem K32:az bJ (G32 N):=(K61 N).put (((K61 N).on s32).aa N 0 6 f32.bQ f32.bR) _ _ _ (funext λa=>by rw[F32,f32.cV N N];kernel_rfl)
def s63:bN:=sg [] [(true,(aZ aX))]
def F63(N:Nat):Unit->Option (Int×List Int)|()=>some (65536,[])
def G63:ah:=(G32 N).put 63 s63 (F63 N)
theorem K63:az bJ (G63 N):=(K32 N).put ((K32 N).on s63) _ _ _ (funext λ()=>by rw[F63];kernel_rfl)
def aiq:bN:=sg [.c (.int .i64)] [(false,[.int .i64])]
def PD(N:Nat):Int->Option Int|a=>some (max 8 (av ((av (Int.tdiv (av (a+7)) 8))*8)))
def air:ah:=(G63 N).put 113 aiq (PD N)
theorem ais:az bJ (air N):=(K63 N).put ((K63 N).on aiq) _ _ _ (funext λa=>by rw[PD];kernel_rfl)
def s27:bN:=⟨[.c (.int .u64)],[(false,[.bool])],0,[(0,1,2,.bool)],[],[],[]⟩
def F27(N:Nat):Int->Option Bool|a=>((cond (decide (a>=8)) (cond (decide (a<=1099511627776)) (some ((Int.tmod a 8)==0)) (some false)) (some false)).bind λb=>some b)
def G27:ah:=(air N).put 27 s27 (F27 N)
theorem K27:az bJ (G27 N):=(ais N).put ((ais N).on s27) _ _ _ (funext λa=>by rw[F27];kernel_rfl)
def s15:bN:=⟨[.agg (cF aX)],[(false,[.int .i64])],0,[(0,1,12,.bool)],[],[],[]⟩
def F15:Int×List Int->Option Int|(a,b)=>(((F27 N a).bind λc=>(cond (!c) (some true) (some (decide ((b.length:Int)>20000))))).bind λd=>(cond d (some 8) (some 0)))
def G15:ah:=(G27 N).put 15 s15 (F15 N)
theorem K15:az bJ (G15 N):=(K27 N).put ((K27 N).on s15) _ _ _ (funext λ⟨a,b⟩=>by rw[F15];kernel_rfl)
def ait:bN:=⟨[.agg (cF aX),.c (.int .i64)],[(true,(aZ aX)),(false,[.int .i64])],0,[(0,5,19,.bool)],[],[(0,22,(.int .u8))],[]⟩
def TX:Int×List Int×Int->Option (Int×List Int×Int)|(b,c,a)=>((F15 N (b,c)).bind λd=>(cond (d !=0) (some (0,[],d)) ((cond (decide (a<0)) (some true) (some (decide (a>20000)))).bind λe=>(cond e (some (0,[],2)) (aF (decide (0<=a)) (aF (decide (0<=a)) (aF (decide (a.toNat<=a.toNat)&&room a.toNat 1) (some (b,(BQ c (List.replicate a.toNat (0:Int))),0)))))))))
def aiu:ah:=(G15 N).put 114 ait (TX N)
theorem aiv:az bJ (aiu N):=(K15 N).put ((K15 N).on ait) _ _ _ (funext λ⟨a,b,c⟩=>by rw[TX];kernel_rfl)
def s85:bN:=⟨[.agg (cF aX),.c (.int .i64),.c (.int .i64)],[(true,(aZ aX)),(false,[.int .u64]),(false,[.int .i64])],0,[(0,5,27,.bool)],[],[],[]⟩
def F85:Int×List Int×Int×Int->Option (Int×List Int×Int×Int)|(c,a,b,f)=>((Yz N (c,a,f)).bind λd=>(cond (d.2!=0) (some (0,[],0,d.2)) ((cond (decide (b<0)) (some true) (some (decide (b>4096)))).bind λg=>(cond g (some (0,[],0,2)) ((PD N b).bind λh=>(cond (decide (h>d.1)) (some (0,[],0,18)) ((PD N b).bind λi=>((TX N (c,a,(av ((a.length:Int)+i)))).bind λe=>some (e.1,e.2.1,(aL (c+(aL (a.length:Int)))),e.2.2)))))))))
def G85:ah:=(aiu N).put 85 s85 (F85 N)
theorem K85:az bJ (G85 N):=(aiv N).put ((aiv N).on s85) _ _ _ (funext λ⟨a,b,c,d⟩=>by rw[F85];kernel_rfl)
def s77:bN:=⟨[.agg (cF aX),.c (.int .u64),.c (.int .i64)],[(false,[.int .i64]),(false,[.bool])],0,[(0,1,23,.bool)],[],[],[]⟩
def F77(N:Nat):Int×List Int×Int×Int->Option (Int×Bool)|(a,c,b,d)=>((cond (decide (b<a)) (some true) (some (decide ((aL (b-a))>(aL (c.length:Int)))))).bind λe=>(cond e (some (0,false)) (some ((av (aL (b-a))),(decide (d<=(av ((c.length:Int)-(av (aL (b-a)))))))))))
def G77:ah:=(G85 N).put 77 s77 (F77 N)
theorem K77:az bJ (G77 N):=(K85 N).put ((K85 N).on s77) _ _ _ (funext λ⟨a,b,c,d⟩=>by rw[F77];kernel_rfl)
def s55:bN:=sg [.agg (cF aX),.c (.int .u64),.c (.int .i64)] [(false,[.bool]),(false,[.int .i64])]
def F55:Int×List Int×Int×Int->Option (Bool×Int)|(a,b,e,c)=>((F15 N (a,b)).bind λd=>(cond (d !=0) (some (false,d)) (cond (decide (c<0)) (some (false,2)) ((F77 N (a,b,e,c)).bind λf=>some (f.2,0)))))
def G55:ah:=(G77 N).put 55 s55 (F55 N)
theorem K55:az bJ (G55 N):=(K77 N).put ((K77 N).on s55) _ _ _ (funext λ⟨a,b,c,d⟩=>by rw[F55];kernel_rfl)
def s86:bN:=sg [.agg (cF aX),.c (.int .u64),.c (.sl (.int .u8) .bC)] [(true,(aZ aX)),(false,[.int .i64])]
def F86:Int×List Int×Int×List Int->Option (Int×List Int×Int)|(d,a,f,c)=>((F55 N (d,a,f,(c.length:Int))).bind λe=>(cond (e.2!=0) (some (0,[],e.2)) (cond (!e.1) (some (0,[],16)) ((F77 N (d,a,f,(c.length:Int))).bind λb=>(aF (room a.length 1) (aF (decide (0<=b.1)) (aF (decide (b.1.toNat<=a.length)) (aF (decide (b.1.toNat+(a.length-b.1.toNat)<=a.length)) (some (d,(a.take b.1.toNat++(c.take (min c.length (a.length-b.1.toNat))++a.drop (b.1.toNat+(c.take (min c.length (a.length-b.1.toNat))).length))),0))))))))))
def G86:ah:=(G55 N).put 86 s86 (F86 N)
theorem K86:az bJ (G86 N):=(K55 N).put ((K55 N).on s86) _ _ _ (funext λ⟨a,b,c,d⟩=>by rw[F86];kernel_rfl)
def s64:bN:=sg [.agg (cF aX),.c (.sl (.int .u8) .bC),.c (.int .i64)] [(true,(aZ aX)),(false,[.int .u64]),(false,[.int .i64])]
def F64:Int×List Int×List Int×Int->Option (Int×List Int×Int×Int)|(d,e,c,f)=>((F85 N (d,e,(c.length:Int),f)).bind λa=>(cond (a.2.2.2!=0) (some (0,[],0,a.2.2.2)) ((F86 N (a.1,a.2.1,a.2.2.1,c)).bind λb=>some (b.1,b.2.1,a.2.2.1,b.2.2))))
def G64:ah:=(G86 N).put 64 s64 (F64 N)
theorem K64:az bJ (G64 N):=(K86 N).put ((K86 N).on s64) _ _ _ (funext λ⟨a,b,c,d⟩=>by rw[F64];kernel_rfl)
def s33:bN:=⟨[.c (.sl .str .bC),.c (.int .i64)],[(true,(aZ aX)),(false,[.sl (.int .u64) .d]),(false,[.int .i64])],0,[],[],[(0,61,(.int .u64))],[]⟩
def aas:ah:=(G64 N).on s33
def f33.tD:bq:=tm [(0,.c (.sl .str .bC)),(1,.c (.int .i64)),(4,.c (.ptr 0 4 0 0 0)),(5,.c (.ptr 0 5 1 0 0)),(6,.c (.ptr 0 6 2 0 0)),(12,.fk 62 [.ptr 0 6 2 0 0,.ptr 0 4 0 0 0,.ptr 0 5 1 0 0]),(27,.c (.sl .str .bC)),(28,.c (.int .i64)),(29,.c (.int .i64))] [] [(0,4,.box 0 (aZ aX)),(0,5,.box 1 [.nil true]),(0,6,.box 2 [.int .i64])] 1 [] 3
def f33.tE:bn:=[(.exit 1099511627776,tm [(4,.c (.ptr 0 4 0 0 0)),(5,.c (.ptr 0 5 1 0 0)),(6,.c (.ptr 0 6 2 0 0)),(12,.fk 62 [.ptr 0 6 2 0 0,.ptr 0 4 0 0 0,.ptr 0 5 1 0 0])] [] [(0,4,.box 0 (aZ aX)),(0,5,.box 1 [.nil true]),(0,6,.box 2 [.int .i64])] 1 [] 3),(.exit 0,tm [(0,.c (.sl .str .bC)),(1,.c (.int .i64)),(4,.c (.ptr 0 4 0 0 0)),(5,.c (.ptr 0 5 1 0 0)),(6,.c (.ptr 0 6 2 0 0)),(12,.fk 62 [.ptr 0 6 2 0 0,.ptr 0 4 0 0 0,.ptr 0 5 1 0 0])] [] [(0,4,.box 0 (aZ aX)),(0,5,.box 1 [.nil true]),(0,6,.box 2 [.int .i64])] 1 [] 3)]
def f33.gw(N:Nat):Nat->List (List UInt8)×Int×List (List UInt8)×Int×Int×Int×List Int×Int->Option ((Int×List Int×Int)⊕(List (List UInt8)×Int×Int×List Int×Int))|0,_=>none|k+1,(d,e,f,g,a,b,c,h)=>(cond (decide (a<g)) ((idx f a).bind λi=>(cond (decide ((i.length:Int)>64)) (some (Sum.inl (b,c,2))) (f33.gw N k (d,e,f,g,(av (a+1)),b,c,h)))) (some (Sum.inr (d,e,b,c,h))))
theorem f33.zX:∀k,f33.gw N k=lp (aas N) 0 13 (tq 33) 13 f33.tD f33.tE k|0=>rfl|k+1=>funext λ⟨a,b,c,d,e,f,g,h⟩=>by rw[f33.gw,f33.zX k];kernel_rfl
def aat:ah:=(aas N).aa N 0 13 f33.tD f33.tE
def f33.TY:bq:=tm [(1,.c (.int .i64)),(4,.c (.ptr 0 4 0 0 0)),(5,.c (.ptr 0 5 1 0 0)),(6,.c (.ptr 0 6 2 0 0)),(12,.fk 62 [.ptr 0 6 2 0 0,.ptr 0 4 0 0 0,.ptr 0 5 1 0 0]),(39,.c (.sl .str .bC)),(40,.c (.int .i64)),(41,.c (.int .i64))] [] [(0,4,.box 0 (aZ aX)),(0,5,.box 1 [.sl (.int .u64) (.app 3)]),(0,6,.box 2 [.int .i64])] 1 [3] 4
def f33.TZ:bn:=[(.exit 1099511627776,tm [(4,.c (.ptr 0 4 0 0 0)),(5,.c (.ptr 0 5 1 0 0)),(6,.c (.ptr 0 6 2 0 0)),(12,.fk 62 [.ptr 0 6 2 0 0,.ptr 0 4 0 0 0,.ptr 0 5 1 0 0])] [] [(0,4,.box 0 (aZ aX)),(0,5,.box 1 [.sl (.int .u64) (.app 3)]),(0,6,.box 2 [.int .i64])] 1 [3] 4),(.exit 2,tm [(4,.c (.ptr 0 4 0 0 0)),(5,.c (.ptr 0 5 1 0 0)),(6,.c (.ptr 0 6 2 0 0)),(12,.fk 62 [.ptr 0 6 2 0 0,.ptr 0 4 0 0 0,.ptr 0 5 1 0 0])] [] [(0,4,.box 0 (aZ aX)),(0,5,.box 1 [.sl (.int .u64) (.app 3)]),(0,6,.box 2 [.int .i64])] 1 [3] 4)]
def f33.wW:Nat->Int×List (List UInt8)×Int×Int×Int×List Int×List Int×Int->Option ((Int×List Int×List Int×Int)⊕(Int×List Int×List Int×Int))|0,_=>none|k+1,(d,e,f,c,g,h,b,i)=>(cond (decide (c<f)) ((idx e c).bind λj=>((F64 N (g,h,(bK j),d)).bind λa=>(cond (a.2.2.2!=0) (some (Sum.inl (a.1,a.2.1,b,a.2.2.2))) (aF (room (b.length+1) 8) (f33.wW k (d,e,f,(av (c+1)),a.1,a.2.1,(b++[a.2.2.1]),a.2.2.2)))))) (some (Sum.inr (g,h,b,i))))
theorem f33.aau:∀k,f33.wW N k=lp (aat N) 0 24 (tq 33) 24 f33.TY f33.TZ k|0=>rfl|k+1=>funext λ⟨a,b,c,d,e,f,g,h⟩=>by rw[f33.wW,f33.aau k];kernel_rfl
def ar6:ah:=(aat N).aa N 0 24 f33.TY f33.TZ
def F33:List (List UInt8)×Int->Option (Int×List Int×List Int×Int)|(f,h)=>((F63 N ()).bind λa=>((F54 N (a.1,a.2,h)).bind λd=>(cond (d !=0) (cond (d !=0) (some (0,[],[],d)) (some (a.1,a.2,[],d))) (cond (decide ((f.length:Int)>32)) (some (0,[],[],4)) ((f33.gw N N (f,h,f,(f.length:Int),0,a.1,a.2,d)).bind λi=>(match i with|.inl e=>(cond (e.2.2!=0) (some (0,[],[],e.2.2)) (some (e.1,e.2.1,[],e.2.2)))|.inr b=>((f33.wW N N (b.2.1,b.1,(b.1.length:Int),0,b.2.2.1,b.2.2.2.1,[],b.2.2.2.2)).bind λj=>(match j with|.inl c=>(cond (c.2.2.2!=0) (some (0,[],[],c.2.2.2)) (some (c.1,c.2.1,c.2.2.1,c.2.2.2)))|.inr g=>some (g.1,g.2.1,g.2.2.1,0)))))))))
def G33:ah:=(G64 N).put 33 s33 (F33 N)
theorem K33:az bJ (G33 N):=(K64 N).put ((((K64 N).on s33).aa N 0 13 f33.tD f33.tE).aa N 0 24 f33.TY f33.TZ) _ _ _ (funext λ⟨a,b⟩=>by rw[F33,f33.zX N N,f33.aau N N];kernel_rfl)
def s65:bN:=sg [.c (.sl (.int .u8) .bC),.c (.sl (.int .u8) .bC)] [(false,[.bool])]
def F65(N:Nat):List Int×List Int->Option Bool|(a,b)=>some ((a.map λ(n:Int)=>UInt8.ofNat n.toNat)==(b.map λ(n:Int)=>UInt8.ofNat n.toNat))
def G65:ah:=(G33 N).put 65 s65 (F65 N)
theorem K65:az bJ (G65 N):=(K33 N).put ((K33 N).on s65) _ _ _ (funext λ⟨a,b⟩=>by rw[F65];kernel_rfl)
def s34:bN:=⟨[.c (.sl (.int .u8) .bC),.c (.sl (.int .u8) .bC)],[(false,[.bool])],0,[(0,1,4,.bool)],[],[],[]⟩
def F34:List Int×List Int->Option Bool|(b,a)=>((cond (decide ((b.length:Int)>=(a.length:Int))) (aF (decide (0<=(a.length:Int))) (aF (decide ((Int.toNat (a.length:Int))<=b.length)) ((F65 N ((b.take (Int.toNat (a.length:Int))),a)).bind λc=>some c))) (some false)).bind λd=>some d)
def G34:ah:=(G65 N).put 34 s34 (F34 N)
theorem K34:az bJ (G34 N):=(K65 N).put ((K65 N).on s34) _ _ _ (funext λ⟨a,b⟩=>by rw[F34];kernel_rfl)
def s35:bN:=⟨[.agg (cF aX)],[(false,[.int .i64])],0,[(0,2,31,.bool)],[],[],[]⟩
def F35(N:Nat):Int×List Int->Option Int|(a,b)=>((cond ((Int.tmod a 16777216)!=0) (some true) (cond (decide ((aL (Int.tdiv a 16777216))<1)) (some true) (cond (decide ((aL (Int.tdiv a 16777216))>16)) (some true) (cond ((Int.tmod (b.length:Int) 8)!=0) (some true) (some (decide ((b.length:Int)>4096))))))).bind λc=>(cond c (some 8) (some 0)))
def G35:ah:=(G34 N).put 35 s35 (F35 N)
theorem K35:az bJ (G35 N):=(K34 N).put ((K34 N).on s35) _ _ _ (funext λ⟨a,b⟩=>by rw[F35];kernel_rfl)
def s37:bN:=⟨[.agg (cF aY),.c (.int .u64)],[(false,[.int .i64]),(false,[.int .i64]),(false,[.int .i64])],0,[(0,6,40,.bool)],[],[],[]⟩
def F37:bP Int->Option (Int×Int×Int)|(d,e,b,a)=>((F36 N (d,e,b)).bind λc=>(cond (c !=0) (some (0,0,c)) ((cond ((Int.fdiv a 256)==0) (some true) (cond (decide ((Int.fdiv a 256)>(aL (b.length:Int)))) (some true) ((idx b (aL ((Int.fdiv a 256)-1))).bind λf=>some (decide ((av (uw .u64 a 255))>=(f.2.2.2.2.1.length:Int)))))).bind λg=>(cond g (some (0,0,6)) (some ((av ((av (Int.fdiv a 256))-1)),(av (uw .u64 a 255)),0))))))
def G37:ah:=(G35 N).put 37 s37 (F37 N)
theorem K37:az bJ (G37 N):=(K35 N).put ((K35 N).on s37) _ _ _ (funext λ⟨a,b,c,d⟩=>by rw[F37];kernel_rfl)
def s92:bN:=⟨[.c (.sl bI .bC),.c (.sl cS .bC)],[(false,[.sl (.int .i64) .d]),(false,[.int .i64]),(false,[.int .i64]),(false,[.int .i64])],0,[(0,16,40,.bool)],[],[],[]⟩
def aav:ah:=(G37 N).on s92
def f92.oD:bq:=tm [(0,.c (.sl bI .bC)),(1,.c (.sl cS .bC)),(9,.c (.sl eH .d)),(25,.c (.sl cS .bC)),(26,.c (.int .i64)),(27,.c (.int .i64))] [] [] 1 [] 0
def f92.oE:bn:=[(.ret,tm [(4,.c (.nil true)),(5,.c (.int .i64)),(6,.c (.int .i64)),(7,.c (.int .i64))] [] [] 1 [] 0),(.exit 0,tm [(1,.c (.sl cS .bC)),(9,.c (.sl eH .d))] [] [] 1 [] 0)]
def f92.eE(N:Nat):Nat->List aA×List Field×List oB×List Field×Int×Int->Option ((Int×Int×Int)⊕(List Field×List oB))|0,_=>none|k+1,(b,c,d,e,f,a)=>(cond (decide (a<f)) ((idx e a).bind λg=>((cond (decide (g.2<0)) (some true) (some (decide (g.2>=(b.length:Int))))).bind λh=>(cond h (some (Sum.inl (0,0,2))) (f92.eE N k (b,c,d,e,f,(av (a+1))))))) (some (Sum.inr (c,d))))
theorem f92.td:∀k,f92.eE N k=lp (aav N) 0 11 (tq 92) 11 f92.oD f92.oE k|0=>rfl|k+1=>funext λ⟨a,b,c,d,e,f⟩=>by rw[f92.eE,f92.td k];kernel_rfl
def aaw:ah:=(aav N).aa N 0 11 f92.oD f92.oE
def f92.T0:bq:=tm [(1,.c (.sl cS .bC)),(9,.c (.sl eH .d)),(42,.c (.sl cS .bC)),(43,.c (.int .i64)),(44,.c (.int .i64))] [] [] 1 [] 0
def f92.T1:bn:=[(.ret,tm [(4,.c (.nil true)),(5,.c (.int .i64)),(6,.c (.int .i64)),(7,.c (.int .i64))] [] [] 1 [] 0),(.exit 2,tm [(1,.c (.sl cS .bC)),(9,.c (.sl eH .d))] [] [] 1 [] 0)]
def f92.zY(N:Nat):Nat->List Field×List oB×List Field×Int×Int->Option ((Int×Int×Int)⊕(List Field×List oB))|0,_=>none|k+1,(c,a,d,e,b)=>(cond (decide (b<e)) ((idx d b).bind λf=>((idx a f.2).bind λg=>(cond (decide (g.1>256)) (some (Sum.inl (0,0,16))) (f92.zY N k (c,a,d,e,(av (b+1))))))) (some (Sum.inr (c,a))))
theorem f92.aax:∀k,f92.zY N k=lp (aaw N) 0 22 (tq 92) 22 f92.T0 f92.T1 k|0=>rfl|k+1=>funext λ⟨a,b,c,d,e⟩=>by rw[f92.zY,f92.aax k];kernel_rfl
def asl:ah:=(aaw N).aa N 0 22 f92.T0 f92.T1
def F92:List aA×List Field->Option (List Int×Int×Int×Int)|(c,a)=>((LV N c).bind λg=>(cond (g !=0) (some ([],0,0,g)) (cond (decide ((a.length:Int)>16)) (some ([],0,0,4)) ((Pu N c).bind λi=>((f92.eE N N (c,a,i,a,(a.length:Int),0)).bind λj=>(match j with|.inl d=>some ([],d.1,d.2.1,d.2.2)|.inr b=>((f92.zY N N (b.1,b.2,b.1,(b.1.length:Int),0)).bind λl=>(match l with|.inl e=>some ([],e.1,e.2.1,e.2.2)|.inr h=>((LW N (h.2,h.1)).bind λf=>some (f.1,f.2.1,f.2.2,0))))))))))
def G92:ah:=(G37 N).put 92 s92 (F92 N)
theorem K92:az bJ (G92 N):=(K37 N).put ((((K37 N).on s92).aa N 0 11 f92.oD f92.oE).aa N 0 22 f92.T0 f92.T1) _ _ _ (funext λ⟨a,b⟩=>by rw[F92,f92.td N N,f92.aax N N];kernel_rfl)
def s67:bN:=sg [.agg (cF aY),.c (.int .i64)] [(false,[.sl (.int .i64) .d]),(false,[.int .i64])]
def F67:bP Int->Option (List Int×Int)|(b,g,c,d)=>((idx c d).bind λe=>((F92 N (b,e.2.2.2.1)).bind λa=>((F93 N a.2.1).bind λf=>some (a.1,f.1))))
def G67:ah:=(G92 N).put 67 s67 (F67 N)
theorem K67:az bJ (G67 N):=(K92 N).put ((K92 N).on s67) _ _ _ (funext λ⟨a,b,c,d⟩=>by rw[F67];kernel_rfl)
def s68:bN:=⟨[.c (.sl ia .bC),.c (.int .i64),.c (.int .i64)],[(false,[.int .u64]),(false,[.int .i64])],0,[(0,5,22,.bool)],[],[],[]⟩
def aay:ah:=(G67 N).on s68
def f68.vp:bq:=tm [(1,.fk 96 [.ptr 0 3 0 0 0,.ptr 0 5 1 0 0]),(5,.c (.int .i64)),(6,.c (.int .i64))] [[(3,.c (.ptr 0 3 0 0 0))]] [(0,3,.box 0 [.sl ia .bC]),(0,5,.box 1 [.int .i64])] 2 [] 2
def f68.vq:bn:=[(.exit 0,tm [(5,.c (.int .i64))] [[(3,.c (.ptr 0 3 0 0 0))]] [(0,3,.box 0 [.sl ia .bC])] 2 [] 1)]
def f68.jA(N:Nat):Nat->Int×Int×List eN×Int->Option ((Int×List eN))|0,_=>none|k+1,(a,b,c,d)=>(cond (decide (a<b)) ((idx c (av (Int.fdiv (aL (av (a+b))) 2))).bind λe=>(cond (!(decide (e.1>d))) (f68.jA N k ((av ((av (Int.fdiv (aL (av (a+b))) 2))+1)),b,c,d)) (f68.jA N k (a,(av (Int.fdiv (aL (av (a+b))) 2)),c,d)))) (some (a,c)))
theorem f68.CP:∀k,f68.jA N k=lp (aay N) 1026000 3 (tq 95) 3 f68.vp f68.vq k|0=>rfl|k+1=>funext λ⟨a,b,c,d⟩=>by rw[f68.jA,f68.CP k];kernel_rfl
def asr:ah:=(aay N).aa N 1026000 3 f68.vp f68.vq
def F68:List eN×Int×Int->Option (Int×Int)|(a,c,b)=>((Z3 N (a,c)).bind λd=>(cond (d !=0) (some (0,d)) ((cond (decide (b<0)) (some true) (some (decide (b>=c)))).bind λf=>(cond f (some (0,2)) ((f68.jA N N (0,(a.length:Int),a,b)).bind λe=>((idx e.2 (av (e.1-1))).bind λg=>some (g.2,0)))))))
def G68:ah:=(G67 N).put 68 s68 (F68 N)
theorem K68:az bJ (G68 N):=(K67 N).put (((K67 N).on s68).aa N 1026000 3 f68.vp f68.vq) _ _ _ (funext λ⟨a,b,c⟩=>by rw[F68,f68.CP N N];kernel_rfl)
def s38:bN:=⟨[.agg (cF aY),.c (.int .u64)],[(false,[.int .i64]),(false,[.int .i64])],0,[(0,7,56,.bool)],[],[],[]⟩
def F38:bP Int->Option (Int×Int)|(d,e,b,g)=>((F37 N (d,e,b,g)).bind λa=>(cond (a.2.2!=0) (some (0,a.2.2)) ((F67 N (d,e,b,a.1)).bind λf=>((idx b a.1).bind λh=>((idx b a.1).bind λi=>((F68 N (h.2.2.2.2.2.1,(i.2.2.2.2.1.length:Int),a.2.1)).bind λc=>((cond (decide (c.1>4096)) (some true) (some (decide ((av ((av (24+f.2))+(av c.1)))>4096)))).bind λj=>(cond j (some (0,16)) (some ((av ((av (24+f.2))+(av c.1))),0))))))))))
def G38:ah:=(G68 N).put 38 s38 (F38 N)
theorem K38:az bJ (G38 N):=(K68 N).put ((K68 N).on s38) _ _ _ (funext λ⟨a,b,c,d⟩=>by rw[F38];kernel_rfl)
def s78:bN:=⟨[.agg (cF aX),.c (.int .u64),.c (.int .i64)],[(false,[.int .i64]),(false,[.int .i64])],0,[(0,5,21,.bool)],[],[],[]⟩
def F78:Int×List Int×Int×Int->Option (Int×Int)|(b,c,f,a)=>((F15 N (b,c)).bind λd=>(cond (d !=0) (some (0,d)) ((cond (a !=1) (some (a !=8)) (some false)).bind λg=>(cond g (some (0,2)) ((F77 N (b,c,f,a)).bind λe=>(cond (!e.2) (some (0,16)) (some (e.1,0))))))))
def G78:ah:=(G38 N).put 78 s78 (F78 N)
theorem K78:az bJ (G78 N):=(K38 N).put ((K38 N).on s78) _ _ _ (funext λ⟨a,b,c,d⟩=>by rw[F78];kernel_rfl)
def s56:bN:=sg [.agg (cF aX),.c (.int .u64),.c (.int .i64)] [(false,[.int .u64]),(false,[.int .i64])]
def aaz:ah:=(G78 N).on s56
def f56.CK:bq:=tm [(3,.c (.ptr 0 3 0 0 0)),(8,.c (.int .i64)),(10,.c (.int .u64)),(11,.c (.int .i64))] [] [(0,3,.box 0 (cF aX))] 1 [] 1
def f56.CL:bn:=[(.exit 0,tm [(10,.c (.int .u64))] [] [] 1 [] 0)]
def f56.mq(N:Nat):Nat->Int×Int×Int×Int×List Int->Option Int|0,_=>none|k+1,(b,c,a,e,d)=>(cond (decide (a>=0)) ((idx d (av (b+a))).bind λf=>f56.mq N k (b,(Ct .u64 (aL (c*256)) (aL f)),(av (a-1)),e,d)) (some c))
theorem f56.TT:∀k,f56.mq N k=lp (aaz N) 0 8 (tq 56) 8 f56.CK f56.CL k|0=>rfl|k+1=>funext λ⟨a,b,c,d,e⟩=>by rw[f56.mq,f56.TT k];kernel_rfl
def asz:ah:=(aaz N).aa N 0 8 f56.CK f56.CL
def QU:Int×List Int×Int×Int->Option (Int×Int)|(b,c,e,d)=>((F78 N (b,c,e,d)).bind λa=>(cond (a.2!=0) (some (0,a.2)) ((f56.mq N N (a.1,0,(av (d-1)),b,c)).bind λf=>some (f,0))))
def G56:ah:=(G78 N).put 56 s56 (QU N)
theorem K56:az bJ (G56 N):=(K78 N).put (((K78 N).on s56).aa N 0 8 f56.CK f56.CL) _ _ _ (funext λ⟨a,b,c,d⟩=>by rw[QU,f56.TT N N];kernel_rfl)
def s69:bN:=⟨[.c (.int .u64),.c (.int .u64)],[(false,[.bool])],0,[(0,1,4,.bool)],[],[],[]⟩
def F69(N:Nat):Int×Int->Option Bool|(a,b)=>((cond (decide (a<=3)) (some ((b !=0)==(decide (a>=2)))) (some false)).bind λc=>some c)
def G69:ah:=(G56 N).put 69 s69 (F69 N)
theorem K69:az bJ (G69 N):=(K56 N).put ((K56 N).on s69) _ _ _ (funext λ⟨a,b⟩=>by rw[F69];kernel_rfl)
end
end Go.Proofs.YtkdilffhbejjaaaGreat
