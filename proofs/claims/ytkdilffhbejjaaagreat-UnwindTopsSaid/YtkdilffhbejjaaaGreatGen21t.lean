/- What the functions compute. -/
import Derived.Test.YtkdilffhbejjaaaGreatGen21tA
set_option linter.unusedSimpArgs false
namespace Go.Proofs.YtkdilffhbejjaaaGreat
set_option linter.unusedVariables false
open Go Go.bM Go.Sym
noncomputable section
variable(N:Nat)
def s39:bN:=⟨[.agg (cF aX),.c (.int .u64)],[(false,[.int .u64]),(false,[.int .u64]),(false,[.int .u64]),(false,[.int .i64])],0,[(0,6,28,.bool)],[],[],[]⟩
def F39:Int×List Int×Int->Option (Int×Int×Int×Int)|(a,b,c)=>((F35 N (a,b)).bind λd=>(cond (d !=0) (some (0,0,0,d)) ((F55 N (a,b,c,24)).bind λg=>((cond (!g.1) (some true) (some ((Int.tmod c 8)!=0))).bind λh=>(cond h (some (0,0,0,16)) ((QU N (a,b,c,8)).bind λi=>((QU N (a,b,(aL (c+8)),8)).bind λe=>((QU N (a,b,(aL (c+16)),8)).bind λf=>((F69 N (e.1,f.1)).bind λj=>(cond (!j) (some (0,0,0,12)) (some (i.1,e.1,f.1,0))))))))))))
def G39:ah:=(G69 N).put 39 s39 (F39 N)
theorem K39:az bJ (G39 N):=(K69 N).put ((K69 N).on s39) _ _ _ (funext λ⟨a,b,c⟩=>by rw[F39];kernel_rfl)
def s19:bN:=⟨[.agg (cF aX),.agg (cF aY),.c (.int .u64)],[(false,[.sl uH .d]),(false,[.int .i64])],0,[(0,19,58,.bool),(0,25,96,.bool),(0,33,11,(.int .i64))],[],[(0,106,uH)],[]⟩
def aaA:ah:=(G39 N).on s19
def f19.tB:bq:=tm [(2,.c (.int .u64)),(3,.c (.ptr 0 3 0 0 0)),(4,.c (.ptr 0 4 1 0 0)),(10,.c (.int .u64)),(11,.c (.int .i64)),(12,.c (.sl uH (.app 2)))] [] [(0,3,.box 0 (cF aX)),(0,4,.box 1 (cF aY))] 1 [2] 3
def f19.tC:bn:=[(.ret,tm [(6,.c (.sl uH (.app 0))),(7,.c (.int .i64))] [] [] 1 [0] 1)]
def f19.jd:Nat->Int×Int×Int×List Ju×Int×List Int×dc->Option ((List Ju×Int))|0,_=>none|k+1,(j,c,l,f,e,m,g,h,i)=>((F37 N (g,h,i,j)).bind λd=>(cond (d.2.2!=0) (some ([],d.2.2)) ((F38 N (g,h,i,j)).bind λb=>((cond (b.2!=0) (some true) (some (decide ((aL b.1)>c)))).bind λn=>(cond n (some ([],16)) ((F39 N (e,m,(aL (e+(aL (c-(aL b.1))))))).bind λa=>((cond (a.2.2.2!=0) (some true) (cond (!((a.1==0)==((aL (c-(aL b.1)))==0))) (some true) (cond (a.2.1==0) (cond (a.1!=0) (some ((Int.tmod a.1 256)==0)) (some false)) (some false)))).bind λo=>(cond o (some ([],12)) (aF (room (f.length+1) 40) (cond (a.1!=0) ((cond (a.2.1==0) (some 1) (some 0)).bind λp=>f19.jd k (a.1,(aL (c-(aL b.1))),p,(f++[((aL (e+(aL (c-(aL b.1))))),d.1,(av (d.2.1-l)),a.2.1,a.2.2.1)]),e,m,g,h,i)) (some ((f++[((aL (e+(aL (c-(aL b.1))))),d.1,(av (d.2.1-l)),a.2.1,a.2.2.1)]),0))))))))))))
theorem f19.zW:∀k,f19.jd N k=lp (aaA N) 0 12 (tq 19) 12 f19.tB f19.tC k|0=>rfl|k+1=>funext λ⟨a,b,c,d,e,f,g,h,i⟩=>by rw[f19.jd,f19.zW k];kernel_rfl
def asH:ah:=(aaA N).aa N 0 12 f19.tB f19.tC
def QV:Int×List Int×bP Int->Option (List Ju×Int)|(b,a,c,d,e,i)=>((F35 N (b,a)).bind λf=>(cond (f !=0) (some ([],f)) ((F36 N (c,d,e)).bind λg=>(cond (g !=0) (some ([],g)) ((f19.jd N N (i,(aL (a.length:Int)),0,[],b,a,c,d,e)).bind λh=>some (h.1,h.2))))))
def G19:ah:=(G39 N).put 19 s19 (QV N)
theorem K19:az bJ (G19 N):=(K39 N).put (((K39 N).on s19).aa N 0 12 f19.tB f19.tC) _ _ _ (funext λ⟨a,b,c,d,e,f⟩=>by rw[QV,f19.zW N N];kernel_rfl)
def s18:bN:=⟨[.agg (cF eV)],[(false,[.int .i64])],0,[(0,5,54,.bool),(0,8,76,.bool),(0,12,98,.bool),(0,23,146,.bool)],[],[],[]⟩
def aaB:ah:=(G19 N).on s18
def f18.jv:bq:=tm [(1,.c (.ptr 0 1 0 0 0)),(100,.c (.sl aX .bC)),(101,.c (.int .i64)),(102,.c (.int .i64))] [] [(0,1,.box 0 (cF eV))] 1 [] 1
def f18.jw:bn:=[(.ret,tm [(2,.c (.int .i64))] [] [] 1 [] 0),(.exit 0,tm [] [] [] 1 [] 0)]
def f18.cQ:Nat->List Region×Int×Int×mZ->Option (Int⊕Unit)|0,_=>none|k+1,(c,d,b,e,f,g,l,h,m,n,o,p,q,i,r)=>(cond (decide (b<d)) ((idx c b).bind λa=>((idx i b).bind λj=>((cond (a.1!=(aL (16777216*(aL (av (b+1)))))) (some true) (cond ((aL (a.1+(aL (a.2.length:Int))))!=j.2.2.1) (some true) (cond (decide ((a.2.length:Int)>h)) (some true) (some ((Int.tmod (a.2.length:Int) 8)!=0))))).bind λs=>(cond s (some (Sum.inl 8)) (cond (j.1==3) (f18.cQ k (c,d,(av (b+1)),e,f,g,l,h,m,n,o,p,q,i,r)) ((QV N (a.1,a.2,e,f,g,j.2.1)).bind λt=>(cond (t.2!=0) (some (Sum.inl 8)) (f18.cQ k (c,d,(av (b+1)),e,f,g,l,h,m,n,o,p,q,i,r))))))))) (some (Sum.inr ())))
theorem f18.nc:∀k,f18.cQ N k=lp (aaB N) 0 17 (tq 18) 17 f18.jv f18.jw k|0=>rfl|k+1=>funext λ⟨a,b,c,d,e,f,g,h,i,j,l,m,n,o,p⟩=>by rw[f18.cQ,f18.nc k];kernel_rfl
def asJ:ah:=(aaB N).aa N 0 17 f18.jv f18.jw
def F18:mZ->Option Int|(i,e,j,f,l,a,g,m,b,c,d,h)=>((F30 N (i,e,j)).bind λo=>(cond (o !=0) (some 8) ((F31 N ([],f,l,a,g)).bind λp=>(cond (p !=0) (some 8) (cond (decide (h<0)) (some 8) (cond (decide (h>f)) (some 8) ((Yz N (m,b,0)).bind λq=>((cond (q.2!=0) (some true) (some (decide ((b.length:Int)>a)))).bind λr=>(cond r (some 8) (((F32 N d).bind λs=>(cond (s !=0) (some true) (cond (decide ((d.length:Int)>g)) (some true) (some ((c.length:Int)!=(d.length:Int)))))).bind λt=>(cond t (some 8) ((F33 N (e,a)).bind λn=>((cond (n.2.2.2!=0) (some true) ((F34 N (b,n.2.1)).bind λu=>some (!u))).bind λv=>(cond v (some 8) ((f18.cQ N N (c,(c.length:Int),0,i,e,j,f,l,a,g,m,b,c,d,h)).bind λw=>(match w with|.inl x=>some x|.inr y=>some 0))))))))))))))))
def G18:ah:=(G19 N).put 18 s18 (F18 N)
theorem K18:az bJ (G18 N):=(K19 N).put (((K19 N).on s18).aa N 0 17 f18.jv f18.jw) _ _ _ (funext λ⟨a,b,c,d,e,f,g,h,i,j,l,m⟩=>by rw[F18,f18.nc N N];kernel_rfl)
def s10:bN:=⟨[.agg (cF eV),.c (.int .i64)],[(false,[.int .i64])],0,[(0,5,28,.bool)],[],[],[]⟩
def F10:oC Int->Option Int|(d,e,f,g,h,i,j,l,m,n,a,o,b)=>((F18 N (d,e,f,g,h,i,j,l,m,n,a,o)).bind λc=>(cond (c !=0) (some c) ((cond (decide (b<0)) (some true) (cond (decide (b>=(a.length:Int))) (some true) ((idx a b).bind λp=>some (p.1==3)))).bind λq=>(cond q (some 2) (some 0)))))
def G10:ah:=(G18 N).put 10 s10 (F10 N)
theorem K10:az bJ (G10 N):=(K18 N).put ((K18 N).on s10) _ _ _ (funext λ⟨a,b,c,d,e,f,g,h,i,j,l,m,n⟩=>by rw[F10];kernel_rfl)
def s20:bN:=sg [.agg (aZ eV)] [(true,(aZ eV))]
def aaC:ah:=(G10 N).on s20
def f20.jB:bq:=tm [(1,.c (.ptr 0 1 0 0 0)),(2,.c (.ptr 0 2 1 0 0)),(16,.c (.int .i64)),(17,.c (.int .i64))] [] [(0,1,.box 0 [.sl bI .d,.sl .str .d,.sl dK .d,.int .i64,.int .i64,.int .i64,.int .i64,.int .u64,.sl (.int .u8) (.app 2),.ref 0 12 3 aX,.sl ju .d,.int .i64]),(0,12,.row 3 aX),(0,2,.box 1 [.nil true,.nil true,.nil true,.int .i64,.int .i64,.int .i64,.int .i64,.int .u64,.nil true,.nil true,.nil true,.int .i64])] 1 [2] 4
def f20.jC:bn:=[(.exit 0,tm [(1,.c (.ptr 0 1 0 0 0)),(2,.c (.ptr 0 2 1 0 0))] [] [(0,1,.box 0 [.sl bI .d,.sl .str .d,.sl dK .d,.int .i64,.int .i64,.int .i64,.int .i64,.int .u64,.sl (.int .u8) (.app 2),.ref 0 12 3 aX,.sl ju .d,.int .i64]),(0,12,.row 3 aX),(0,2,.box 1 [.nil true,.nil true,.nil true,.int .i64,.int .i64,.int .i64,.int .i64,.int .u64,.nil true,.nil true,.nil true,.int .i64])] 1 [2] 4)]
def f20.cW(N:Nat):Nat->Int×Int×bP (uj (Int×List Int×List dY×Int×List Region×uj (Int×Int)))->Option ((bP (uj (Int×List Int×List dY×Int×List Region×uj (Int×Int)))))|0,_=>none|k+1,(c,a,d,e,f,g,h,i,j,l,m,n,o,b,p,q,r,s,t,u)=>(cond (decide (a<c)) (aF (ga a b.length) ((b[a.toNat]?).bind λv=>(aF (room v.2.length 1) (aF (ga a b.length) ((b[a.toNat]?).bind λw=>f20.cW N k (c,(av (a+1)),d,e,f,g,h,i,j,l,m,n,o,(b.set a.toNat (w.1,v.2)),p,q,r,s,t,u)))))) (some (d,e,f,g,h,i,j,l,m,n,o,b,p,q,r,s,t,u)))
theorem f20.nh:∀k,f20.cW N k=lp (aaC N) 0 5 (tq 20) 5 f20.jB f20.jC k|0=>rfl|k+1=>funext λ⟨a,b,c,d,e,f,g,h,i,j,l,m,n,o,p,q,r,s,t,u⟩=>by rw[f20.cW,f20.nh k];kernel_rfl
def asO:ah:=(aaC N).aa N 0 5 f20.jB f20.jC
def F20:mZ->Option mZ|(d,e,f,g,h,i,j,l,c,b,m,n)=>(aF (room c.length 1) (aF (room b.length 32) ((f20.cW N N ((b.length:Int),0,d,e,f,g,h,i,j,l,c,m,n,b,0,0,0,0,0,0)).bind λa=>(aF (room a.2.2.2.2.2.2.2.2.2.1.length 48) (some (a.1,a.2.1,a.2.2.1,a.2.2.2.1,a.2.2.2.2.1,a.2.2.2.2.2.1,a.2.2.2.2.2.2.1,a.2.2.2.2.2.2.2.1,a.2.2.2.2.2.2.2.2.1,a.2.2.2.2.2.2.2.2.2.2.2.1,a.2.2.2.2.2.2.2.2.2.1,a.2.2.2.2.2.2.2.2.2.2.1))))))
def G20:ah:=(G10 N).put 20 s20 (F20 N)
theorem K20:az bJ (G20 N):=(K10 N).put (((K10 N).on s20).aa N 0 5 f20.jB f20.jC) _ _ _ (funext λ⟨a,b,c,d,e,f,g,h,i,j,l,m⟩=>by rw[F20,f20.nh N N];kernel_rfl)
def s5:bN:=sg [.agg (aZ eV),.c (.int .i64)] [(true,(aZ uH)),(false,[.int .i64])]
def F5:oC Int->Option (ZZ Int)|(c,d,b,h,i,j,l,m,n,e,f,o,g)=>((F10 N (c,d,b,h,i,j,l,m,n,e,f,o,g)).bind λp=>(cond (p !=0) (some (0,0,0,0,0,p)) ((idx e g).bind λq=>((idx f g).bind λr=>((QV N (q.1,q.2,c,d,b,r.2.1)).bind λs=>((idx s.1 0).bind λa=>((F20 N (c,d,b,h,i,j,l,m,n,e,f,o)).bind λu=>((idx b a.2.1).bind λt=>((idx t.2.2.2.2.1 a.2.2.1).bind λv=>some (a.1,a.2.1,a.2.2.1,a.2.2.2.1,a.2.2.2.2,0))))))))))
def G5:ah:=(G20 N).put 5 s5 (F5 N)
theorem K5:az bJ (G5 N):=(K20 N).put ((K20 N).on s5) _ _ _ (funext λ⟨a,b,c,d,e,f,g,h,i,j,l,m,n⟩=>by rw[F5];kernel_rfl)
def aiH:bN:=⟨[.c (.int .u8)],[(false,[.bool])],0,[(0,1,2,.bool)],[],[],[]⟩
def PE(N:Nat):Int->Option Bool|a=>((cond (decide (a>=97)) (cond (decide (a<=122)) (some true) (cond (decide (a>=65)) (some (decide (a<=90))) (some false))) (cond (decide (a>=65)) (some (decide (a<=90))) (some false))).bind λb=>some b)
def adi:ah:=(G5 N).put 223 aiH (PE N)
theorem aiI:az bJ (adi N):=(K5 N).put ((K5 N).on aiH) _ _ _ (funext λa=>by rw[PE];kernel_rfl)
def adj:bN:=⟨[.c (.str)],[(false,[.bool])],0,[(0,1,17,.bool),(0,10,40,.bool)],[],[],[]⟩
def T3:ah:=(adi N).on adj
def f202.bQ:bq:=tm [(0,.c (.str)),(3,.c (.int .i64))] [] [] 1 [] 0
def f202.bR:bn:=[(.ret,tm [(2,.c (.bool))] [] [] 1 [] 0),(.exit 0,tm [] [] [] 1 [] 0)]
def f202.aP:Nat->List UInt8×Int->Option (Bool⊕Unit)|0,_=>none|k+1,(a,b)=>(cond (decide (b<(a.length:Int))) (((idx a b).bind λc5=>((PE N (c5.toNat:Int)).bind λc=>(cond (!c) ((idx a b).bind λc7=>(cond (decide ((c7.toNat:Int)<48)) (some true) ((idx a b).bind λc8=>some (decide ((c8.toNat:Int)>57))))) (some false)))).bind λd=>(cond d (some (Sum.inl false)) (f202.aP k (a,(av (b+1)))))) (some (Sum.inr ())))
theorem f202.cV:∀k,f202.aP N k=lp (T3 N) 0 6 (tq 202) 6 f202.bQ f202.bR k|0=>rfl|k+1=>funext λ⟨a,b⟩=>by rw[f202.aP,f202.cV k];kernel_rfl
def an6:ah:=(T3 N).aa N 0 6 f202.bQ f202.bR
def PG:List UInt8->Option Bool|a=>((cond (decide ((a.length:Int)<1)) (some true) (cond (decide ((a.length:Int)>16)) (some true) ((idx a 0).bind λc0=>((PE N (c0.toNat:Int)).bind λb=>some (!b))))).bind λc=>(cond c (some false) ((f202.aP N N (a,0)).bind λd=>(match d with|.inl e=>some e|.inr f=>some true))))
def adk:ah:=(adi N).put 202 adj (PG N)
theorem aiJ:az bJ (adk N):=(aiI N).put (((aiI N).on adj).aa N 0 6 f202.bQ f202.bR) _ _ _ (funext λa=>by rw[PG,f202.cV N N];kernel_rfl)
def adl:bN:=sg [.c (.sl cS .bC),.c (.int .i64)] [(false,[.bool])]
def T4:ah:=(adk N).on adl
def f203.sZ:bq:=tm [(0,.c (.sl cS .bC)),(5,.c (.int .i64)),(6,.c (.int .i64))] [] [] 1 [] 0
def f203.tc:bn:=[(.ret,tm [(4,.c (.bool))] [] [] 1 [] 0),(.exit 2,tm [(0,.c (.sl cS .bC)),(5,.c (.int .i64))] [] [] 1 [] 0)]
def f203.jc(N:Nat):Nat->List Field×Int×Int->Option (Bool⊕(List Field×Int))|0,_=>none|k+1,(a,b,c)=>(cond (decide (c<b)) ((idx a c).bind λd=>((idx a b).bind λe=>(cond (d.1==e.1) (some (Sum.inl false)) (f203.jc N k (a,b,(av (c+1))))))) (some (Sum.inr (a,b))))
theorem f203.Jw:∀k,f203.jc N k=lp (T4 N) 0 15 (tq 203) 15 f203.sZ f203.tc k|0=>rfl|k+1=>funext λ⟨a,b,c⟩=>by rw[f203.jc,f203.Jw k];kernel_rfl
def T5:ah:=(T4 N).aa N 0 15 f203.sZ f203.tc
def f203.bQ:bq:=tm [(0,.c (.sl cS .bC)),(5,.c (.int .i64))] [] [] 1 [] 0
def f203.bR:bn:=[(.ret,tm [(4,.c (.bool))] [] [] 1 [] 0),(.exit 0,tm [] [] [] 1 [] 0)]
def f203.aP:Nat->List Field×Int->Option (Bool⊕Unit)|0,_=>none|k+1,(a,b)=>(cond (decide (b<(a.length:Int))) ((idx a b).bind λd=>((PG N d.1).bind λe=>(cond (!e) (some (Sum.inl false)) ((f203.jc N N (a,b,0)).bind λf=>(match f with|.inl g=>some (Sum.inl g)|.inr c=>f203.aP k (c.1,(av (c.2+1)))))))) (some (Sum.inr ())))
theorem f203.cV:∀k,f203.aP N k=lp (T5 N) 0 6 (tq 203) 6 f203.bQ f203.bR k|0=>rfl|k+1=>funext λ⟨a,b⟩=>by rw[f203.aP,f203.cV k,f203.Jw N N];kernel_rfl
def an7:ah:=(T5 N).aa N 0 6 f203.bQ f203.bR
def PI:List Field×Int->Option Bool|(a,b)=>(cond (decide ((a.length:Int)>b)) (some false) ((f203.aP N N (a,0)).bind λc=>(match c with|.inl d=>some d|.inr e=>some true)))
def adm:ah:=(adk N).put 203 adl (PI N)
theorem aiK:az bJ (adm N):=(aiJ N).put ((((aiJ N).on adl).aa N 0 15 f203.sZ f203.tc).aa N 0 6 f203.bQ f203.bR) _ _ _ (funext λ⟨a,b⟩=>by rw[PI,f203.cV N N];kernel_rfl)
def adn:bN:=⟨[.c (.sl bI .bC),.c (.int .i64)],[(false,[.bool])],0,[(0,7,13,.bool),(0,5,13,.bool),(0,10,4,.bool),(0,12,31,.bool),(0,15,4,.bool),(0,18,4,.bool),(0,27,107,.bool),(0,31,4,.bool)],[],[],[]⟩
def T6:ah:=(adm N).on adn
def f200.T7:bq:=tm [(1,.c (.int .i64)),(5,.c (.ptr 0 5 0 0 0)),(6,.c (.int .i64))] [] [(0,5,.box 0 (aZ bI))] 1 [] 1
def f200.T8:bn:=[(.ret,tm [(4,.c (.bool))] [] [] 1 [] 0),(.exit 1,tm [(5,.c (.ptr 0 5 0 0 0))] [] [(0,5,.box 0 (aZ bI))] 1 [] 1)]
def f200.zZ(N:Nat):Nat->Int×Int×yf->Option (Bool⊕yf)|0,_=>none|k+1,(c,b,d,e,f,a)=>(cond (decide (b<(a.length:Int))) (((idx a b).bind λg=>(cond (decide (g.2<0)) (some true) ((idx a b).bind λh=>some (decide (h.2>=c))))).bind λi=>(cond i (some (Sum.inl false)) (f200.zZ N k (c,(av (b+1)),d,e,f,a)))) (some (Sum.inr (d,e,f,a))))
theorem f200.aaD:∀k,f200.zZ N k=lp (T6 N) 0 23 (tq 200) 23 f200.T7 f200.T8 k|0=>rfl|k+1=>funext λ⟨a,b,c,d,e,f⟩=>by rw[f200.zZ,f200.aaD k];kernel_rfl
def an8:ah:=(T6 N).aa N 0 23 f200.T7 f200.T8
def T9:List aA×Int->Option Bool|(d,c)=>((idx d c).bind λa=>((cond (a.1==1) (some true) ((cond (a.1==2) (some true) (some (a.1==3))).bind λe=>some e)).bind λf=>(cond f ((cond (a.2.1==0) (cond (a.2.2.1==0) (some ((a.2.2.2.length:Int)==0)) (some false)) (some false)).bind λg=>some g) ((cond (a.1==4) (some true) (some (a.1==7))).bind λh=>(cond h ((cond (decide (a.2.1>=0)) (cond (decide (a.2.1<(d.length:Int))) (cond (a.2.2.1==0) (some ((a.2.2.2.length:Int)==0)) (some false)) (some false)) (some false)).bind λi=>some i) (cond (a.1==6) ((cond (decide (a.2.1>=0)) (cond (decide (a.2.1<c)) (cond (decide (a.2.2.1>=1)) (cond (decide (a.2.2.1<=16)) (some ((a.2.2.2.length:Int)==0)) (some false)) (some false)) (some false)) (some false)).bind λj=>some j) (cond (a.1==5) ((f200.zZ N N (c,0,a.1,a.2.1,a.2.2.1,a.2.2.2)).bind λl=>(match l with|.inl m=>some m|.inr b=>((cond (b.2.1==0) (cond (b.2.2.1==0) (cond (decide ((b.2.2.2.length:Int)>0)) ((PI N (b.2.2.2,8)).bind λn=>some n) (some false)) (some false)) (some false)).bind λo=>some o))) (some false))))))))
def ado:ah:=(adm N).put 200 adn (T9 N)
theorem aiL:az bJ (ado N):=(aiK N).put (((aiK N).on adn).aa N 0 23 f200.T7 f200.T8) _ _ _ (funext λ⟨a,b⟩=>by rw[T9,f200.aaD N N];kernel_rfl)
def adp:bN:=⟨[.agg (cF bI)],[(false,[.sl (.int .i64) .d])],0,[],[],[(0,11,(.int .i64)),(0,27,(.int .i64))],[]⟩
def Ua:ah:=(ado N).on adp
def f222.ig:bq:=tm [(1,.c (.ptr 0 1 0 0 0)),(3,.c (.sl (.int .i64) (.app 1))),(4,.c (.int .i64))] [] [(0,1,.box 0 (cF bI))] 1 [1] 2
def f222.ij:bn:=[(.exit 0,tm [(3,.c (.sl (.int .i64) (.app 0)))] [] [] 1 [0] 1)]
def f222.cI(N:Nat):Nat->List Int×Int×yf->Option ((List Int))|0,_=>none|k+1,(a,b,d,e,f,c)=>(cond (decide (b<(c.length:Int))) ((idx c b).bind λg=>(aF (room (a.length+1) 8) (f222.cI N k ((a++[g.2]),(av (b+1)),d,e,f,c)))) (some a))
theorem f222.kW:∀k,f222.cI N k=lp (Ua N) 0 7 (tq 222) 7 f222.ig f222.ij k|0=>rfl|k+1=>funext λ⟨a,b,c,d,e,f⟩=>by rw[f222.cI,f222.kW k];kernel_rfl
def an9:ah:=(Ua N).aa N 0 7 f222.ig f222.ij
def Ub:yf->Option (List Int)|(a,b,c,d)=>(cond (a==6) (aF (room 1 8) ((f222.cI N N ([b],0,a,b,c,d)).bind λe=>some e)) ((f222.cI N N ([],0,a,b,c,d)).bind λf=>some f))
def adq:ah:=(ado N).put 222 adp (Ub N)
theorem aiM:az bJ (adq N):=(aiL N).put (((aiL N).on adp).aa N 0 7 f222.ig f222.ij) _ _ _ (funext λ⟨a,b,c,d⟩=>by rw[Ub,f222.kW N N];kernel_rfl)
def yl:bN:=⟨[.c (.sl bI .bC),.c (.int .i64)],[(false,[.sl (.int .i64) .d])],0,[(0,21,11,(.int .i64)),(0,25,67,.bool),(0,26,8,(.int .i64)),(0,28,88,.bool),(0,29,8,(.int .i64))],[],[(0,103,(.int .i64))],[]⟩
def L3(R:(List aA×Int)->Option (List Int)):ah:=((adq N).on yl).put 201 yl R
theorem adr(R:(List aA×Int)->Option (List Int))(hR:o8 bJ 201 (yl.vE R)):az bJ (L3 N R):=((aiM N).on yl).q9 hR
def f201.sZ:bq:=tm [(0,.c (.sl bI .bC)),(1,.c (.int .i64)),(5,.c (.sl (.int .i64) .d)),(6,.c (.sl (.int .i64) (.app 0))),(7,.c (.int .i64)),(8,.c (.int .i64)),(9,.c (.sl (.int .i64) .d)),(10,.c (.int .i64))] [] [] 1 [0] 1
def f201.tc:bn:=[(.exit 2,tm [(0,.c (.sl bI .bC)),(1,.c (.int .i64)),(5,.c (.sl (.int .i64) .d)),(6,.c (.sl (.int .i64) (.app 0))),(7,.c (.int .i64)),(8,.c (.int .i64))] [] [] 1 [0] 1)]
def f201.jc(R:(List aA×Int)->Option (List Int))(k:Nat)(x:List aA×Int×List Int×List Int×Int×Int×List Int×Int):Option ((List aA×Int×List Int×List Int×Int×Int)):=lp (L3 N R) 0 15 (tq 201) 15 f201.sZ f201.tc k x
theorem f201.CQ(R:(List aA×Int)->Option (List Int))(k:Nat)(v8:List aA)(v9:Int)(v10:List Int)(v11:List Int)(v12:Int)(v13:Int)(v14:List Int)(v15:Int):f201.jc N R (k+1) (v8,v9,v10,v11,v12,v13,v14,v15)=(cond (decide (v15<(v14.length:Int))) ((idx v8 v12).bind λx16=>((cond (x16.1==6) ((idx v8 v12).bind λx17=>some x17.2.2.1) (some 1)).bind λb18=>((idx v14 v15).bind λx19=>((idx v11 x19).bind λx20=>f201.jc N R k (v8,v9,v10,v11,v12,(min (av (v13+(av (b18*x20)))) 5001),v14,(av (v15+1))))))) (some (v8,v9,v10,v11,v12,v13))):=by kernel_rfl
def L4(R:(List aA×Int)->Option (List Int)):ah:=(L3 N R).aa N 0 15 f201.sZ f201.tc
theorem ads(R:(List aA×Int)->Option (List Int))(hR:o8 bJ 201 (yl.vE R)):az bJ (L4 N R):=(adr N R hR).aa N 0 15 f201.sZ f201.tc
def f201.CK:bq:=tm [(0,.c (.sl bI .bC)),(1,.c (.int .i64)),(5,.c (.sl (.int .i64) .d)),(6,.c (.sl (.int .i64) (.app 0))),(7,.c (.int .i64))] [] [] 1 [0] 1
def f201.CL:bn:=[(.exit 0,tm [(6,.c (.sl (.int .i64) (.app 0)))] [] [] 1 [0] 1)]
def f201.mq(R:(List aA×Int)->Option (List Int))(k:Nat)(x:List aA×Int×List Int×List Int×Int):Option ((List Int)):=lp (L4 N R) 0 8 (tq 201) 8 f201.CK f201.CL k x
theorem f201.Ft(R:(List aA×Int)->Option (List Int))(k:Nat)(v1:List aA)(v2:Int)(v3:List Int)(v4:List Int)(v5:Int):f201.mq N R (k+1) (v1,v2,v3,v4,v5)=(cond (decide (v5<(v1.length:Int))) ((idx v1 v5).bind λx6=>((Ub N (x6.1,x6.2.1,x6.2.2.1,x6.2.2.2)).bind λy7=>((f201.jc N R N (v1,v2,v3,v4,v5,1,y7,0)).bind λFu=>((cond (decide (Fu.2.1>0)) ((idx Fu.1 Fu.2.2.2.2.1).bind λx22=>some (x22.1==4)) (some false)).bind λb23=>((cond b23 ((idx Fu.1 Fu.2.2.2.2.1).bind λx24=>((idx Fu.2.2.1 x24.2.1).bind λx25=>some (min (av (Fu.2.2.2.2.2+x25)) 5001))) (some Fu.2.2.2.2.2)).bind λb26=>((cond (decide (Fu.2.1>0)) ((idx Fu.1 Fu.2.2.2.2.1).bind λx27=>some (x27.1==7)) (some false)).bind λb28=>((cond b28 ((idx Fu.1 Fu.2.2.2.2.1).bind λx29=>((idx Fu.2.2.1 x29.2.1).bind λx30=>some (min (av (b26+(av (16*x30)))) 5001))) (some b26)).bind λb31=>(aF (room (Fu.2.2.2.1.length+1) 8) (f201.mq N R k (Fu.1,Fu.2.1,Fu.2.2.1,(Fu.2.2.2.1++[b31]),(av (Fu.2.2.2.2.1+1)))))))))))) (some v4)):=by kernel_rfl
def Uc(R:(List aA×Int)->Option (List Int)):ah:=(L4 N R).aa N 0 8 f201.CK f201.CL
theorem adt(R:(List aA×Int)->Option (List Int))(hR:o8 bJ 201 (yl.vE R)):az bJ (Uc N R):=(ads N R hR).aa N 0 8 f201.CK f201.CL
def Hg(x:List aA×Int):Option (List Int):=fixF (λN R x=>(Uc N R).fn 201 yl x) N x
theorem NK(p0:List aA)(p1:Int):Hg (N+1) (p0,p1)=(cond (decide (p1>0)) ((Hg N (p0,(av (p1-1)))).bind λy0=>((f201.mq N (Hg N) N (p0,p1,y0,[],0)).bind λy32=>some y32)) ((f201.mq N (Hg N) N (p0,p1,[],[],0)).bind λy33=>some y33)):=by kernel_rfl
theorem aaE:∀N:Nat,o8 bJ 201 (yl.vE (Hg N))|0=>LJ λ_=>rfl|N+1=>ZV (adt N (Hg N) (aaE N)) Fp 201 yl.a yl.ta yl.r yl.tr 0
def adu:ah:=(adq N).put 201 yl (Hg N)
theorem aiN:az bJ (adu N):=(aiM N).q9 (aaE N)
def adv:bN:=sg [.c (.sl bI .bC)] [(false,[.int .i64])]
def Ud:ah:=(adu N).on adv
def f164.bQ:bq:=tm [(0,.c (.sl bI .bC)),(3,.c (.int .i64))] [] [] 1 [] 0
def f164.bR:bn:=[(.ret,tm [(2,.c (.int .i64))] [] [] 1 [] 0),(.exit 0,tm [(0,.c (.sl bI .bC))] [] [] 1 [] 0)]
def f164.aP:Nat->List aA×Int->Option (Int⊕(List aA))|0,_=>none|k+1,(a,b)=>(cond (decide (b<(a.length:Int))) ((T9 N (a,b)).bind λc=>(cond (!c) (some (Sum.inl 8)) (f164.aP k (a,(av (b+1)))))) (some (Sum.inr a)))
theorem f164.cV:∀k,f164.aP N k=lp (Ud N) 0 6 (tq 164) 6 f164.bQ f164.bR k|0=>rfl|k+1=>funext λ⟨a,b⟩=>by rw[f164.aP,f164.cV k];kernel_rfl
def Ue:ah:=(Ud N).aa N 0 6 f164.bQ f164.bR
def f164.jv:bq:=tm [(0,.c (.sl bI .bC)),(4,.c (.sl (.int .i64) .d)),(5,.c (.int .i64))] [] [] 1 [] 0
def f164.jw:bn:=[(.ret,tm [(2,.c (.int .i64))] [] [] 1 [] 0),(.exit 2,tm [] [] [] 1 [] 0)]
def f164.cQ(N:Nat):Nat->List aA×List Int×Int->Option (Int⊕Unit)|0,_=>none|k+1,(b,c,a)=>(cond (decide (a<(b.length:Int))) ((idx c a).bind λd=>(cond (decide (d>5000)) (some (Sum.inl 8)) (f164.cQ N k (b,c,(av (a+1)))))) (some (Sum.inr ())))
theorem f164.nc:∀k,f164.cQ N k=lp (Ue N) 0 17 (tq 164) 17 f164.jv f164.jw k|0=>rfl|k+1=>funext λ⟨a,b,c⟩=>by rw[f164.cQ,f164.nc k];kernel_rfl
def aof:ah:=(Ue N).aa N 0 17 f164.jv f164.jw
def Uf:List aA->Option Int|a=>(cond (decide ((a.length:Int)>32)) (some 8) ((f164.aP N N (a,0)).bind λc=>(match c with|.inl d=>some d|.inr b=>((Hg N (b,3)).bind λe=>((f164.cQ N N (b,e,0)).bind λf=>(match f with|.inl g=>some g|.inr h=>some 0))))))
def aiO:ah:=(adu N).put 164 adv (Uf N)
theorem aiP:az bJ (aiO N):=(aiN N).put ((((aiN N).on adv).aa N 0 6 f164.bQ f164.bR).aa N 0 17 f164.jv f164.jw) _ _ _ (funext λa=>by rw[Uf,f164.cV N N,f164.nc N N];kernel_rfl)
def aiQ:bN:=sg [.c (.int .i64),.c (.int .i64)] [(false,[.int .i64])]
def L5(N:Nat):Int×Int->Option Int|(b,a)=>(aF (!decide (a=0)) (some (av ((av (Int.tdiv (av ((av (b+a))-1)) a))*a))))
def adw:ah:=(aiO N).put 105 aiQ (L5 N)
theorem aiR:az bJ (adw N):=(aiP N).put ((aiP N).on aiQ) _ _ _ (funext λ⟨a,b⟩=>by rw[L5];kernel_rfl)
def adx:bN:=⟨[.c (.sl (.int .i64) .bC),.c (.sl (.int .i64) .bC),.c (.sl cS .bC)],[(false,[.sl (.int .i64) .d]),(false,[.int .i64]),(false,[.int .i64])],0,[],[],[(0,34,(.int .i64))],[]⟩
def Ug:ah:=(adw N).on adx
def f104.jB:bq:=tm [(0,.c (.sl (.int .i64) .bC)),(1,.c (.sl (.int .i64) .bC)),(2,.c (.sl cS .bC)),(9,.c (.sl (.int .i64) (.app 0))),(10,.c (.int .i64)),(11,.c (.int .i64)),(12,.c (.int .i64))] [] [] 1 [0] 1
def f104.jC:bn:=[(.exit 0,tm [(9,.c (.sl (.int .i64) (.app 0))),(10,.c (.int .i64)),(11,.c (.int .i64))] [] [] 1 [0] 1)]
def f104.cW:Nat->List Int×List Int×List Field×List Int×Int×Int×Int->Option ((List Int×Int×Int))|0,_=>none|k+1,(f,a,b,c,g,h,d)=>(cond (decide (d<(b.length:Int))) ((idx b d).bind λe=>((idx a e.2).bind λj=>((L5 N (g,j)).bind λi=>(aF (room (c.length+1) 8) ((idx f e.2).bind λl=>((idx a e.2).bind λm=>f104.cW k (f,a,b,(c++[i]),(min 1000000 (av (i+l))),(max h m),(av (d+1))))))))) (some (c,g,h)))
theorem f104.nh:∀k,f104.cW N k=lp (Ug N) 0 5 (tq 104) 5 f104.jB f104.jC k|0=>rfl|k+1=>funext λ⟨a,b,c,d,e,f,g⟩=>by rw[f104.cW,f104.nh k];kernel_rfl
def aog:ah:=(Ug N).aa N 0 5 f104.jB f104.jC
def L6:List Int×List Int×List Field->Option (List Int×Int×Int)|(b,c,d)=>((f104.cW N N (b,c,d,[],0,1,0)).bind λa=>((L5 N (a.2.1,a.2.2)).bind λe=>some (a.1,(min 1000000 e),a.2.2)))
def ady:ah:=(adw N).put 104 adx (L6 N)
theorem aiS:az bJ (ady N):=(aiR N).put (((aiR N).on adx).aa N 0 5 f104.jB f104.jC) _ _ _ (funext λ⟨a,b,c⟩=>by rw[L6,f104.nh N N];kernel_rfl)
def adz:bN:=⟨[.c (.sl bI .bC)],[(false,[.sl (.int .i64) .d]),(false,[.sl (.int .i64) .d])],0,[],[],[(0,67,(.int .i64)),(0,71,(.int .i64))],[]⟩
def Uh:ah:=(ady N).on adz
def f103.eC:bq:=tm [(0,.c (.sl bI .bC)),(4,.c (.sl (.int .i64) (.app 0))),(5,.c (.sl (.int .i64) (.app 1))),(6,.c (.int .i64))] [] [] 1 [0,1] 2
def f103.eD:bn:=[(.exit 0,tm [(4,.c (.sl (.int .i64) (.app 0))),(5,.c (.sl (.int .i64) (.app 1)))] [] [] 1 [0,1] 2)]
def f103.bz:Nat->List aA×List Int×List Int×Int->Option ((List Int×List Int))|0,_=>none|k+1,(c,a,b,d)=>(cond (decide (d<(c.length:Int))) ((idx c d).bind λe=>(cond (e.1==1) (aF (room (a.length+1) 8) (aF (room (b.length+1) 8) (f103.bz k (c,(a++[1]),(b++[1]),(av (d+1)))))) (cond (e.1==3) (aF (room (a.length+1) 8) (aF (room (b.length+1) 8) (f103.bz k (c,(a++[16]),(b++[8]),(av (d+1)))))) (cond (e.1==7) (aF (room (a.length+1) 8) (aF (room (b.length+1) 8) (f103.bz k (c,(a++[24]),(b++[8]),(av (d+1)))))) (cond (e.1==6) ((idx c d).bind λg=>((idx c d).bind λh=>((idx a h.2.1).bind λi=>((idx c d).bind λj=>((idx b j.2.1).bind λl=>(aF (room (a.length+1) 8) (aF (room (b.length+1) 8) (f103.bz k (c,(a++[(min 1000000 (av (g.2.2.1*i)))]),(b++[l]),(av (d+1))))))))))) (cond (e.1==5) ((idx c d).bind λm=>((L6 N (a,b,m.2.2.2)).bind λf=>(aF (room (a.length+1) 8) (aF (room (b.length+1) 8) (f103.bz k (c,(a++[f.2.1]),(b++[f.2.2]),(av (d+1)))))))) (aF (room (a.length+1) 8) (aF (room (b.length+1) 8) (f103.bz k (c,(a++[8]),(b++[8]),(av (d+1)))))))))))) (some (a,b)))
theorem f103.gL:∀k,f103.bz N k=lp (Uh N) 0 4 (tq 103) 4 f103.eC f103.eD k|0=>rfl|k+1=>funext λ⟨a,b,c,d⟩=>by rw[f103.bz,f103.gL k];kernel_rfl
def aoh:ah:=(Uh N).aa N 0 4 f103.eC f103.eD
def L7:List aA->Option (List Int×List Int)|b=>((f103.bz N N (b,[],[],0)).bind λa=>some (a.1,a.2))
def aiT:ah:=(ady N).put 103 adz (L7 N)
theorem aiU:az bJ (aiT N):=(aiS N).put (((aiS N).on adz).aa N 0 4 f103.eC f103.eD) _ _ _ (funext λa=>by rw[L7,f103.gL N N];kernel_rfl)
def aiV:bN:=⟨[.c (.int .u8)],[(false,[.str])],0,[(0,13,10,.bool),(0,24,13,.bool),(0,22,13,.bool),(0,20,13,.bool),(0,18,13,.bool),(0,39,19,.bool),(0,37,19,.bool),(0,35,19,.bool),(0,33,19,.bool),(0,31,19,.bool),(0,29,19,.bool),(0,64,39,.bool),(0,62,39,.bool),(0,72,45,.bool),(0,80,50,.bool)],[],[],[]⟩
def Hh(N:Nat):Int->Option (List UInt8)|a=>(cond (a==1) (some [119,110,45]) (cond (a==2) (some [119,116,45]) (cond (a==3) (some [119,98,45]) ((cond (a==4) (some true) (some (a==15))).bind λb=>(cond b (some [119,45,45]) ((cond (a==5) (some true) ((cond (a==12) (some true) ((cond (a==16) (some true) ((cond (a==18) (some true) (some (a==21))).bind λc=>some c)).bind λd=>some d)).bind λe=>some e)).bind λf=>(cond f (some [119,114,45]) ((cond (a==6) (some true) ((cond (a==7) (some true) ((cond (a==8) (some true) ((cond (a==9) (some true) ((cond (a==10) (some true) ((cond (a==11) (some true) (some (a==19))).bind λg=>some g)).bind λh=>some h)).bind λi=>some i)).bind λj=>some j)).bind λl=>some l)).bind λm=>(cond m (some [119,114,114]) (cond (a==13) (some [119,114,102]) (cond (a==14) (some [114,102,114]) (cond (a==17) (some [114,114,45]) (cond (a==20) (some [114,114,114]) (cond (a==22) (some [105,45,45]) (cond (a==23) (some [114,105,45]) ((cond (a==24) (some true) ((cond (a==28) (some true) (some (a==32))).bind λn=>some n)).bind λo=>(cond o (some [114,45,45]) (cond (a==25) (some [103,99,45]) ((cond (a==26) (some true) (some (a==27))).bind λp=>(cond p (some [99,45,45]) (cond (a==29) (some [119,119,45]) ((cond (a==30) (some true) (some (a==31))).bind λq=>(cond q (some [45,45,45]) (cond (a==33) (some [119,114,45]) (cond (a==34) (some [101,45,45]) (some ([]:List UInt8)))))))))))))))))))))))))))
def aiW:ah:=(aiT N).put 206 aiV (Hh N)
theorem aiX:az bJ (aiW N):=(aiU N).put ((aiU N).on aiV) _ _ _ (funext λa=>by rw[Hh];kernel_rfl)
def aiY:bN:=sg [.agg (aZ bf)] [(true,[.int .i64,.int .i64,.int .i64])]
def JJ(N:Nat):ic->Option (Int×Int×Int)|(d,a,b,c)=>some (a,b,c)
def aiZ:ah:=(aiW N).put 207 aiY (JJ N)
theorem ai0:az bJ (aiZ N):=(aiX N).put ((aiX N).on aiY) _ _ _ (funext λ⟨a,b,c,d⟩=>by rw[JJ];kernel_rfl)
def ai1:bN:=⟨[.c (.int .u8),.c (.int .i64)],[(false,[.bool])],0,[(0,7,10,.bool),(0,10,4,.bool),(0,12,19,.bool),(0,15,4,.bool),(0,17,28,.bool),(0,20,4,.bool),(0,23,4,.bool),(0,26,4,.bool),(0,29,4,.bool)],[],[],[]⟩
def L8(N:Nat):Int×Int->Option Bool|(b,a)=>(cond (b==45) (some (a==0)) ((cond (b==119) (some true) (some (b==114))).bind λc=>(cond c ((cond (decide (a>=0)) (some (decide (a<16))) (some false)).bind λd=>some d) ((cond (b==103) (some true) (some (b==101))).bind λe=>(cond e ((cond (decide (a>=(-1))) (some (decide (a<16))) (some false)).bind λf=>some f) ((cond (b==116) (some true) (some (b==99))).bind λg=>(cond g ((cond (decide (a>=0)) (some (decide (a<32))) (some false)).bind λh=>some h) (cond (b==98) ((cond (decide (a>=0)) (some (decide (a<2))) (some false)).bind λi=>some i) (cond (b==102) ((cond (decide (a>=0)) (some (decide (a<8))) (some false)).bind λj=>some j) (cond (b==105) ((cond (decide (a>=0)) (some (decide (a<200))) (some false)).bind λl=>some l) (some true)))))))))))
def ai2:ah:=(aiZ N).put 224 ai1 (L8 N)
theorem ai3:az bJ (ai2 N):=(ai0 N).put ((ai0 N).on ai1) _ _ _ (funext λ⟨a,b⟩=>by rw[L8];kernel_rfl)
def ai4:bN:=⟨[.agg (aZ bf)],[(false,[.int .i64])],0,[(0,11,25,.bool),(0,100011,25,.bool)],[(0,7),(0,100007)],[],[]⟩
def PJ:ic->Option Int|(c,d,e,f)=>((Hh N c).bind λa=>((JJ N (c,d,e,f)).bind λb=>(cond ((a.length:Int)!=3) (some 8) (((idx a 0).bind λc2=>((L8 N ((c2.toNat:Int),b.1)).bind λg=>some (!g))).bind λh=>(cond h (some 8) (((idx a 1).bind λc5=>((L8 N ((c5.toNat:Int),b.2.1)).bind λi=>some (!i))).bind λj=>(cond j (some 8) (((idx a 2).bind λc8=>((L8 N ((c8.toNat:Int),b.2.2)).bind λl=>some (!l))).bind λm=>(cond m (some 8) (some 0))))))))))
def adA:ah:=(ai2 N).put 204 ai4 (PJ N)
theorem ai5:az bJ (adA N):=(ai3 N).put ((ai3 N).on ai4) _ _ _ (funext λ⟨a,b,c,d⟩=>by rw[PJ];kernel_rfl)
def adB:bN:=⟨[.c (.sl ia .bC),.c (.int .i64)],[(false,[.bool])],0,[(0,1,15,.bool),(0,10,60,.bool)],[],[],[]⟩
def Ui:ah:=(adA N).on adB
def f205.bQ:bq:=tm [(0,.c (.sl ia .bC)),(1,.c (.int .i64)),(5,.c (.int .i64))] [] [] 1 [] 0
def f205.bR:bn:=[(.ret,tm [(4,.c (.bool))] [] [] 1 [] 0),(.exit 0,tm [] [] [] 1 [] 0)]
def f205.aP(N:Nat):Nat->List eN×Int×Int->Option (Bool⊕Unit)|0,_=>none|k+1,(b,c,a)=>(cond (decide (a<(b.length:Int))) (((idx b a).bind λd=>(cond (decide (d.1>=c)) (some true) (cond (decide (a>0)) ((idx b (av (a-1))).bind λe=>((idx b a).bind λf=>(cond (decide (e.1>=f.1)) (some true) ((idx b (av (a-1))).bind λg=>((idx b a).bind λh=>some (g.2==h.2)))))) (some false)))).bind λi=>(cond i (some (Sum.inl false)) (f205.aP N k (b,c,(av (a+1)))))) (some (Sum.inr ())))
theorem f205.cV:∀k,f205.aP N k=lp (Ui N) 0 6 (tq 205) 6 f205.bQ f205.bR k|0=>rfl|k+1=>funext λ⟨a,b,c⟩=>by rw[f205.aP,f205.cV k];kernel_rfl
def aoi:ah:=(Ui N).aa N 0 6 f205.bQ f205.bR
def PK:List eN×Int->Option Bool|(a,b)=>((cond (decide ((a.length:Int)<1)) (some true) ((idx a 0).bind λc=>some (c.1!=0))).bind λd=>(cond d (some false) ((f205.aP N N (a,b,0)).bind λe=>(match e with|.inl f=>some f|.inr g=>some true))))
def adC:ah:=(adA N).put 205 adB (PK N)
theorem ai6:az bJ (adC N):=(ai5 N).put (((ai5 N).on adB).aa N 0 6 f205.bQ f205.bR) _ _ _ (funext λ⟨a,b⟩=>by rw[PK,f205.cV N N];kernel_rfl)
def adD:bN:=⟨[.c (.sl bI .bC),.agg (cF dK)],[(false,[.bool])],0,[(0,1,53,.bool),(0,10,78,.bool),(0,24,4,.bool)],[],[],[]⟩
def Uj:ah:=(adC N).on adD
def f165.bQ:bq:=tm [(0,.c (.sl bI .bC)),(3,.c (.ptr 0 3 0 0 0)),(5,.c (.int .i64))] [] [(0,3,.box 0 (cF dK))] 1 [] 1
def f165.bR:bn:=[(.ret,tm [(4,.c (.bool))] [] [] 1 [] 0),(.exit 0,tm [(3,.c (.ptr 0 3 0 0 0))] [] [(0,3,.box 0 (cF dK))] 1 [] 1)]
def f165.aP(N:Nat):Nat->List aA×Int×gV->Option (Bool⊕gV)|0,_=>none|k+1,(c,b,d,e,f,a,g,h,i)=>(cond (decide (b<(a.length:Int))) (((idx a b).bind λj=>(cond (decide (j.2<0)) (some true) ((idx a b).bind λl=>some (decide (l.2>=(c.length:Int)))))).bind λm=>(cond m (some (Sum.inl false)) (f165.aP N k (c,(av (b+1)),d,e,f,a,g,h,i)))) (some (Sum.inr (d,e,f,a,g,h,i))))
theorem f165.cV:∀k,f165.aP N k=lp (Uj N) 0 6 (tq 165) 6 f165.bQ f165.bR k|0=>rfl|k+1=>funext λ⟨a,b,c,d,e,f,g,h,i⟩=>by rw[f165.aP,f165.cV k];kernel_rfl
def Uk:ah:=(Uj N).aa N 0 6 f165.bQ f165.bR
def f165.Ul:bq:=tm [(3,.c (.ptr 0 3 0 0 0)),(6,.c (.int .i64))] [] [(0,3,.box 0 (cF dK))] 1 [] 1
def f165.Um:bn:=[(.ret,tm [(4,.c (.bool))] [] [] 1 [] 0),(.exit 2,tm [(3,.c (.ptr 0 3 0 0 0))] [] [(0,3,.box 0 (cF dK))] 1 [] 1)]
def f165.z6:Nat->Int×gV->Option (Bool⊕gV)|0,_=>none|k+1,(c,d,e,f,g,a,h,i)=>(cond (decide (c<(a.length:Int))) ((idx a c).bind λb=>((PJ N (b.1,b.2.1,b.2.2.1,b.2.2.2)).bind λj=>(cond (j !=0) (some (Sum.inl false)) (f165.z6 k ((av (c+1)),d,e,f,g,a,h,i))))) (some (Sum.inr (d,e,f,g,a,h,i))))
theorem f165.aaF:∀k,f165.z6 N k=lp (Uk N) 0 16 (tq 165) 16 f165.Ul f165.Um k|0=>rfl|k+1=>funext λ⟨a,b,c,d,e,f,g,h⟩=>by rw[f165.z6,f165.aaF k];kernel_rfl
def aoj:ah:=(Uk N).aa N 0 16 f165.Ul f165.Um
def Un:List aA×gV->Option Bool|(g,h,c,d,e,f,i,j)=>(((PG N h).bind λl=>(cond (!l) (some true) ((PI N (e,16)).bind λm=>(cond (!m) (some true) (cond (decide (c<0)) (some true) (cond (decide (c>(e.length:Int))) (some true) (cond (decide (d<(-1))) (some true) (cond (decide (d>=(g.length:Int))) (some true) (cond (decide ((f.length:Int)<1)) (some true) (some (decide ((f.length:Int)>200)))))))))))).bind λn=>(cond n (some false) ((f165.aP N N (g,0,h,c,d,e,f,i,j)).bind λo=>(match o with|.inl p=>some p|.inr a=>((f165.z6 N N (0,a.1,a.2.1,a.2.2.1,a.2.2.2.1,a.2.2.2.2.1,a.2.2.2.2.2.1,a.2.2.2.2.2.2)).bind λq=>(match q with|.inl r=>some r|.inr b=>(((PK N (b.2.2.2.2.2.1,(b.2.2.2.2.1.length:Int))).bind λs=>(cond s ((PK N (b.2.2.2.2.2.2,(b.2.2.2.2.1.length:Int))).bind λt=>some t) (some false))).bind λu=>some u)))))))
def adE:ah:=(adC N).put 165 adD (Un N)
theorem ai7:az bJ (adE N):=(ai6 N).put ((((ai6 N).on adD).aa N 0 6 f165.bQ f165.bR).aa N 0 16 f165.Ul f165.Um) _ _ _ (funext λ⟨a,b,c,d,e,f,g,h⟩=>by rw[Un,f165.cV N N,f165.aaF N N];kernel_rfl)
def adF:bN:=⟨[.agg (cF aY)],[(false,[.bool])],0,[(0,1,30,.bool)],[],[],[]⟩
def Uo:ah:=(adE N).on adF
def f127.ig:bq:=tm [(1,.c (.ptr 0 1 0 0 0)),(3,.c (.sl (.int .i64) .d)),(5,.c (.int .i64))] [] [(0,1,.box 0 (cF aY))] 1 [] 1
def f127.ij:bn:=[(.ret,tm [(2,.c (.bool))] [] [] 1 [] 0),(.exit 0,tm [(1,.c (.ptr 0 1 0 0 0))] [] [(0,1,.box 0 (cF aY))] 1 [] 1)]
def f127.cI(N:Nat):Nat->List Int×Int×dc->Option (Bool⊕dc)|0,_=>none|k+1,(a,b,c,d,e)=>(cond (decide (b<(a.length:Int))) ((idx a b).bind λf=>(cond (decide (f>256)) (some (Sum.inl false)) (f127.cI N k (a,(av (b+1)),c,d,e)))) (some (Sum.inr (c,d,e))))
theorem f127.kW:∀k,f127.cI N k=lp (Uo N) 0 7 (tq 127) 7 f127.ig f127.ij k|0=>rfl|k+1=>funext λ⟨a,b,c,d,e⟩=>by rw[f127.cI,f127.kW k];kernel_rfl
def Up:ah:=(Uo N).aa N 0 7 f127.ig f127.ij
def f127.jv:bq:=tm [(1,.c (.ptr 0 1 0 0 0)),(6,.c (.int .i64))] [] [(0,1,.box 0 (cF aY))] 1 [] 1
def f127.jw:bn:=[(.ret,tm [(2,.c (.bool))] [] [] 1 [] 0),(.exit 2,tm [(1,.c (.ptr 0 1 0 0 0))] [] [(0,1,.box 0 (cF aY))] 1 [] 1)]
def f127.cQ(N:Nat):Nat->Int×dc->Option (Bool⊕dc)|0,_=>none|k+1,(b,c,a,d)=>(cond (decide (b<(a.length:Int))) ((idx a b).bind λe=>(cond (decide ((e.length:Int)>64)) (some (Sum.inl false)) (f127.cQ N k ((av (b+1)),c,a,d)))) (some (Sum.inr (c,a,d))))
theorem f127.nc:∀k,f127.cQ N k=lp (Up N) 0 17 (tq 127) 17 f127.jv f127.jw k|0=>rfl|k+1=>funext λ⟨a,b,c,d⟩=>by rw[f127.cQ,f127.nc k];kernel_rfl
def Uq:ah:=(Up N).aa N 0 17 f127.jv f127.jw
def f127.CR:bq:=tm [(1,.c (.ptr 0 1 0 0 0)),(7,.c (.int .i64)),(8,.c (.int .i64))] [] [(0,1,.box 0 (cF aY))] 1 [] 1
def f127.CS:bn:=[(.ret,tm [(2,.c (.bool))] [] [] 1 [] 0),(.exit 6,tm [(1,.c (.ptr 0 1 0 0 0)),(7,.c (.int .i64))] [] [(0,1,.box 0 (cF aY))] 1 [] 1)]
def f127.nQ(N:Nat):Nat->Int×Int×dc->Option (Bool⊕(Int×dc))|0,_=>none|k+1,(a,c,d,e,b)=>(cond (decide (c<a)) ((idx b c).bind λf=>((idx b a).bind λg=>(cond (f.1==g.1) (some (Sum.inl false)) (f127.nQ N k (a,(av (c+1)),d,e,b))))) (some (Sum.inr (a,d,e,b))))
theorem f127.JK:∀k,f127.nQ N k=lp (Uq N) 0 36 (tq 127) 36 f127.CR f127.CS k|0=>rfl|k+1=>funext λ⟨a,b,c,d,e⟩=>by rw[f127.nQ,f127.JK k];kernel_rfl
def Ur:ah:=(Uq N).aa N 0 36 f127.CR f127.CS
def f127.tF:bq:=tm [(1,.c (.ptr 0 1 0 0 0)),(7,.c (.int .i64))] [] [(0,1,.box 0 (cF aY))] 1 [] 1
def f127.tG:bn:=[(.ret,tm [(2,.c (.bool))] [] [] 1 [] 0),(.exit 4,tm [] [] [] 1 [] 0)]
def f127.je:Nat->Int×dc->Option (Bool⊕Unit)|0,_=>none|k+1,(c,e,f,d)=>(cond (decide (c<(d.length:Int))) ((idx d c).bind λa=>((Un N (e,a.1,a.2.1,a.2.2.1,a.2.2.2.1,a.2.2.2.2.1,a.2.2.2.2.2.1,a.2.2.2.2.2.2)).bind λg=>(cond (!g) (some (Sum.inl false)) ((f127.nQ N N (c,0,e,f,d)).bind λh=>(match h with|.inl i=>some (Sum.inl i)|.inr b=>f127.je k ((av (b.1+1)),b.2.1,b.2.2.1,b.2.2.2)))))) (some (Sum.inr ())))
theorem f127.z7:∀k,f127.je N k=lp (Ur N) 0 27 (tq 127) 27 f127.tF f127.tG k|0=>rfl|k+1=>funext λ⟨a,b,c,d⟩=>by rw[f127.je,f127.z7 k,f127.JK N N];kernel_rfl
def aok:ah:=(Ur N).aa N 0 27 f127.tF f127.tG
def Us:dc->Option Bool|(a,e,b)=>(((Uf N a).bind λf=>(cond (f !=0) (some true) (cond (decide ((e.length:Int)>32)) (some true) (cond (decide ((b.length:Int)<1)) (some true) (some (decide ((b.length:Int)>32))))))).bind λg=>(cond g (some false) ((L7 N a).bind λh=>((f127.cI N N (h.1,0,a,e,b)).bind λi=>(match i with|.inl j=>some j|.inr c=>((f127.cQ N N (0,c.1,c.2.1,c.2.2)).bind λl=>(match l with|.inl m=>some m|.inr d=>((f127.je N N (0,d.1,d.2.1,d.2.2)).bind λn=>(match n with|.inl o=>some o|.inr p=>some true)))))))))
def adG:ah:=(adE N).put 127 adF (Us N)
theorem ai8:az bJ (adG N):=(ai7 N).put ((((((ai7 N).on adF).aa N 0 7 f127.ig f127.ij).aa N 0 17 f127.jv f127.jw).aa N 0 36 f127.CR f127.CS).aa N 0 27 f127.tF f127.tG) _ _ _ (funext λ⟨a,b,c⟩=>by rw[Us,f127.kW N N,f127.nc N N,f127.z7 N N];kernel_rfl)
def adH:bN:=⟨[.c (.int .u64)],[(false,[.sl (.int .u8) .d])],1,[],[],[(0,2,(.int .u8)),(0,3,(.int .u8)),(0,11,(.int .u8)),(0,18,(.int .u8))],[]⟩
def Ut:ah:=(adG N).on adH
def f169.rj:bq:=tm [(0,.c (.int .u64)),(3,.c (.ref 0 3 0 (.int .u8)))] [] [(0,3,.row 0 (.int .u8))] 1 [] 1
def f169.rq:bn:=[(.exit 0,tm [(0,.c (.int .u64)),(3,.c (.ref 0 3 0 (.int .u8)))] [] [(0,3,.row 0 (.int .u8))] 1 [] 1)]
def f169.gM(N:Nat):Nat->Int×List Int->Option ((Int×List Int))|0,_=>none|k+1,(a,b)=>(cond (decide (a>=128)) (aF (room (b.length+1) 1) (f169.gM N k ((aL (Int.tdiv a 128)),(b++[(W1 ((W1 (Int.tmod a 128))+128))])))) (some (a,b)))
theorem f169.wV:∀k,f169.gM N k=lp (Ut N) 0 3 (tq 169) 3 f169.rj f169.rq k|0=>rfl|k+1=>funext λ⟨a,b⟩=>by rw[f169.gM,f169.wV k];kernel_rfl
def aol:ah:=(Ut N).aa N 0 3 f169.rj f169.rq
def iL:Int->Option (List Int)|b=>((f169.gM N N (b,([]:List Int))).bind λa=>(aF (room (a.2.length+1) 1) (some (a.2++[(W1 a.1)]))))
def ai9:ah:=(adG N).put 169 adH (iL N)
theorem aja:az bJ (ai9 N):=(ai8 N).put (((ai8 N).on adH).aa N 0 3 f169.rj f169.rq) _ _ _ (funext λa=>by rw[iL,f169.wV N N];kernel_rfl)
def ajb:bN:=⟨[.c (.int .i64)],[(false,[.sl (.int .u8) .d])],1,[],[],[(0,2,(.int .u8))],[]⟩
def vr:Int->Option (List Int)|a=>((iL N (aL a)).bind λb=>some b)
def ajc:ah:=(ai9 N).put 166 ajb (vr N)
theorem ajd:az bJ (ajc N):=(aja N).put ((aja N).on ajb) _ _ _ (funext λa=>by rw[vr];kernel_rfl)
def aje:bN:=sg [.c (.str)] [(false,[.sl (.int .u8) .d])]
def L9:List UInt8->Option (List Int)|a=>((iL N (aL (a.length:Int))).bind λb=>(aF (room (b.length+(bK a).length) 1) (some (b++(bK a)))))
def adI:ah:=(ajc N).put 168 aje (L9 N)
theorem ajf:az bJ (adI N):=(ajd N).put ((ajd N).on aje) _ _ _ (funext λa=>by rw[L9];kernel_rfl)
def adJ:bN:=sg [.c (.sl cS .bC)] [(false,[.sl (.int .u8) .d])]
def Uu:ah:=(adI N).on adJ
def f167.eC:bq:=tm [(0,.c (.sl cS .bC)),(3,.c (.ref 0 7 0 (.int .u8))),(4,.c (.int .i64))] [] [(0,7,.row 0 (.int .u8))] 1 [] 1
def f167.eD:bn:=[(.exit 0,tm [(3,.c (.ref 0 7 0 (.int .u8)))] [] [(0,7,.row 0 (.int .u8))] 1 [] 1)]
def f167.bz:Nat->List Field×Int×List Int->Option ((List Int))|0,_=>none|k+1,(a,b,c)=>(cond (decide (b<(a.length:Int))) ((idx a b).bind λf=>((L9 N f.1).bind λd=>(aF (room (c.length+d.length) 1) ((idx a b).bind λg=>((vr N g.2).bind λe=>(aF (room ((c++d).length+e.length) 1) (f167.bz k (a,(av (b+1)),((c++d)++e))))))))) (some c))
theorem f167.gL:∀k,f167.bz N k=lp (Uu N) 0 4 (tq 167) 4 f167.eC f167.eD k|0=>rfl|k+1=>funext λ⟨a,b,c⟩=>by rw[f167.bz,f167.gL k];kernel_rfl
def aom:ah:=(Uu N).aa N 0 4 f167.eC f167.eD
def PL:List Field->Option (List Int)|a=>((vr N (a.length:Int)).bind λb=>((f167.bz N N (a,0,b)).bind λc=>some c))
def ajg:ah:=(adI N).put 167 adJ (PL N)
theorem ajh:az bJ (ajg N):=(ajf N).put (((ajf N).on adJ).aa N 0 4 f167.eC f167.eD) _ _ _ (funext λa=>by rw[PL,f167.gL N N];kernel_rfl)
def aji:bN:=sg [.c (.int .i64)] [(false,[.int .u64])]
def ry(N:Nat):Int->Option Int|a=>(cond (decide (a>=0)) (some (aL ((aL a)*2))) (some (aL ((aL ((aL (av (0-(av (a+1)))))*2))+1))))
def ajj:ah:=(ajg N).put 170 aji (ry N)
theorem ajk:az bJ (ajj N):=(ajh N).put ((ajh N).on aji) _ _ _ (funext λa=>by rw[ry];kernel_rfl)
def ajl:bN:=⟨[.c (.int .u8)],[(false,[.bool])],0,[(0,1,2,.bool)],[],[],[]⟩
def ux(N:Nat):Int->Option Bool|a=>((cond (a==110) (some true) (cond (a==103) (some true) (some (a==101)))).bind λb=>some b)
def ajm:ah:=(ajj N).put 208 ajl (ux N)
theorem ajn:az bJ (ajm N):=(ajk N).put ((ajk N).on ajl) _ _ _ (funext λa=>by rw[ux];kernel_rfl)
def ajo:bN:=⟨[.agg (aZ bf)],[(false,[.sl (.int .u8) .d])],0,[],[(0,5),(0,100005)],[(0,9,(.int .u8))],[]⟩
def Uv:ic->Option (List Int)|(a,E,G,H)=>((Hh N a).bind λb=>((JJ N (a,E,G,H)).bind λc=>((idx b 0).bind λc2=>(cond ((c2.toNat:Int)==45) ((idx b 1).bind λc3=>(cond ((c3.toNat:Int)==45) ((idx b 2).bind λc4=>(cond ((c4.toNat:Int)==45) (some [a]) ((idx b 2).bind λc5=>((ux N (c5.toNat:Int)).bind λI=>(cond I ((ry N c.2.2).bind λJ=>((iL N J).bind λm=>(aF (room (1+m.length) 1) (some ([a]++m))))) ((iL N (aL c.2.2)).bind λn=>(aF (room (1+n.length) 1) (some ([a]++n))))))))) ((idx b 1).bind λc10=>((ux N (c10.toNat:Int)).bind λK=>(cond K ((ry N c.2.1).bind λL=>((iL N L).bind λf=>(aF (room (1+f.length) 1) ((idx b 2).bind λc14=>(cond ((c14.toNat:Int)==45) (some ([a]++f)) ((idx b 2).bind λc15=>((ux N (c15.toNat:Int)).bind λM=>(cond M ((ry N c.2.2).bind λO=>((iL N O).bind λo=>(aF (room (([a]++f).length+o.length) 1) (some (([a]++f)++o))))) ((iL N (aL c.2.2)).bind λp=>(aF (room (([a]++f).length+p.length) 1) (some (([a]++f)++p)))))))))))) ((iL N (aL c.2.1)).bind λg=>(aF (room (1+g.length) 1) ((idx b 2).bind λc21=>(cond ((c21.toNat:Int)==45) (some ([a]++g)) ((idx b 2).bind λc22=>((ux N (c22.toNat:Int)).bind λP=>(cond P ((ry N c.2.2).bind λQ=>((iL N Q).bind λq=>(aF (room (([a]++g).length+q.length) 1) (some (([a]++g)++q))))) ((iL N (aL c.2.2)).bind λr=>(aF (room (([a]++g).length+r.length) 1) (some (([a]++g)++r)))))))))))))))) ((idx b 0).bind λc27=>((ux N (c27.toNat:Int)).bind λR=>(cond R ((ry N c.1).bind λS=>((iL N S).bind λd=>(aF (room (1+d.length) 1) ((idx b 1).bind λc31=>(cond ((c31.toNat:Int)==45) ((idx b 2).bind λc32=>(cond ((c32.toNat:Int)==45) (some ([a]++d)) ((idx b 2).bind λc33=>((ux N (c33.toNat:Int)).bind λT=>(cond T ((ry N c.2.2).bind λU=>((iL N U).bind λs=>(aF (room (([a]++d).length+s.length) 1) (some (([a]++d)++s))))) ((iL N (aL c.2.2)).bind λt=>(aF (room (([a]++d).length+t.length) 1) (some (([a]++d)++t))))))))) ((idx b 1).bind λc38=>((ux N (c38.toNat:Int)).bind λV=>(cond V ((ry N c.2.1).bind λW=>((iL N W).bind λh=>(aF (room (([a]++d).length+h.length) 1) ((idx b 2).bind λc42=>(cond ((c42.toNat:Int)==45) (some (([a]++d)++h)) ((idx b 2).bind λc43=>((ux N (c43.toNat:Int)).bind λX=>(cond X ((ry N c.2.2).bind λY=>((iL N Y).bind λu=>(aF (room ((([a]++d)++h).length+u.length) 1) (some ((([a]++d)++h)++u))))) ((iL N (aL c.2.2)).bind λv=>(aF (room ((([a]++d)++h).length+v.length) 1) (some ((([a]++d)++h)++v)))))))))))) ((iL N (aL c.2.1)).bind λi=>(aF (room (([a]++d).length+i.length) 1) ((idx b 2).bind λc49=>(cond ((c49.toNat:Int)==45) (some (([a]++d)++i)) ((idx b 2).bind λc50=>((ux N (c50.toNat:Int)).bind λZ=>(cond Z ((ry N c.2.2).bind λa0=>((iL N a0).bind λw=>(aF (room ((([a]++d)++i).length+w.length) 1) (some ((([a]++d)++i)++w))))) ((iL N (aL c.2.2)).bind λx=>(aF (room ((([a]++d)++i).length+x.length) 1) (some ((([a]++d)++i)++x))))))))))))))))))) ((iL N (aL c.1)).bind λe=>(aF (room (1+e.length) 1) ((idx b 1).bind λc56=>(cond ((c56.toNat:Int)==45) ((idx b 2).bind λc57=>(cond ((c57.toNat:Int)==45) (some ([a]++e)) ((idx b 2).bind λc58=>((ux N (c58.toNat:Int)).bind λa1=>(cond a1 ((ry N c.2.2).bind λa2=>((iL N a2).bind λy=>(aF (room (([a]++e).length+y.length) 1) (some (([a]++e)++y))))) ((iL N (aL c.2.2)).bind λz=>(aF (room (([a]++e).length+z.length) 1) (some (([a]++e)++z))))))))) ((idx b 1).bind λc63=>((ux N (c63.toNat:Int)).bind λa3=>(cond a3 ((ry N c.2.1).bind λa4=>((iL N a4).bind λj=>(aF (room (([a]++e).length+j.length) 1) ((idx b 2).bind λc67=>(cond ((c67.toNat:Int)==45) (some (([a]++e)++j)) ((idx b 2).bind λc68=>((ux N (c68.toNat:Int)).bind λa5=>(cond a5 ((ry N c.2.2).bind λa6=>((iL N a6).bind λA=>(aF (room ((([a]++e)++j).length+A.length) 1) (some ((([a]++e)++j)++A))))) ((iL N (aL c.2.2)).bind λB=>(aF (room ((([a]++e)++j).length+B.length) 1) (some ((([a]++e)++j)++B)))))))))))) ((iL N (aL c.2.1)).bind λl=>(aF (room (([a]++e).length+l.length) 1) ((idx b 2).bind λc74=>(cond ((c74.toNat:Int)==45) (some (([a]++e)++l)) ((idx b 2).bind λc75=>((ux N (c75.toNat:Int)).bind λa7=>(cond a7 ((ry N c.2.2).bind λa8=>((iL N a8).bind λC=>(aF (room ((([a]++e)++l).length+C.length) 1) (some ((([a]++e)++l)++C))))) ((iL N (aL c.2.2)).bind λD=>(aF (room ((([a]++e)++l).length+D.length) 1) (some ((([a]++e)++l)++D)))))))))))))))))))))))))
def adK:ah:=(ajm N).put 171 ajo (Uv N)
theorem ajp:az bJ (adK N):=(ajn N).put ((ajn N).on ajo) _ _ _ (funext λ⟨a,b,c,d⟩=>by rw[Uv];kernel_rfl)
def adL:bN:=sg [.c (.sl ia .bC)] [(false,[.sl (.int .u8) .d])]
def Uw:ah:=(adK N).on adL
def f172.jB:bq:=tm [(0,.c (.sl ia .bC)),(3,.c (.ref 0 9 0 (.int .u8))),(4,.c (.int .i64)),(5,.c (.int .i64))] [] [(0,9,.row 0 (.int .u8))] 1 [] 1
def f172.jC:bn:=[(.exit 0,tm [(3,.c (.ref 0 9 0 (.int .u8)))] [] [(0,9,.row 0 (.int .u8))] 1 [] 1)]
def f172.cW:Nat->List eN×Int×Int×List Int->Option ((List Int))|0,_=>none|k+1,(a,f,b,c)=>(cond (decide (b<(a.length:Int))) ((idx a b).bind λg=>((iL N (aL (av (g.1-f)))).bind λd=>(aF (room (c.length+d.length) 1) ((idx a b).bind λh=>((iL N h.2).bind λe=>(aF (room ((c++d).length+e.length) 1) ((idx a b).bind λi=>f172.cW k (a,i.1,(av (b+1)),((c++d)++e))))))))) (some c))
theorem f172.nh:∀k,f172.cW N k=lp (Uw N) 0 5 (tq 172) 5 f172.jB f172.jC k|0=>rfl|k+1=>funext λ⟨a,b,c,d⟩=>by rw[f172.cW,f172.nh k];kernel_rfl
def aoB:ah:=(Uw N).aa N 0 5 f172.jB f172.jC
def PM:List eN->Option (List Int)|a=>((iL N (aL (a.length:Int))).bind λb=>((f172.cW N N (a,0,0,b)).bind λc=>some c))
def adM:ah:=(adK N).put 172 adL (PM N)
theorem ajq:az bJ (adM N):=(ajp N).put (((ajp N).on adL).aa N 0 5 f172.jB f172.jC) _ _ _ (funext λa=>by rw[PM,f172.nh N N];kernel_rfl)
def adN:bN:=⟨[.agg (cF aY)],[(false,[.sl (.int .u8) .d])],0,[(0,13,33,.bool)],[],[(0,29,(.int .u8))],[]⟩
def Ux:ah:=(adM N).on adN
def f128.eC:bq:=tm [(1,.c (.ptr 0 1 0 0 0)),(3,.c (.ref 0 13 1 (.int .u8))),(4,.c (.int .i64))] [] [(0,1,.box 0 (cF aY)),(0,13,.row 1 (.int .u8))] 1 [] 2
def f128.eD:bn:=[(.exit 0,tm [(1,.c (.ptr 0 1 0 0 0)),(3,.c (.ref 0 13 1 (.int .u8)))] [] [(0,1,.box 0 (cF aY)),(0,13,.row 1 (.int .u8))] 1 [] 2)]
def f128.bz:Nat->Int×bP (List Int)->Option ((bP (List Int)))|0,_=>none|k+1,(d,c,e,f,b)=>(cond (decide (d<(c.length:Int))) ((idx c d).bind λa=>(aF (room (b.length+1) 1) ((cond (a.1==4) (some true) (some (a.1==7))).bind λl=>(cond l ((vr N a.2.1).bind λh=>(aF (room ((b++[a.1]).length+h.length) 1) (f128.bz k ((av (d+1)),c,e,f,((b++[a.1])++h))))) (cond (a.1==6) ((vr N a.2.1).bind λg=>(aF (room ((b++[a.1]).length+g.length) 1) ((vr N a.2.2.1).bind λi=>(aF (room (((b++[a.1])++g).length+i.length) 1) (f128.bz k ((av (d+1)),c,e,f,(((b++[a.1])++g)++i))))))) (cond (a.1==5) ((PL N a.2.2.2).bind λj=>(aF (room ((b++[a.1]).length+j.length) 1) (f128.bz k ((av (d+1)),c,e,f,((b++[a.1])++j))))) (f128.bz k ((av (d+1)),c,e,f,(b++[a.1]))))))))) (some (c,e,f,b)))
theorem f128.gL:∀k,f128.bz N k=lp (Ux N) 0 4 (tq 128) 4 f128.eC f128.eD k|0=>rfl|k+1=>funext λ⟨a,b,c,d,e⟩=>by rw[f128.bz,f128.gL k];kernel_rfl
def Uy:ah:=(Ux N).aa N 0 4 f128.eC f128.eD
def f128.tF:bq:=tm [(1,.c (.ptr 0 1 0 0 0)),(3,.c (.ref 0 13 1 (.int .u8))),(6,.c (.int .i64))] [] [(0,1,.box 0 (cF aY)),(0,13,.row 1 (.int .u8))] 1 [] 2
def f128.tG:bn:=[(.exit 3,tm [(1,.c (.ptr 0 1 0 0 0)),(3,.c (.ref 0 13 1 (.int .u8)))] [] [(0,1,.box 0 (cF aY)),(0,13,.row 1 (.int .u8))] 1 [] 2)]
def f128.je:Nat->Int×bP (List Int)->Option ((bP (List Int)))|0,_=>none|k+1,(b,d,a,e,c)=>(cond (decide (b<(a.length:Int))) ((idx a b).bind λg=>((L9 N g).bind λf=>(aF (room (c.length+f.length) 1) (f128.je k ((av (b+1)),d,a,e,(c++f)))))) (some (d,a,e,c)))
theorem f128.z7:∀k,f128.je N k=lp (Uy N) 0 27 (tq 128) 27 f128.tF f128.tG k|0=>rfl|k+1=>funext λ⟨a,b,c,d,e⟩=>by rw[f128.je,f128.z7 k];kernel_rfl
def Uz:ah:=(Uy N).aa N 0 27 f128.tF f128.tG
def f128.CM:bq:=tm [(1,.c (.ptr 0 1 0 0 0)),(3,.c (.ref 0 13 1 (.int .u8))),(7,.c (.int .i64)),(8,.c (.ptr 0 8 2 0 0)),(9,.c (.int .i64))] [] [(0,1,.box 0 (cF aY)),(0,13,.row 1 (.int .u8)),(0,8,.box 2 (aZ dK))] 1 [] 3
def f128.CN:bn:=[(.exit 7,tm [(1,.c (.ptr 0 1 0 0 0)),(3,.c (.ref 0 13 1 (.int .u8))),(7,.c (.int .i64)),(8,.c (.ptr 0 8 2 0 0))] [] [(0,1,.box 0 (cF aY)),(0,13,.row 1 (.int .u8)),(0,8,.box 2 (aZ dK))] 1 [] 3)]
def f128.ng:Nat->Int×Int×bP (List Int×gV)->Option ((Int×bP (List Int×gV)))|0,_=>none|k+1,(e,c,f,g,h,d,i,j,l,m,a,n,o)=>(cond (decide (c<(a.length:Int))) ((idx a c).bind λb=>((Uv N (b.1,b.2.1,b.2.2.1,b.2.2.2)).bind λp=>(aF (room (d.length+p.length) 1) (f128.ng k (e,(av (c+1)),f,g,h,(d++p),i,j,l,m,a,n,o))))) (some (e,f,g,h,d,i,j,l,m,a,n,o)))
theorem f128.JI:∀k,f128.ng N k=lp (Uz N) 0 46 (tq 128) 46 f128.CM f128.CN k|0=>rfl|k+1=>funext λ⟨a,b,c,d,e,f,g,h,i,j,l,m,n⟩=>by rw[f128.ng,f128.JI k];kernel_rfl
def UA:ah:=(Uz N).aa N 0 46 f128.CM f128.CN
def f128.CR:bq:=tm [(1,.c (.ptr 0 1 0 0 0)),(3,.c (.ref 0 13 1 (.int .u8))),(7,.c (.int .i64))] [] [(0,1,.box 0 (cF aY)),(0,13,.row 1 (.int .u8))] 1 [] 2
def f128.CS:bn:=[(.exit 5,tm [(3,.c (.ref 0 13 0 (.int .u8)))] [] [(0,13,.row 0 (.int .u8))] 1 [] 1)]
def f128.nQ:Nat->Int×bP (List Int)->Option ((List Int))|0,_=>none|k+1,(g,n,o,h,c)=>(cond (decide (g<(h.length:Int))) ((idx h g).bind λa=>((L9 N a.1).bind λd=>(aF (room (c.length+d.length) 1) ((vr N a.2.1).bind λe=>(aF (room ((c++d).length+e.length) 1) ((ry N a.2.2.1).bind λp=>((iL N p).bind λf=>(aF (room (((c++d)++e).length+f.length) 1) ((PL N a.2.2.2.1).bind λi=>(aF (room ((((c++d)++e)++f).length+i.length) 1) ((vr N (a.2.2.2.2.1.length:Int)).bind λl=>(aF (room (((((c++d)++e)++f)++i).length+l.length) 1) ((f128.ng N N (g,0,n,o,h,(((((c++d)++e)++f)++i)++l),a.1,a.2.1,a.2.2.1,a.2.2.2.1,a.2.2.2.2.1,a.2.2.2.2.2.1,a.2.2.2.2.2.2)).bind λb=>((PM N b.2.2.2.2.2.2.2.2.2.2.1).bind λj=>(aF (room (b.2.2.2.2.1.length+j.length) 1) ((PM N b.2.2.2.2.2.2.2.2.2.2.2).bind λm=>(aF (room ((b.2.2.2.2.1++j).length+m.length) 1) (f128.nQ k ((av (b.1+1)),b.2.1,b.2.2.1,b.2.2.2.1,((b.2.2.2.2.1++j)++m)))))))))))))))))))) (some c))
theorem f128.JK:∀k,f128.nQ N k=lp (UA N) 0 36 (tq 128) 36 f128.CR f128.CS k|0=>rfl|k+1=>funext λ⟨a,b,c,d,e⟩=>by rw[f128.nQ,f128.JK k,f128.JI N N];kernel_rfl
def aoC:ah:=(UA N).aa N 0 36 f128.CR f128.CS
def UB:dc->Option (List Int)|(c,f,g)=>((vr N (c.length:Int)).bind λh=>((f128.bz N N (0,c,f,g,h)).bind λa=>((vr N (a.2.1.length:Int)).bind λd=>(aF (room (a.2.2.2.length+d.length) 1) ((f128.je N N (0,a.1,a.2.1,a.2.2.1,(a.2.2.2++d))).bind λb=>((vr N (b.2.2.1.length:Int)).bind λe=>(aF (room (b.2.2.2.length+e.length) 1) ((f128.nQ N N (0,b.1,b.2.1,b.2.2.1,(b.2.2.2++e))).bind λi=>some i))))))))
def ajr:ah:=(adM N).put 128 adN (UB N)
theorem ajs:az bJ (ajr N):=(ajq N).put ((((((ajq N).on adN).aa N 0 4 f128.eC f128.eD).aa N 0 27 f128.tF f128.tG).aa N 0 46 f128.CM f128.CN).aa N 0 36 f128.CR f128.CS) _ _ _ (funext λ⟨a,b,c⟩=>by rw[UB,f128.gL N N,f128.z7 N N,f128.JK N N];kernel_rfl)
def s97:bN:=sg [.agg (cF aY)] [(false,[.int .i64])]
def F97:dc->Option Int|(a,b,c)=>((Us N (a,b,c)).bind λd=>(cond (!d) (some 8) ((UB N (a,b,c)).bind λe=>(cond (decide ((e.length:Int)>20000)) (some 4) (some 0)))))
def G97:ah:=(ajr N).put 97 s97 (F97 N)
theorem K97:az bJ (G97 N):=(ajs N).put ((ajs N).on s97) _ _ _ (funext λ⟨a,b,c⟩=>by rw[F97];kernel_rfl)
def adO:bN:=⟨[.c (.sl bf .bC)],[(false,[.int .i64])],0,[(0,1,12,.bool),(0,11,49,.bool)],[],[],[]⟩
def UC:ah:=(G97 N).on adO
def f173.bQ:bq:=tm [(0,.c (.sl bf .bC)),(3,.c (.int .i64))] [] [] 1 [] 0
def f173.bR:bn:=[(.ret,tm [(2,.c (.int .i64))] [] [] 1 [] 0),(.exit 0,tm [(0,.c (.sl bf .bC))] [] [] 1 [] 0)]
def f173.aP:Nat->List Instr×Int->Option (Int⊕(List Instr))|0,_=>none|k+1,(b,c)=>(cond (decide (c<(b.length:Int))) ((idx b c).bind λa=>(((PJ N (a.1,a.2.1,a.2.2.1,a.2.2.2)).bind λd=>(cond (d !=0) (some true) (cond (a.1==22) (cond (decide (a.2.1>=(b.length:Int))) (some true) (cond (a.1==23) (some (decide (a.2.2.1>=(b.length:Int)))) (some false))) (cond (a.1==23) (some (decide (a.2.2.1>=(b.length:Int)))) (some false))))).bind λe=>(cond e (some (Sum.inl 8)) (f173.aP k (b,(av (c+1))))))) (some (Sum.inr b)))
theorem f173.cV:∀k,f173.aP N k=lp (UC N) 0 6 (tq 173) 6 f173.bQ f173.bR k|0=>rfl|k+1=>funext λ⟨a,b⟩=>by rw[f173.aP,f173.cV k];kernel_rfl
def aoE:ah:=(UC N).aa N 0 6 f173.bQ f173.bR
def UD:List Instr->Option Int|b=>((cond (decide ((b.length:Int)<1)) (some true) (some (decide ((b.length:Int)>200)))).bind λd=>(cond d (some 8) ((f173.aP N N (b,0)).bind λe=>(match e with|.inl f=>some f|.inr c=>((idx c (av ((c.length:Int)-1))).bind λa=>(cond (!(a.1==34&&(a.2.1==(-1)&&(a.2.2.1==0&&(a.2.2.2==0&&true))))) (some 8) (some 0)))))))
def aju:ah:=(G97 N).put 173 adO (UD N)
theorem ajv:az bJ (aju N):=(K97 N).put (((K97 N).on adO).aa N 0 6 f173.bQ f173.bR) _ _ _ (funext λa=>by rw[UD,f173.cV N N];kernel_rfl)
def ajw:bN:=⟨[.c (.sl bf .bC),.c (.int .i64)],[(false,[.sl (.int .i64) .d])],0,[(0,7,12,.bool),(0,5,12,.bool)],[],[(0,20,(.int .i64)),(0,30,(.int .i64)),(0,41,(.int .i64)),(0,44,(.int .i64))],[]⟩
def PN(N:Nat):List Instr×Int->Option (List Int)|(c,b)=>((idx c b).bind λa=>((cond (a.1==34) (some true) ((cond (a.1==28) (some true) (some (a.1==30))).bind λd=>some d)).bind λe=>(cond e (some []) (cond (a.1==22) (some [a.2.1]) (cond (a.1==23) (cond (a.2.2.1==(av (b+1))) (some [(av (b+1))]) (some [(min (av (b+1)) a.2.2.1),(max (av (b+1)) a.2.2.1)])) (some [(av (b+1))]))))))
def adP:ah:=(aju N).put 209 ajw (PN N)
theorem ajx:az bJ (adP N):=(ajv N).put ((ajv N).on ajw) _ _ _ (funext λ⟨a,b⟩=>by rw[PN];kernel_rfl)
def adQ:bN:=⟨[.c (.sl bf .bC)],[(false,[.sl .bool .d])],0,[(0,20,32,.bool)],[],[(0,10,.bool)],[]⟩
def UE:ah:=(adP N).on adQ
def f174.tj:bq:=tm [(0,.c (.sl bf .bC)),(3,.c (.ref 0 10 0 .bool)),(4,.c (.bool)),(5,.c (.int .i64)),(6,.c (.sl (.int .i64) .d)),(7,.c (.int .i64))] [] [(0,10,.row 0 .bool)] 1 [] 1
def f174.tn:bn:=[(.exit 4,tm [(0,.c (.sl bf .bC)),(3,.c (.ref 0 10 0 .bool)),(4,.c (.bool)),(5,.c (.int .i64))] [] [(0,10,.row 0 .bool)] 1 [] 1)]
def f174.fe(N:Nat):Nat->List Instr×Bool×Int×List Int×Int×List Bool->Option ((List Instr×Bool×Int×List Bool))|0,_=>none|k+1,(e,g,b,c,d,a)=>((cond (decide (d<(c.length:Int))) (aF (ga b a.length) ((a[b.toNat]?).bind λi=>some i)) (some false)).bind λj=>(cond j ((idx c d).bind λh=>(aF (ga h a.length) ((a[h.toNat]?).bind λl=>(cond (!l) ((idx c d).bind λf=>(aF (ga f a.length) ((a[f.toNat]?).bind λm=>f174.fe N k (e,true,b,c,(av (d+1)),(a.set f.toNat true))))) (f174.fe N k (e,g,b,c,(av (d+1)),a)))))) (some (e,g,b,a))))
theorem f174.zS:∀k,f174.fe N k=lp (UE N) 0 19 (tq 174) 19 f174.tj f174.tn k|0=>rfl|k+1=>funext λ⟨a,b,c,d,e,f⟩=>by rw[f174.fe,f174.zS k];kernel_rfl
def UF:ah:=(UE N).aa N 0 19 f174.tj f174.tn
def f174.tB:bq:=tm [(0,.c (.sl bf .bC)),(3,.c (.ref 0 10 0 .bool)),(4,.c (.bool)),(5,.c (.int .i64))] [] [(0,10,.row 0 .bool)] 1 [] 1
def f174.tC:bn:=[(.exit 2,tm [(0,.c (.sl bf .bC)),(3,.c (.ref 0 10 0 .bool)),(4,.c (.bool))] [] [(0,10,.row 0 .bool)] 1 [] 1)]
def f174.jd:Nat->List Instr×Bool×Int×List Bool->Option ((List Instr×Bool×List Bool))|0,_=>none|k+1,(a,d,c,e)=>(cond (decide (c<(a.length:Int))) ((PN N (a,c)).bind λf=>((f174.fe N N (a,d,c,f,0,e)).bind λb=>f174.jd k (b.1,b.2.1,(av (b.2.2.1+1)),b.2.2.2))) (some (a,d,e)))
theorem f174.zW:∀k,f174.jd N k=lp (UF N) 0 12 (tq 174) 12 f174.tB f174.tC k|0=>rfl|k+1=>funext λ⟨a,b,c,d⟩=>by rw[f174.jd,f174.zW k,f174.zS N N];kernel_rfl
def UG:ah:=(UF N).aa N 0 12 f174.tB f174.tC
def f174.jB:bq:=tm [(0,.c (.sl bf .bC)),(3,.c (.ref 0 10 0 .bool)),(4,.c (.bool))] [] [(0,10,.row 0 .bool)] 1 [] 1
def f174.jC:bn:=[(.exit 0,tm [(3,.c (.ref 0 10 0 .bool))] [] [(0,10,.row 0 .bool)] 1 [] 1)]
def f174.cW:Nat->List Instr×Bool×List Bool->Option ((List Bool))|0,_=>none|k+1,(c,d,b)=>(cond d ((f174.jd N N (c,false,0,b)).bind λa=>f174.cW k (a.1,a.2.1,a.2.2)) (some b))
theorem f174.nh:∀k,f174.cW N k=lp (UG N) 0 5 (tq 174) 5 f174.jB f174.jC k|0=>rfl|k+1=>funext λ⟨a,b,c⟩=>by rw[f174.cW,f174.nh k,f174.zW N N];kernel_rfl
def aoF:ah:=(UG N).aa N 0 5 f174.jB f174.jC
def PO:List Instr->Option (List Bool)|a=>(aF (decide (0<=(a.length:Int))) (aF (decide (0<=(a.length:Int))) (aF (decide ((Int.toNat (a.length:Int))<=(Int.toNat (a.length:Int)))&&room (Int.toNat (a.length:Int)) 1) (aF (ga 0 (List.replicate (Int.toNat (a.length:Int)) false).length) (((List.replicate (Int.toNat (a.length:Int)) false)[(Int.toNat 0)]?).bind λc=>((f174.cW N N (a,true,((List.replicate (Int.toNat (a.length:Int)) false).set (Int.toNat 0) true))).bind λb=>some b))))))
def ajy:ah:=(adP N).put 174 adQ (PO N)
theorem ajz:az bJ (ajy N):=(ajx N).put (((((ajx N).on adQ).aa N 0 19 f174.tj f174.tn).aa N 0 12 f174.tB f174.tC).aa N 0 5 f174.jB f174.jC) _ _ _ (funext λa=>by rw[PO,f174.nh N N];kernel_rfl)
def ajA:bN:=⟨[.agg (aZ bf)],[(false,[.sl (.int .i64) .d]),(false,[.sl (.int .i64) .d])],0,[(0,9,33,.bool),(0,12,55,.bool),(0,100009,33,.bool),(0,100012,55,.bool)],[(0,5),(0,100005)],[(0,38,(.int .i64)),(0,60,(.int .i64))],[]⟩
def Ma:ic->Option (List Int×List Int)|(c,d,e,f)=>((Hh N c).bind λb=>((JJ N (c,d,e,f)).bind λa=>(((idx b 0).bind λc2=>(cond ((c2.toNat:Int)==114) (some (decide (a.1>=0))) ((idx b 0).bind λc3=>(cond ((c3.toNat:Int)==101) (some (decide (a.1>=0))) (some false))))).bind λg=>(cond g (aF (room 1 8) (((idx b 0).bind λc5=>(cond ((c5.toNat:Int)==119) (some (decide (a.1>=0))) ((idx b 0).bind λc6=>(cond ((c6.toNat:Int)==103) (some (decide (a.1>=0))) (some false))))).bind λh=>(cond h (aF (room 1 8) (((idx b 1).bind λc8=>(cond ((c8.toNat:Int)==114) (some (decide (a.2.1>=0))) ((idx b 1).bind λc9=>(cond ((c9.toNat:Int)==101) (some (decide (a.2.1>=0))) (some false))))).bind λi=>(cond i (aF (room (1+1) 8) (((idx b 1).bind λc11=>(cond ((c11.toNat:Int)==119) (some (decide (a.2.1>=0))) ((idx b 1).bind λc12=>(cond ((c12.toNat:Int)==103) (some (decide (a.2.1>=0))) (some false))))).bind λj=>(cond j (aF (room (1+1) 8) (((idx b 2).bind λc14=>(cond ((c14.toNat:Int)==114) (some (decide (a.2.2>=0))) ((idx b 2).bind λc15=>(cond ((c15.toNat:Int)==101) (some (decide (a.2.2>=0))) (some false))))).bind λl=>(cond l (aF (room (2+1) 8) (((idx b 2).bind λc17=>(cond ((c17.toNat:Int)==119) (some (decide (a.2.2>=0))) ((idx b 2).bind λc18=>(cond ((c18.toNat:Int)==103) (some (decide (a.2.2>=0))) (some false))))).bind λm=>(cond m (aF (room (2+1) 8) (some ((([a.1]++[a.2.1])++[a.2.2]),(([a.1]++[a.2.1])++[a.2.2])))) (some ((([a.1]++[a.2.1])++[a.2.2]),([a.1]++[a.2.1])))))) (((idx b 2).bind λc20=>(cond ((c20.toNat:Int)==119) (some (decide (a.2.2>=0))) ((idx b 2).bind λc21=>(cond ((c21.toNat:Int)==103) (some (decide (a.2.2>=0))) (some false))))).bind λn=>(cond n (aF (room (2+1) 8) (some (([a.1]++[a.2.1]),(([a.1]++[a.2.1])++[a.2.2])))) (some (([a.1]++[a.2.1]),([a.1]++[a.2.1])))))))) (((idx b 2).bind λc23=>(cond ((c23.toNat:Int)==114) (some (decide (a.2.2>=0))) ((idx b 2).bind λc24=>(cond ((c24.toNat:Int)==101) (some (decide (a.2.2>=0))) (some false))))).bind λo=>(cond o (aF (room (2+1) 8) (((idx b 2).bind λc26=>(cond ((c26.toNat:Int)==119) (some (decide (a.2.2>=0))) ((idx b 2).bind λc27=>(cond ((c27.toNat:Int)==103) (some (decide (a.2.2>=0))) (some false))))).bind λp=>(cond p (aF (room (1+1) 8) (some ((([a.1]++[a.2.1])++[a.2.2]),([a.1]++[a.2.2])))) (some ((([a.1]++[a.2.1])++[a.2.2]),[a.1]))))) (((idx b 2).bind λc29=>(cond ((c29.toNat:Int)==119) (some (decide (a.2.2>=0))) ((idx b 2).bind λc30=>(cond ((c30.toNat:Int)==103) (some (decide (a.2.2>=0))) (some false))))).bind λq=>(cond q (aF (room (1+1) 8) (some (([a.1]++[a.2.1]),([a.1]++[a.2.2])))) (some (([a.1]++[a.2.1]),[a.1]))))))))) (((idx b 1).bind λc32=>(cond ((c32.toNat:Int)==119) (some (decide (a.2.1>=0))) ((idx b 1).bind λc33=>(cond ((c33.toNat:Int)==103) (some (decide (a.2.1>=0))) (some false))))).bind λr=>(cond r (aF (room (1+1) 8) (((idx b 2).bind λc35=>(cond ((c35.toNat:Int)==114) (some (decide (a.2.2>=0))) ((idx b 2).bind λc36=>(cond ((c36.toNat:Int)==101) (some (decide (a.2.2>=0))) (some false))))).bind λs=>(cond s (aF (room (1+1) 8) (((idx b 2).bind λc38=>(cond ((c38.toNat:Int)==119) (some (decide (a.2.2>=0))) ((idx b 2).bind λc39=>(cond ((c39.toNat:Int)==103) (some (decide (a.2.2>=0))) (some false))))).bind λt=>(cond t (aF (room (2+1) 8) (some (([a.1]++[a.2.2]),(([a.1]++[a.2.1])++[a.2.2])))) (some (([a.1]++[a.2.2]),([a.1]++[a.2.1])))))) (((idx b 2).bind λc41=>(cond ((c41.toNat:Int)==119) (some (decide (a.2.2>=0))) ((idx b 2).bind λc42=>(cond ((c42.toNat:Int)==103) (some (decide (a.2.2>=0))) (some false))))).bind λu=>(cond u (aF (room (2+1) 8) (some ([a.1],(([a.1]++[a.2.1])++[a.2.2])))) (some ([a.1],([a.1]++[a.2.1])))))))) (((idx b 2).bind λc44=>(cond ((c44.toNat:Int)==114) (some (decide (a.2.2>=0))) ((idx b 2).bind λc45=>(cond ((c45.toNat:Int)==101) (some (decide (a.2.2>=0))) (some false))))).bind λv=>(cond v (aF (room (1+1) 8) (((idx b 2).bind λc47=>(cond ((c47.toNat:Int)==119) (some (decide (a.2.2>=0))) ((idx b 2).bind λc48=>(cond ((c48.toNat:Int)==103) (some (decide (a.2.2>=0))) (some false))))).bind λw=>(cond w (aF (room (1+1) 8) (some (([a.1]++[a.2.2]),([a.1]++[a.2.2])))) (some (([a.1]++[a.2.2]),[a.1]))))) (((idx b 2).bind λc50=>(cond ((c50.toNat:Int)==119) (some (decide (a.2.2>=0))) ((idx b 2).bind λc51=>(cond ((c51.toNat:Int)==103) (some (decide (a.2.2>=0))) (some false))))).bind λx=>(cond x (aF (room (1+1) 8) (some ([a.1],([a.1]++[a.2.2])))) (some ([a.1],[a.1]))))))))))) (((idx b 1).bind λc53=>(cond ((c53.toNat:Int)==114) (some (decide (a.2.1>=0))) ((idx b 1).bind λc54=>(cond ((c54.toNat:Int)==101) (some (decide (a.2.1>=0))) (some false))))).bind λy=>(cond y (aF (room (1+1) 8) (((idx b 1).bind λc56=>(cond ((c56.toNat:Int)==119) (some (decide (a.2.1>=0))) ((idx b 1).bind λc57=>(cond ((c57.toNat:Int)==103) (some (decide (a.2.1>=0))) (some false))))).bind λz=>(cond z (aF (room 1 8) (((idx b 2).bind λc59=>(cond ((c59.toNat:Int)==114) (some (decide (a.2.2>=0))) ((idx b 2).bind λc60=>(cond ((c60.toNat:Int)==101) (some (decide (a.2.2>=0))) (some false))))).bind λA=>(cond A (aF (room (2+1) 8) (((idx b 2).bind λc62=>(cond ((c62.toNat:Int)==119) (some (decide (a.2.2>=0))) ((idx b 2).bind λc63=>(cond ((c63.toNat:Int)==103) (some (decide (a.2.2>=0))) (some false))))).bind λB=>(cond B (aF (room (1+1) 8) (some ((([a.1]++[a.2.1])++[a.2.2]),([a.2.1]++[a.2.2])))) (some ((([a.1]++[a.2.1])++[a.2.2]),[a.2.1]))))) (((idx b 2).bind λc65=>(cond ((c65.toNat:Int)==119) (some (decide (a.2.2>=0))) ((idx b 2).bind λc66=>(cond ((c66.toNat:Int)==103) (some (decide (a.2.2>=0))) (some false))))).bind λC=>(cond C (aF (room (1+1) 8) (some (([a.1]++[a.2.1]),([a.2.1]++[a.2.2])))) (some (([a.1]++[a.2.1]),[a.2.1]))))))) (((idx b 2).bind λc68=>(cond ((c68.toNat:Int)==114) (some (decide (a.2.2>=0))) ((idx b 2).bind λc69=>(cond ((c69.toNat:Int)==101) (some (decide (a.2.2>=0))) (some false))))).bind λD=>(cond D (aF (room (2+1) 8) (((idx b 2).bind λc71=>(cond ((c71.toNat:Int)==119) (some (decide (a.2.2>=0))) ((idx b 2).bind λc72=>(cond ((c72.toNat:Int)==103) (some (decide (a.2.2>=0))) (some false))))).bind λE=>(cond E (aF (room 1 8) (some ((([a.1]++[a.2.1])++[a.2.2]),[a.2.2]))) (some ((([a.1]++[a.2.1])++[a.2.2]),[]))))) (((idx b 2).bind λc74=>(cond ((c74.toNat:Int)==119) (some (decide (a.2.2>=0))) ((idx b 2).bind λc75=>(cond ((c75.toNat:Int)==103) (some (decide (a.2.2>=0))) (some false))))).bind λG=>(cond G (aF (room 1 8) (some (([a.1]++[a.2.1]),[a.2.2]))) (some (([a.1]++[a.2.1]),[]))))))))) (((idx b 1).bind λc77=>(cond ((c77.toNat:Int)==119) (some (decide (a.2.1>=0))) ((idx b 1).bind λc78=>(cond ((c78.toNat:Int)==103) (some (decide (a.2.1>=0))) (some false))))).bind λH=>(cond H (aF (room 1 8) (((idx b 2).bind λc80=>(cond ((c80.toNat:Int)==114) (some (decide (a.2.2>=0))) ((idx b 2).bind λc81=>(cond ((c81.toNat:Int)==101) (some (decide (a.2.2>=0))) (some false))))).bind λI=>(cond I (aF (room (1+1) 8) (((idx b 2).bind λc83=>(cond ((c83.toNat:Int)==119) (some (decide (a.2.2>=0))) ((idx b 2).bind λc84=>(cond ((c84.toNat:Int)==103) (some (decide (a.2.2>=0))) (some false))))).bind λJ=>(cond J (aF (room (1+1) 8) (some (([a.1]++[a.2.2]),([a.2.1]++[a.2.2])))) (some (([a.1]++[a.2.2]),[a.2.1]))))) (((idx b 2).bind λc86=>(cond ((c86.toNat:Int)==119) (some (decide (a.2.2>=0))) ((idx b 2).bind λc87=>(cond ((c87.toNat:Int)==103) (some (decide (a.2.2>=0))) (some false))))).bind λK=>(cond K (aF (room (1+1) 8) (some ([a.1],([a.2.1]++[a.2.2])))) (some ([a.1],[a.2.1]))))))) (((idx b 2).bind λc89=>(cond ((c89.toNat:Int)==114) (some (decide (a.2.2>=0))) ((idx b 2).bind λc90=>(cond ((c90.toNat:Int)==101) (some (decide (a.2.2>=0))) (some false))))).bind λL=>(cond L (aF (room (1+1) 8) (((idx b 2).bind λc92=>(cond ((c92.toNat:Int)==119) (some (decide (a.2.2>=0))) ((idx b 2).bind λc93=>(cond ((c93.toNat:Int)==103) (some (decide (a.2.2>=0))) (some false))))).bind λM=>(cond M (aF (room 1 8) (some (([a.1]++[a.2.2]),[a.2.2]))) (some (([a.1]++[a.2.2]),[]))))) (((idx b 2).bind λc95=>(cond ((c95.toNat:Int)==119) (some (decide (a.2.2>=0))) ((idx b 2).bind λc96=>(cond ((c96.toNat:Int)==103) (some (decide (a.2.2>=0))) (some false))))).bind λO=>(cond O (aF (room 1 8) (some ([a.1],[a.2.2]))) (some ([a.1],[]))))))))))))) (((idx b 0).bind λc98=>(cond ((c98.toNat:Int)==119) (some (decide (a.1>=0))) ((idx b 0).bind λc99=>(cond ((c99.toNat:Int)==103) (some (decide (a.1>=0))) (some false))))).bind λP=>(cond P (aF (room 1 8) (((idx b 1).bind λaoG=>(cond ((aoG.toNat:Int)==114) (some (decide (a.2.1>=0))) ((idx b 1).bind λaoH=>(cond ((aoH.toNat:Int)==101) (some (decide (a.2.1>=0))) (some false))))).bind λQ=>(cond Q (aF (room 1 8) (((idx b 1).bind λaoI=>(cond ((aoI.toNat:Int)==119) (some (decide (a.2.1>=0))) ((idx b 1).bind λc105=>(cond ((c105.toNat:Int)==103) (some (decide (a.2.1>=0))) (some false))))).bind λR=>(cond R (aF (room (1+1) 8) (((idx b 2).bind λc107=>(cond ((c107.toNat:Int)==114) (some (decide (a.2.2>=0))) ((idx b 2).bind λaoJ=>(cond ((aoJ.toNat:Int)==101) (some (decide (a.2.2>=0))) (some false))))).bind λS=>(cond S (aF (room (1+1) 8) (((idx b 2).bind λaoK=>(cond ((aoK.toNat:Int)==119) (some (decide (a.2.2>=0))) ((idx b 2).bind λaoL=>(cond ((aoL.toNat:Int)==103) (some (decide (a.2.2>=0))) (some false))))).bind λT=>(cond T (aF (room (2+1) 8) (some (([a.2.1]++[a.2.2]),(([a.1]++[a.2.1])++[a.2.2])))) (some (([a.2.1]++[a.2.2]),([a.1]++[a.2.1])))))) (((idx b 2).bind λaoM=>(cond ((aoM.toNat:Int)==119) (some (decide (a.2.2>=0))) ((idx b 2).bind λaoN=>(cond ((aoN.toNat:Int)==103) (some (decide (a.2.2>=0))) (some false))))).bind λU=>(cond U (aF (room (2+1) 8) (some ([a.2.1],(([a.1]++[a.2.1])++[a.2.2])))) (some ([a.2.1],([a.1]++[a.2.1])))))))) (((idx b 2).bind λc116=>(cond ((c116.toNat:Int)==114) (some (decide (a.2.2>=0))) ((idx b 2).bind λc117=>(cond ((c117.toNat:Int)==101) (some (decide (a.2.2>=0))) (some false))))).bind λV=>(cond V (aF (room (1+1) 8) (((idx b 2).bind λc119=>(cond ((c119.toNat:Int)==119) (some (decide (a.2.2>=0))) ((idx b 2).bind λaoO=>(cond ((aoO.toNat:Int)==103) (some (decide (a.2.2>=0))) (some false))))).bind λW=>(cond W (aF (room (1+1) 8) (some (([a.2.1]++[a.2.2]),([a.1]++[a.2.2])))) (some (([a.2.1]++[a.2.2]),[a.1]))))) (((idx b 2).bind λaoP=>(cond ((aoP.toNat:Int)==119) (some (decide (a.2.2>=0))) ((idx b 2).bind λaoQ=>(cond ((aoQ.toNat:Int)==103) (some (decide (a.2.2>=0))) (some false))))).bind λX=>(cond X (aF (room (1+1) 8) (some ([a.2.1],([a.1]++[a.2.2])))) (some ([a.2.1],[a.1]))))))))) (((idx b 1).bind λaoR=>(cond ((aoR.toNat:Int)==119) (some (decide (a.2.1>=0))) ((idx b 1).bind λaoS=>(cond ((aoS.toNat:Int)==103) (some (decide (a.2.1>=0))) (some false))))).bind λY=>(cond Y (aF (room (1+1) 8) (((idx b 2).bind λaoT=>(cond ((aoT.toNat:Int)==114) (some (decide (a.2.2>=0))) ((idx b 2).bind λaoU=>(cond ((aoU.toNat:Int)==101) (some (decide (a.2.2>=0))) (some false))))).bind λZ=>(cond Z (aF (room 1 8) (((idx b 2).bind λc131=>(cond ((c131.toNat:Int)==119) (some (decide (a.2.2>=0))) ((idx b 2).bind λaoV=>(cond ((aoV.toNat:Int)==103) (some (decide (a.2.2>=0))) (some false))))).bind λa0=>(cond a0 (aF (room (2+1) 8) (some ([a.2.2],(([a.1]++[a.2.1])++[a.2.2])))) (some ([a.2.2],([a.1]++[a.2.1])))))) (((idx b 2).bind λaoW=>(cond ((aoW.toNat:Int)==119) (some (decide (a.2.2>=0))) ((idx b 2).bind λaoX=>(cond ((aoX.toNat:Int)==103) (some (decide (a.2.2>=0))) (some false))))).bind λa1=>(cond a1 (aF (room (2+1) 8) (some ([],(([a.1]++[a.2.1])++[a.2.2])))) (some ([],([a.1]++[a.2.1])))))))) (((idx b 2).bind λaoY=>(cond ((aoY.toNat:Int)==114) (some (decide (a.2.2>=0))) ((idx b 2).bind λc138=>(cond ((c138.toNat:Int)==101) (some (decide (a.2.2>=0))) (some false))))).bind λa2=>(cond a2 (aF (room 1 8) (((idx b 2).bind λaoZ=>(cond ((aoZ.toNat:Int)==119) (some (decide (a.2.2>=0))) ((idx b 2).bind λc141=>(cond ((c141.toNat:Int)==103) (some (decide (a.2.2>=0))) (some false))))).bind λa3=>(cond a3 (aF (room (1+1) 8) (some ([a.2.2],([a.1]++[a.2.2])))) (some ([a.2.2],[a.1]))))) (((idx b 2).bind λc143=>(cond ((c143.toNat:Int)==119) (some (decide (a.2.2>=0))) ((idx b 2).bind λao0=>(cond ((ao0.toNat:Int)==103) (some (decide (a.2.2>=0))) (some false))))).bind λa4=>(cond a4 (aF (room (1+1) 8) (some ([],([a.1]++[a.2.2])))) (some ([],[a.1]))))))))))) (((idx b 1).bind λc146=>(cond ((c146.toNat:Int)==114) (some (decide (a.2.1>=0))) ((idx b 1).bind λao1=>(cond ((ao1.toNat:Int)==101) (some (decide (a.2.1>=0))) (some false))))).bind λa5=>(cond a5 (aF (room 1 8) (((idx b 1).bind λao2=>(cond ((ao2.toNat:Int)==119) (some (decide (a.2.1>=0))) ((idx b 1).bind λao3=>(cond ((ao3.toNat:Int)==103) (some (decide (a.2.1>=0))) (some false))))).bind λa6=>(cond a6 (aF (room 1 8) (((idx b 2).bind λc152=>(cond ((c152.toNat:Int)==114) (some (decide (a.2.2>=0))) ((idx b 2).bind λao4=>(cond ((ao4.toNat:Int)==101) (some (decide (a.2.2>=0))) (some false))))).bind λa7=>(cond a7 (aF (room (1+1) 8) (((idx b 2).bind λao5=>(cond ((ao5.toNat:Int)==119) (some (decide (a.2.2>=0))) ((idx b 2).bind λc156=>(cond ((c156.toNat:Int)==103) (some (decide (a.2.2>=0))) (some false))))).bind λa8=>(cond a8 (aF (room (1+1) 8) (some (([a.2.1]++[a.2.2]),([a.2.1]++[a.2.2])))) (some (([a.2.1]++[a.2.2]),[a.2.1]))))) (((idx b 2).bind λao6=>(cond ((ao6.toNat:Int)==119) (some (decide (a.2.2>=0))) ((idx b 2).bind λc159=>(cond ((c159.toNat:Int)==103) (some (decide (a.2.2>=0))) (some false))))).bind λa9=>(cond a9 (aF (room (1+1) 8) (some ([a.2.1],([a.2.1]++[a.2.2])))) (some ([a.2.1],[a.2.1]))))))) (((idx b 2).bind λao7=>(cond ((ao7.toNat:Int)==114) (some (decide (a.2.2>=0))) ((idx b 2).bind λc162=>(cond ((c162.toNat:Int)==101) (some (decide (a.2.2>=0))) (some false))))).bind λb0=>(cond b0 (aF (room (1+1) 8) (((idx b 2).bind λc164=>(cond ((c164.toNat:Int)==119) (some (decide (a.2.2>=0))) ((idx b 2).bind λao8=>(cond ((ao8.toNat:Int)==103) (some (decide (a.2.2>=0))) (some false))))).bind λb1=>(cond b1 (aF (room 1 8) (some (([a.2.1]++[a.2.2]),[a.2.2]))) (some (([a.2.1]++[a.2.2]),[]))))) (((idx b 2).bind λc167=>(cond ((c167.toNat:Int)==119) (some (decide (a.2.2>=0))) ((idx b 2).bind λc168=>(cond ((c168.toNat:Int)==103) (some (decide (a.2.2>=0))) (some false))))).bind λb2=>(cond b2 (aF (room 1 8) (some ([a.2.1],[a.2.2]))) (some ([a.2.1],[]))))))))) (((idx b 1).bind λao9=>(cond ((ao9.toNat:Int)==119) (some (decide (a.2.1>=0))) ((idx b 1).bind λc171=>(cond ((c171.toNat:Int)==103) (some (decide (a.2.1>=0))) (some false))))).bind λb3=>(cond b3 (aF (room 1 8) (((idx b 2).bind λc173=>(cond ((c173.toNat:Int)==114) (some (decide (a.2.2>=0))) ((idx b 2).bind λapa=>(cond ((apa.toNat:Int)==101) (some (decide (a.2.2>=0))) (some false))))).bind λb4=>(cond b4 (aF (room 1 8) (((idx b 2).bind λapb=>(cond ((apb.toNat:Int)==119) (some (decide (a.2.2>=0))) ((idx b 2).bind λapc=>(cond ((apc.toNat:Int)==103) (some (decide (a.2.2>=0))) (some false))))).bind λb5=>(cond b5 (aF (room (1+1) 8) (some ([a.2.2],([a.2.1]++[a.2.2])))) (some ([a.2.2],[a.2.1]))))) (((idx b 2).bind λapd=>(cond ((apd.toNat:Int)==119) (some (decide (a.2.2>=0))) ((idx b 2).bind λape=>(cond ((ape.toNat:Int)==103) (some (decide (a.2.2>=0))) (some false))))).bind λb6=>(cond b6 (aF (room (1+1) 8) (some ([],([a.2.1]++[a.2.2])))) (some ([],[a.2.1]))))))) (((idx b 2).bind λc182=>(cond ((c182.toNat:Int)==114) (some (decide (a.2.2>=0))) ((idx b 2).bind λc183=>(cond ((c183.toNat:Int)==101) (some (decide (a.2.2>=0))) (some false))))).bind λb7=>(cond b7 (aF (room 1 8) (((idx b 2).bind λapf=>(cond ((apf.toNat:Int)==119) (some (decide (a.2.2>=0))) ((idx b 2).bind λapg=>(cond ((apg.toNat:Int)==103) (some (decide (a.2.2>=0))) (some false))))).bind λb8=>(cond b8 (aF (room 1 8) (some ([a.2.2],[a.2.2]))) (some ([a.2.2],[]))))) (((idx b 2).bind λaph=>(cond ((aph.toNat:Int)==119) (some (decide (a.2.2>=0))) ((idx b 2).bind λapi=>(cond ((api.toNat:Int)==103) (some (decide (a.2.2>=0))) (some false))))).bind λb9=>(cond b9 (aF (room 1 8) (some ([],[a.2.2]))) (some ([],[]))))))))))))))))
def ajB:ah:=(ajy N).put 178 ajA (Ma N)
theorem ajC:az bJ (ajB N):=(ajz N).put ((ajz N).on ajA) _ _ _ (funext λ⟨a,b,c,d⟩=>by rw[Ma];kernel_rfl)
def ajD:bN:=⟨[.agg (aZ bf)],[(false,[.int .i64])],0,[(0,7,9,.bool)],[],[],[]⟩
def PR(N:Nat):ic->Option Int|(a,b,c,e)=>(cond (a==25) (some c) ((cond (a==26) (some true) (some (a==27))).bind λd=>(cond d (some b) (some (-1)))))
def adR:ah:=(ajB N).put 225 ajD (PR N)
theorem ajE:az bJ (adR N):=(ajC N).put ((ajC N).on ajD) _ _ _ (funext λ⟨a,b,c,d⟩=>by rw[PR];kernel_rfl)
def adS:bN:=⟨[.agg (cF aY),.c (.int .i64),.agg (aZ bf)],[(false,[.bool])],0,[(0,14,6,.bool)],[],[(0,17,(.int .i64))],[]⟩
def UH:ah:=(adR N).on adS
def f210.jB:bq:=tm [(1,.c (.int .i64)),(3,.c (.ptr 0 3 0 0 0)),(5,.c (.ptr 0 5 1 0 0)),(9,.c (.sl (.int .i64) (.app 2))),(10,.c (.int .i64))] [] [(0,3,.box 0 (cF aY)),(0,5,.box 1 (aZ bf))] 1 [2] 3
def f210.jC:bn:=[(.ret,tm [(6,.c (.bool))] [] [] 1 [] 0),(.exit 0,tm [(3,.c (.ptr 0 3 0 0 0)),(5,.c (.ptr 0 5 1 0 0))] [] [(0,3,.box 0 (cF aY)),(0,5,.box 1 (aZ bf))] 1 [] 2)]
def f210.cW(N:Nat):Nat->Int×List Int×Int×bP ic->Option (Bool⊕(bP ic))|0,_=>none|k+1,(d,a,b,e,f,c,g,h,i,j)=>(cond (decide (b<(a.length:Int))) ((idx a b).bind λl=>((idx c d).bind λm=>(cond (decide (l>=(m.2.2.2.1.length:Int))) (some (Sum.inl false)) (f210.cW N k (d,a,(av (b+1)),e,f,c,g,h,i,j))))) (some (Sum.inr (e,f,c,g,h,i,j))))
theorem f210.nh:∀k,f210.cW N k=lp (UH N) 0 5 (tq 210) 5 f210.jB f210.jC k|0=>rfl|k+1=>funext λ⟨a,b,c,d,e,f,g,h,i,j⟩=>by rw[f210.cW,f210.nh k];kernel_rfl
def apj:ah:=(UH N).aa N 0 5 f210.jB f210.jC
def UI:bP (Int×ic)->Option Bool|(g,h,i,j,c,d,e,f)=>((Ma N (c,d,e,f)).bind λb=>(aF (room (0+b.1.length) 8) (aF (room (([]++b.1).length+b.2.length) 8) ((f210.cW N N (j,(([]++b.1)++b.2),0,g,h,i,c,d,e,f)).bind λl=>(match l with|.inl m=>some m|.inr a=>((PR N (a.2.2.2.1,a.2.2.2.2.1,a.2.2.2.2.2.1,a.2.2.2.2.2.2)).bind λn=>((cond (decide (n<(a.2.2.1.length:Int))) (cond (a.2.2.2.1!=2) (some true) (some (decide (a.2.2.2.2.2.1<(a.2.1.length:Int))))) (some false)).bind λo=>some o)))))))
def ajF:ah:=(adR N).put 210 adS (UI N)
theorem ajG:az bJ (ajF N):=(ajE N).put (((ajE N).on adS).aa N 0 5 f210.jB f210.jC) _ _ _ (funext λ⟨a,b,c,d,e,f,g,h⟩=>by rw[UI,f210.nh N N];kernel_rfl)
def ajH:bN:=⟨[.agg (cF aY),.c (.int .i64),.c (.int .i64)],[(false,[.int .i64])],0,[(0,1,19,.bool)],[],[],[]⟩
def JL(N:Nat):bP (Int×Int)->Option Int|(h,i,b,c,a)=>((cond (decide (a<0)) (some true) ((idx b c).bind λd=>some (decide (a>=(d.2.2.2.1.length:Int))))).bind λe=>(cond e (some (-1)) ((idx b c).bind λf=>((idx f.2.2.2.1 a).bind λg=>some g.2))))
def ajI:ah:=(ajF N).put 226 ajH (JL N)
theorem ajJ:az bJ (ajI N):=(ajG N).put ((ajG N).on ajH) _ _ _ (funext λ⟨a,b,c,d,e⟩=>by rw[JL];kernel_rfl)
def ajK:bN:=sg [.agg (cF aY),.c (.int .i64)] [(false,[.int .u8])]
def Hi(N:Nat):bP Int->Option Int|(b,d,e,a)=>(cond (decide (a<0)) (some 0) ((idx b a).bind λc=>some c.1))
def ajL:ah:=(ajI N).put 227 ajK (Hi N)
theorem ajM:az bJ (ajL N):=(ajJ N).put ((ajJ N).on ajK) _ _ _ (funext λ⟨a,b,c,d⟩=>by rw[Hi];kernel_rfl)
def ajN:bN:=⟨[.agg (cF bI)],[(false,[.bool])],0,[(0,1,2,.bool)],[],[],[]⟩
def PT(N:Nat):yf->Option Bool|(a,c,d,e)=>((cond (a==1) (some true) (cond (a==2) (some true) (some (a==4)))).bind λb=>some b)
def ajO:ah:=(ajL N).put 228 ajN (PT N)
theorem ajP:az bJ (ajO N):=(ajM N).put ((ajM N).on ajN) _ _ _ (funext λ⟨a,b,c,d⟩=>by rw[PT];kernel_rfl)
def ajQ:bN:=⟨[.agg (cF aY),.c (.int .i64),.c (.int .i64)],[(false,[.int .i64])],0,[(0,1,25,.bool)],[],[],[]⟩
def PU:bP (Int×Int)->Option Int|(a,d,e,b,c)=>(((Hi N (a,d,e,b)).bind λf=>(cond (f !=5) (some true) (cond (decide (c<0)) (some true) ((idx a b).bind λg=>some (decide (c>=(g.2.2.2.length:Int))))))).bind λh=>(cond h (some (-1)) ((idx a b).bind λi=>((idx i.2.2.2 c).bind λj=>some j.2))))
def ajR:ah:=(ajO N).put 229 ajQ (PU N)
theorem ajS:az bJ (ajR N):=(ajP N).put ((ajP N).on ajQ) _ _ _ (funext λ⟨a,b,c,d,e⟩=>by rw[PU];kernel_rfl)
def ajT:bN:=⟨[.agg (cF aY),.c (.int .i64),.c (.int .u8),.c (.int .u8)],[(false,[.int .i64])],0,[(0,2,24,.bool)],[],[],[]⟩
def JM:bP (Int×Int×Int)->Option Int|(b,d,e,a,f,g)=>((Hi N (b,d,e,a)).bind λc=>((cond (decide (a<0)) (some true) (cond (c !=f) (some (c !=g)) (some false))).bind λh=>(cond h (some (-1)) ((idx b a).bind λi=>some i.2.1))))
def ajU:ah:=(ajR N).put 230 ajT (JM N)
theorem ajV:az bJ (ajU N):=(ajS N).put ((ajS N).on ajT) _ _ _ (funext λ⟨a,b,c,d,e,f⟩=>by rw[JM];kernel_rfl)
def ajW:bN:=⟨[.agg (cF aY),.c (.int .i64)],[(false,[.bool])],0,[(0,2,4,.bool)],[],[],[]⟩
def UJ:bP Int->Option Bool|(c,i,d,e)=>((idx d e).bind λa=>((cond (a.2.2.1==(-1)) (cond (a.2.1==0) (some true) (cond (a.2.1==1) ((idx a.2.2.2.1 0).bind λf=>((idx c f.2).bind λb=>((PT N (b.1,b.2.1,b.2.2.1,b.2.2.2)).bind λg=>some g))) (some false))) (some false)).bind λh=>some h))
def ajX:ah:=(ajU N).put 231 ajW (UJ N)
theorem ajY:az bJ (ajX N):=(ajV N).put ((ajV N).on ajW) _ _ _ (funext λ⟨a,b,c,d⟩=>by rw[UJ];kernel_rfl)
def ajZ:bN:=⟨[.agg (cF aY),.c (.int .i64),.agg (aZ bf)],[(false,[.bool])],0,[(0,6,39,.bool),(0,14,48,.bool),(0,26,58,.bool),(0,24,58,.bool),(0,22,58,.bool),(0,29,6,.bool),(0,32,6,.bool),(0,35,6,.bool),(0,38,6,.bool),(0,56,6,.bool),(0,59,6,.bool),(0,62,6,.bool),(0,65,6,.bool),(0,68,6,.bool),(0,70,208,.bool),(0,76,6,.bool),(0,78,227,.bool),(0,81,6,.bool),(0,84,6,.bool)],[],[],[]⟩
def UK:bP (Int×ic)->Option Bool|(c,e,b,i,a,j,n,p)=>((JL N (c,e,b,i,j)).bind λf=>((JL N (c,e,b,i,n)).bind λh=>((JL N (c,e,b,i,p)).bind λl=>((Hi N (c,e,b,f)).bind λd=>((Hi N (c,e,b,h)).bind λg=>((Hi N (c,e,b,l)).bind λo=>((cond (a==1) (some true) (some (a==32))).bind λq=>(cond q (some (d==2)) (cond (a==2) (some (d==3)) ((cond (a==3) (some true) (some (a==23))).bind λr=>(cond r (some (d==1)) (cond (a==5) (some (f==h)) ((cond (a==6) (some true) ((cond (a==7) (some true) ((cond (a==8) (some true) (some (a==9))).bind λs=>some s)).bind λt=>some t)).bind λu=>(cond u ((cond (d==2) (cond (g==2) (some (o==2)) (some false)) (some false)).bind λv=>some v) (cond (a==10) ((cond (d==1) (cond (g==2) (some (o==2)) (some false)) (some false)).bind λw=>some w) (cond (a==11) ((cond (d==1) (cond (h==l) ((idx c h).bind λm=>((PT N (m.1,m.2.1,m.2.2.1,m.2.2.2)).bind λx=>some x)) (some false)) (some false)).bind λy=>some y) (cond (a==12) ((cond (d==1) (some (g==1)) (some false)).bind λz=>some z) (cond (a==13) ((PU N (c,e,b,h,p)).bind λA=>some (A==f)) (cond (a==14) ((PU N (c,e,b,f,n)).bind λB=>some (B==l)) (cond (a==15) (some (d==4)) (cond (a==16) ((JM N (c,e,b,h,4,4)).bind λC=>some (C==f)) (cond (a==17) ((JM N (c,e,b,f,4,4)).bind λD=>some (D==h)) (cond (a==18) ((cond (d==7) (some (g==2)) (some false)).bind λE=>some E) (cond (a==19) (((JM N (c,e,b,h,7,6)).bind λG=>(cond (G==f) (some (o==2)) (some false))).bind λH=>some H) (cond (a==20) (((JM N (c,e,b,f,7,6)).bind λI=>(cond (I==l) (some (g==2)) (some false))).bind λJ=>some J) (cond (a==21) ((cond (d==2) (cond (g==3) (some true) (cond (g==7) (some true) (some (g==6)))) (some false)).bind λK=>some K) (cond (a==25) ((cond (j==(-1)) (some true) ((idx b n).bind λL=>some (L.2.2.1==f))).bind λM=>some M) ((cond (a==26) (some true) (some (a==27))).bind λO=>(cond O ((UJ N (c,e,b,j)).bind λP=>some P) (cond (a==28) ((cond (d==2) (some true) (cond (d==1) (some true) (some (d==3)))).bind λQ=>some Q) ((cond (a==29) (some true) (some (a==33))).bind λR=>(cond R ((cond (d==1) (some (g==2)) (some false)).bind λS=>some S) (cond (a==34) ((cond (j==(-1)) (some true) ((idx b i).bind λT=>some (T.2.2.1==f))).bind λU=>some U) (some true))))))))))))))))))))))))))))))))))
def aj0:ah:=(ajX N).put 211 ajZ (UK N)
theorem aj1:az bJ (aj0 N):=(ajY N).put ((ajY N).on ajZ) _ _ _ (funext λ⟨a,b,c,d,e,f,g,h⟩=>by rw[UK];kernel_rfl)
def aj2:bN:=sg [.agg (cF aY),.c (.int .i64),.c (.int .i64),.c (.bool)] [(false,[.int .i64])]
def PV:bP (Int×Int×Bool)->Option Int|(d,e,b,c,f,g)=>((idx b c).bind λh=>((idx h.2.2.2.2.1 f).bind λa=>((UI N (d,e,b,c,a.1,a.2.1,a.2.2.1,a.2.2.2)).bind λi=>(cond (!i) (some 16) (cond (!g) (some 6) ((UK N (d,e,b,c,a.1,a.2.1,a.2.2.1,a.2.2.2)).bind λj=>(cond (!j) (some 30) (some 0))))))))
def adT:ah:=(aj0 N).put 175 aj2 (PV N)
theorem aj3:az bJ (adT N):=(aj1 N).put ((aj1 N).on aj2) _ _ _ (funext λ⟨a,b,c,d,e,f⟩=>by rw[PV];kernel_rfl)
def adU:bN:=⟨[.agg (cF aY),.c (.int .i64),.agg (aZ bf)],[(false,[.sl (.int .i64) .d]),(false,[.int .i64])],0,[],[],[(0,44,(.int .i64))],[]⟩
def UL:ah:=(adT N).on adU
def f232.UM:bq:=tm [(3,.c (.ptr 0 3 0 0 0)),(8,.c (.sl (.int .i64) (.app 1))),(9,.c (.int .i64)),(10,.c (.int .i64))] [] [(0,3,.box 0 (cF aY))] 1 [1] 2
def f232.UN:bn:=[(.exit 0,tm [(8,.c (.sl (.int .i64) (.app 0)))] [] [] 1 [0] 1)]
def f232.CT(N:Nat):Nat->List Int×Int×Int×dc->Option ((List Int))|0,_=>none|k+1,(a,b,c,e,f,d)=>((idx d b).bind λg=>(cond (decide (c<g.2.1)) ((idx d b).bind λh=>((idx h.2.2.2.1 c).bind λi=>(aF (room (a.length+1) 8) (f232.CT N k ((a++[i.2]),b,(av (c+1)),e,f,d))))) (some a)))
theorem f232.aaG:∀k,f232.CT N k=lp (UL N) 0 10 (tq 232) 10 f232.UM f232.UN k|0=>rfl|k+1=>funext λ⟨a,b,c,d,e,f⟩=>by rw[f232.CT,f232.aaG k];kernel_rfl
def apk:ah:=(UL N).aa N 0 10 f232.UM f232.UN
def UO:bP (Int×ic)->Option (List Int×Int)|(a,b,c,g,d,e,h,i)=>(cond (d==24) ((JL N (a,b,c,g,e)).bind λj=>some ([],j)) ((PR N (d,e,h,i)).bind λf=>(cond (decide (f>=0)) ((f232.CT N N ([],f,0,a,b,c)).bind λl=>some (l,(-1))) (some ([],(-1))))))
def adV:ah:=(adT N).put 232 adU (UO N)
theorem aj4:az bJ (adV N):=(aj3 N).put (((aj3 N).on adU).aa N 0 10 f232.UM f232.UN) _ _ _ (funext λ⟨a,b,c,d,e,f,g,h⟩=>by rw[UO,f232.aaG N N];kernel_rfl)
def adW:bN:=sg [.c (.sl (.int .i64) .bC),.c (.sl (.int .i64) .bC)] [(false,[.bool])]
def UP:ah:=(adV N).on adW
def f213.bQ:bq:=tm [(0,.c (.sl (.int .i64) .bC)),(1,.c (.sl (.int .i64) .bC)),(5,.c (.int .i64))] [] [] 1 [] 0
def f213.bR:bn:=[(.ret,tm [(4,.c (.bool))] [] [] 1 [] 0),(.exit 0,tm [] [] [] 1 [] 0)]
def f213.aP(N:Nat):Nat->List Int×List Int×Int->Option (Bool⊕Unit)|0,_=>none|k+1,(b,c,a)=>(cond (decide (a<(b.length:Int))) ((idx b a).bind λd=>((idx c a).bind λe=>(cond (d !=e) (some (Sum.inl false)) (f213.aP N k (b,c,(av (a+1))))))) (some (Sum.inr ())))
theorem f213.cV:∀k,f213.aP N k=lp (UP N) 0 6 (tq 213) 6 f213.bQ f213.bR k|0=>rfl|k+1=>funext λ⟨a,b,c⟩=>by rw[f213.aP,f213.cV k];kernel_rfl
def apl:ah:=(UP N).aa N 0 6 f213.bQ f213.bR
def PW:List Int×List Int->Option Bool|(a,b)=>(cond ((a.length:Int)!=(b.length:Int)) (some false) ((f213.aP N N (a,b,0)).bind λc=>(match c with|.inl d=>some d|.inr e=>some true)))
def aj5:ah:=(adV N).put 213 adW (PW N)
theorem aj6:az bJ (aj5 N):=(aj4 N).put (((aj4 N).on adW).aa N 0 6 f213.bQ f213.bR) _ _ _ (funext λ⟨a,b⟩=>by rw[PW,f213.cV N N];kernel_rfl)
def s76:bN:=sg [.c (.int .i64)] [(false,[.int .i64])]
def F76:Int->Option Int|a=>((L5 N (a,8)).bind λb=>some b)
def G76:ah:=(aj5 N).put 76 s76 (F76 N)
theorem K76:az bJ (G76 N):=(aj6 N).put ((aj6 N).on s76) _ _ _ (funext λa=>by rw[F76];kernel_rfl)
def adX:bN:=sg [.agg (cF aY),.c (.sl (.int .i64) .bC)] [(false,[.int .i64])]
def UQ:ah:=(G76 N).on adX
def f183.jB:bq:=tm [(1,.c (.sl (.int .i64) .bC)),(5,.c (.sl (.int .i64) .d)),(7,.c (.int .i64)),(8,.c (.int .i64))] [] [] 1 [] 0
def f183.jC:bn:=[(.exit 0,tm [(7,.c (.int .i64))] [] [] 1 [] 0)]
def f183.cW:Nat->List Int×List Int×Int×Int->Option Int|0,_=>none|k+1,(a,c,d,b)=>(cond (decide (b<(a.length:Int))) ((idx a b).bind λe=>((idx c e).bind λf=>((F76 N f).bind λg=>f183.cW k (a,c,(av (d+g)),(av (b+1)))))) (some d))
theorem f183.nh:∀k,f183.cW N k=lp (UQ N) 0 5 (tq 183) 5 f183.jB f183.jC k|0=>rfl|k+1=>funext λ⟨a,b,c,d⟩=>by rw[f183.cW,f183.nh k];kernel_rfl
def apn:ah:=(UQ N).aa N 0 5 f183.jB f183.jC
def Mb:bP (List Int)->Option Int|(a,e,f,b)=>((L7 N a).bind λc=>((f183.cW N N (b,c.1,0,0)).bind λd=>some d))
def aj7:ah:=(G76 N).put 183 adX (Mb N)
theorem aj8:az bJ (aj7 N):=(K76 N).put (((K76 N).on adX).aa N 0 5 f183.jB f183.jC) _ _ _ (funext λ⟨a,b,c,d⟩=>by rw[Mb,f183.nh N N];kernel_rfl)
def aj9:bN:=⟨[.agg (cF aY),.c (.int .i64),.agg (aZ bf),.c (.sl (.int .i64) .bC)],[(false,[.sl (.int .i64) .d]),(false,[.bool])],0,[(0,3,35,.bool)],[],[(0,36,(.int .i64)),(0,45,(.int .i64))],[]⟩
def UR:bP (Int×LS (List Int))->Option (List Int×Bool)|(c,d,e,f,g,h,i,j,a)=>((UO N (c,d,e,f,g,h,i,j)).bind λb=>((cond (decide ((av ((a.length:Int)-(b.1.length:Int)))<0)) (some true) (aF (decide (0<=(av ((a.length:Int)-(b.1.length:Int))))) (aF (decide ((Int.toNat (av ((a.length:Int)-(b.1.length:Int))))<=a.length)) ((PW N ((a.drop (Int.toNat (av ((a.length:Int)-(b.1.length:Int))))),b.1)).bind λl=>some (!l))))).bind λm=>(cond m (some ([],false)) (aF (decide (0<=(av ((a.length:Int)-(b.1.length:Int))))) (aF (decide ((Int.toNat (av ((a.length:Int)-(b.1.length:Int))))<=a.length)) (aF (room (0+(a.take (Int.toNat (av ((a.length:Int)-(b.1.length:Int))))).length) 8) (cond (decide (b.2>=0)) (aF (room (([]++(a.take (Int.toNat (av ((a.length:Int)-(b.1.length:Int)))))).length+1) 8) ((Mb N (c,d,e,(([]++(a.take (Int.toNat (av ((a.length:Int)-(b.1.length:Int))))))++[b.2]))).bind λn=>some ((([]++(a.take (Int.toNat (av ((a.length:Int)-(b.1.length:Int))))))++[b.2]),(decide (n<=4096))))) ((Mb N (c,d,e,([]++(a.take (Int.toNat (av ((a.length:Int)-(b.1.length:Int)))))))).bind λo=>some (([]++(a.take (Int.toNat (av ((a.length:Int)-(b.1.length:Int)))))),(decide (o<=4096)))))))))))
def adY:ah:=(aj7 N).put 212 aj9 (UR N)
theorem aka:az bJ (adY N):=(aj8 N).put ((aj8 N).on aj9) _ _ _ (funext λ⟨a,b,c,d,e,f,g,h,i⟩=>by rw[UR];kernel_rfl)
def adZ:bN:=⟨[.agg (cF aY),.c (.int .i64)],[(false,[.sl (.sl (.int .i64)) .d]),(false,[.bool])],0,[(0,31,83,.bool)],[],[(0,24,(.sl (.int .i64))),(0,27,.bool)],[]⟩
def US:ah:=(adY N).on adZ
def f176.UT:bq:=tm [(1,.c (.int .i64)),(2,.c (.ptr 0 2 0 0 0)),(6,.c (.sl bf .d)),(7,.c (.ref 0 24 1 (.sl (.int .i64)))),(8,.c (.ref 0 27 2 .bool)),(9,.c (.bool)),(10,.c (.int .i64)),(11,.c (.sl (.int .i64) .d)),(13,.c (.sl (.int .i64) .d)),(14,.c (.int .i64))] [] [(0,2,.box 0 (cF aY)),(0,24,.row 1 (.sl (.int .i64))),(0,27,.row 2 .bool)] 1 [] 3
def f176.UU:bn:=[(.ret,tm [(4,.c (.nil true)),(5,.c (.bool))] [] [] 1 [] 0),(.exit 4,tm [(1,.c (.int .i64)),(2,.c (.ptr 0 2 0 0 0)),(6,.c (.sl bf .d)),(7,.c (.ref 0 24 1 (.sl (.int .i64)))),(8,.c (.ref 0 27 2 .bool)),(9,.c (.bool)),(10,.c (.int .i64))] [] [(0,2,.box 0 (cF aY)),(0,24,.row 1 (.sl (.int .i64))),(0,27,.row 2 .bool)] 1 [] 3)]
def f176.tH:Nat->Int×List Instr×Bool×Int×List Int×List Int×Int×bP (List (List Int)×List Bool)->Option (Bool⊕(Int×List Instr×Bool×Int×bP (List (List Int)×List Bool)))|0,_=>none|k+1,(g,h,n,i,d,e,f,j,l,m,c,b)=>(cond (decide (f<(e.length:Int))) ((idx e f).bind λa=>((aF (ga a b.length) ((b[a.toNat]?).bind λo=>(cond o (aF (ga a c.length) ((c[a.toNat]?).bind λp=>((PW N (p,d)).bind λq=>some (!q)))) (some false)))).bind λr=>(cond r (some (Sum.inl false)) (aF (ga a b.length) ((b[a.toNat]?).bind λs=>(cond (!s) (aF (ga a c.length) ((c[a.toNat]?).bind λt=>(aF (ga a b.length) ((b[a.toNat]?).bind λu=>f176.tH k (g,h,true,i,d,e,(av (f+1)),j,l,m,(c.set a.toNat d),(b.set a.toNat true)))))) (f176.tH k (g,h,n,i,d,e,(av (f+1)),j,l,m,c,b)))))))) (some (Sum.inr (g,h,n,i,j,l,m,c,b))))
theorem f176.aaI:∀k,f176.tH N k=lp (US N) 0 26 (tq 176) 26 f176.UT f176.UU k|0=>rfl|k+1=>funext λ⟨a,b,c,d,e,f,g,h,i,j,l,m⟩=>by rw[f176.tH,f176.aaI k];kernel_rfl
def UW:ah:=(US N).aa N 0 26 f176.UT f176.UU
def f176.tD:bq:=tm [(1,.c (.int .i64)),(2,.c (.ptr 0 2 0 0 0)),(6,.c (.sl bf .d)),(7,.c (.ref 0 24 1 (.sl (.int .i64)))),(8,.c (.ref 0 27 2 .bool)),(9,.c (.bool)),(10,.c (.int .i64))] [] [(0,2,.box 0 (cF aY)),(0,24,.row 1 (.sl (.int .i64))),(0,27,.row 2 .bool)] 1 [] 3
def f176.tE:bn:=[(.ret,tm [(4,.c (.nil true)),(5,.c (.bool))] [] [] 1 [] 0),(.exit 2,tm [(1,.c (.int .i64)),(2,.c (.ptr 0 2 0 0 0)),(6,.c (.sl bf .d)),(7,.c (.ref 0 24 1 (.sl (.int .i64)))),(8,.c (.ref 0 27 2 .bool)),(9,.c (.bool))] [] [(0,2,.box 0 (cF aY)),(0,24,.row 1 (.sl (.int .i64))),(0,27,.row 2 .bool)] 1 [] 3)]
def f176.gw:Nat->Int×List Instr×Bool×Int×bP (List (List Int)×List Bool)->Option (Bool⊕(Int×List Instr×Bool×bP (List (List Int)×List Bool)))|0,_=>none|k+1,(f,c,l,a,g,h,i,d,e)=>(cond (decide (a<(c.length:Int))) (aF (ga a e.length) ((e[a.toNat]?).bind λn=>(cond (!n) (f176.gw k (f,c,l,(av (a+1)),g,h,i,d,e)) ((idx c a).bind λj=>(aF (ga a d.length) ((d[a.toNat]?).bind λo=>((UR N (g,h,i,f,j.1,j.2.1,j.2.2.1,j.2.2.2,o)).bind λm=>(cond (!m.2) (some (Sum.inl false)) ((PN N (c,a)).bind λp=>((f176.tH N N (f,c,l,a,m.1,p,0,g,h,i,d,e)).bind λq=>(match q with|.inl r=>some (Sum.inl r)|.inr b=>f176.gw k (b.1,b.2.1,b.2.2.1,(av (b.2.2.2.1+1)),b.2.2.2.2.1,b.2.2.2.2.2.1,b.2.2.2.2.2.2.1,b.2.2.2.2.2.2.2.1,b.2.2.2.2.2.2.2.2)))))))))))) (some (Sum.inr (f,c,l,g,h,i,d,e))))
theorem f176.zX:∀k,f176.gw N k=lp (UW N) 0 13 (tq 176) 13 f176.tD f176.tE k|0=>rfl|k+1=>funext λ⟨a,b,c,d,e,f,g,h,i⟩=>by rw[f176.gw,f176.zX k,f176.aaI N N];kernel_rfl
def UX:ah:=(UW N).aa N 0 13 f176.tD f176.tE
def f176.bQ:bq:=tm [(1,.c (.int .i64)),(2,.c (.ptr 0 2 0 0 0)),(6,.c (.sl bf .d)),(7,.c (.ref 0 24 1 (.sl (.int .i64)))),(8,.c (.ref 0 27 2 .bool)),(9,.c (.bool))] [] [(0,2,.box 0 (cF aY)),(0,24,.row 1 (.sl (.int .i64))),(0,27,.row 2 .bool)] 1 [] 3
def f176.bR:bn:=[(.ret,tm [(4,.c (.nil true)),(5,.c (.bool))] [] [] 1 [] 0),(.exit 0,tm [(6,.c (.sl bf .d)),(7,.c (.ref 0 24 0 (.sl (.int .i64))))] [] [(0,24,.row 0 (.sl (.int .i64)))] 1 [] 1)]
def f176.aP:Nat->Int×List Instr×Bool×bP (List (List Int)×List Bool)->Option (Bool⊕(List Instr×List (List Int)))|0,_=>none|k+1,(d,b,e,f,g,h,c,i)=>(cond e ((f176.gw N N (d,b,false,0,f,g,h,c,i)).bind λj=>(match j with|.inl l=>some (Sum.inl l)|.inr a=>f176.aP k (a.1,a.2.1,a.2.2.1,a.2.2.2.1,a.2.2.2.2.1,a.2.2.2.2.2.1,a.2.2.2.2.2.2.1,a.2.2.2.2.2.2.2))) (some (Sum.inr (b,c))))
theorem f176.cV:∀k,f176.aP N k=lp (UX N) 0 6 (tq 176) 6 f176.bQ f176.bR k|0=>rfl|k+1=>funext λ⟨a,b,c,d,e,f,g,h⟩=>by rw[f176.aP,f176.cV k,f176.zX N N];kernel_rfl
def apo:ah:=(UX N).aa N 0 6 f176.bQ f176.bR
def PX:bP Int->Option (List (List Int)×Bool)|(e,f,c,d)=>((idx c d).bind λa=>(aF (decide (0<=(a.2.2.2.2.1.length:Int))) (aF (decide (0<=(a.2.2.2.2.1.length:Int))) (aF (decide ((Int.toNat (a.2.2.2.2.1.length:Int))<=(Int.toNat (a.2.2.2.2.1.length:Int)))&&room (Int.toNat (a.2.2.2.2.1.length:Int)) 24) (aF (decide (0<=(a.2.2.2.2.1.length:Int))) (aF (decide (0<=(a.2.2.2.2.1.length:Int))) (aF (decide ((Int.toNat (a.2.2.2.2.1.length:Int))<=(Int.toNat (a.2.2.2.2.1.length:Int)))&&room (Int.toNat (a.2.2.2.2.1.length:Int)) 1) (aF (ga 0 (List.replicate (Int.toNat (a.2.2.2.2.1.length:Int)) false).length) (((List.replicate (Int.toNat (a.2.2.2.2.1.length:Int)) false)[(Int.toNat 0)]?).bind λj=>((f176.aP N N (d,a.2.2.2.2.1,true,e,f,c,(List.replicate (Int.toNat (a.2.2.2.2.1.length:Int)) []),((List.replicate (Int.toNat (a.2.2.2.2.1.length:Int)) false).set (Int.toNat 0) true))).bind λg=>(match g with|.inl h=>some ([],h)|.inr b=>(aF (ga (av ((b.1.length:Int)-1)) b.2.length) ((b.2[(Int.toNat (av ((b.1.length:Int)-1)))]?).bind λi=>some (b.2,((i.length:Int)==0)))))))))))))))
def akb:ah:=(adY N).put 176 adZ (PX N)
theorem akc:az bJ (akb N):=(aka N).put (((((aka N).on adZ).aa N 0 26 f176.UT f176.UU).aa N 0 13 f176.tD f176.tE).aa N 0 6 f176.bQ f176.bR) _ _ _ (funext λ⟨a,b,c,d⟩=>by rw[PX,f176.cV N N];kernel_rfl)
def akd:bN:=sg [.c (.int .i64)] [(false,[.int .u64])]
def PY(N:Nat):Int->Option Int|a=>(aF (!decide (a<0)) (some (aL ((aL (1*(2^min a.toNat 64)))-1))))
def ad0:ah:=(akb N).put 214 akd (PY N)
theorem ake:az bJ (ad0 N):=(akc N).put ((akc N).on akd) _ _ _ (funext λa=>by rw[PY];kernel_rfl)
def ad1:bN:=sg [.agg (aZ bf)] [(false,[.int .u64])]
def UY:ah:=(ad0 N).on ad1
def f215.jB:bq:=tm [(4,.c (.sl (.int .i64) .d)),(5,.c (.int .u64)),(6,.c (.int .i64))] [] [] 1 [] 0
def f215.jC:bn:=[(.exit 0,tm [(5,.c (.int .u64))] [] [] 1 [] 0)]
def f215.cW(N:Nat):Nat->List Int×Int×Int->Option Int|0,_=>none|k+1,(a,c,b)=>(cond (decide (b<(a.length:Int))) ((idx a b).bind λd=>(aF (!decide (d<0)) (f215.cW N k (a,(Ct .u64 c (aL (1*(2^min d.toNat 64)))),(av (b+1)))))) (some c))
theorem f215.nh:∀k,f215.cW N k=lp (UY N) 0 5 (tq 215) 5 f215.jB f215.jC k|0=>rfl|k+1=>funext λ⟨a,b,c⟩=>by rw[f215.cW,f215.nh k];kernel_rfl
def apq:ah:=(UY N).aa N 0 5 f215.jB f215.jC
def UZ:ic->Option Int|(a,b,c,d)=>((Ma N (a,b,c,d)).bind λe=>((f215.cW N N (e.2,0,0)).bind λf=>some f))
def ad2:ah:=(ad0 N).put 215 ad1 (UZ N)
theorem akf:az bJ (ad2 N):=(ake N).put (((ake N).on ad1).aa N 0 5 f215.jB f215.jC) _ _ _ (funext λ⟨a,b,c,d⟩=>by rw[UZ,f215.nh N N];kernel_rfl)
def ad3:bN:=⟨[.c (.sl bf .bC),.c (.int .i64),.c (.int .i64)],[(false,[.sl (.int .u64) .d])],0,[(0,29,55,.bool),(0,44,109,.bool)],[],[(0,20,(.int .u64))],[]⟩
def U0:ah:=(ad2 N).on ad3
def f177.jB:bq:=tm [(0,.c (.sl bf .bC)),(1,.c (.int .i64)),(2,.c (.int .i64)),(7,.c (.sl .bool .d)),(8,.c (.ref 0 20 0 (.int .u64))),(9,.c (.int .i64))] [] [(0,20,.row 0 (.int .u64))] 1 [] 1
def f177.jC:bn:=[(.exit 0,tm [(0,.c (.sl bf .bC)),(1,.c (.int .i64)),(7,.c (.sl .bool .d)),(8,.c (.ref 0 20 0 (.int .u64)))] [] [(0,20,.row 0 (.int .u64))] 1 [] 1)]
def f177.cW:Nat->List Instr×Int×Int×List Bool×Int×List Int->Option ((List Instr×Int×List Bool×List Int))|0,_=>none|k+1,(c,d,e,f,a,b)=>(cond (decide (a<(c.length:Int))) ((PY N e).bind λg=>(aF (ga a b.length) ((b[a.toNat]?).bind λh=>f177.cW k (c,d,e,f,(av (a+1)),(b.set a.toNat g))))) (some (c,d,f,b)))
theorem f177.nh:∀k,f177.cW N k=lp (U0 N) 0 5 (tq 177) 5 f177.jB f177.jC k|0=>rfl|k+1=>funext λ⟨a,b,c,d,e,f⟩=>by rw[f177.cW,f177.nh k];kernel_rfl
def U1:ah:=(U0 N).aa N 0 5 f177.jB f177.jC
def f177.Cv:bq:=tm [(0,.c (.sl bf .bC)),(7,.c (.sl .bool .d)),(8,.c (.ref 0 20 0 (.int .u64))),(10,.c (.bool)),(11,.c (.int .i64)),(12,.c (.sl (.int .i64) .d)),(13,.c (.int .i64))] [] [(0,20,.row 0 (.int .u64))] 1 [] 1
def f177.Cw:bn:=[(.exit 6,tm [(0,.c (.sl bf .bC)),(7,.c (.sl .bool .d)),(8,.c (.ref 0 20 0 (.int .u64))),(10,.c (.bool)),(11,.c (.int .i64))] [] [(0,20,.row 0 (.int .u64))] 1 [] 1)]
def f177.kG:Nat->List Instr×List Bool×Bool×Int×List Int×Int×List Int->Option ((List Instr×List Bool×Bool×Int×List Int))|0,_=>none|k+1,(e,f,i,b,c,d,a)=>((cond (decide (d<(c.length:Int))) ((idx f b).bind λp=>some p) (some false)).bind λq=>(cond q ((idx c d).bind λj=>(aF (ga j a.length) ((a[j.toNat]?).bind λl=>(aF (ga b a.length) ((a[b.toNat]?).bind λm=>((idx e b).bind λg=>((UZ N (g.1,g.2.1,g.2.2.1,g.2.2.2)).bind λn=>((idx c d).bind λo=>(aF (ga o a.length) ((a[o.toNat]?).bind λr=>(cond ((uw .u64 l (Ct .u64 m n))!=r) ((idx c d).bind λh=>(aF (ga h a.length) ((a[h.toNat]?).bind λs=>f177.kG k (e,f,true,b,c,(av (d+1)),(a.set h.toNat (uw .u64 l (Ct .u64 m n))))))) (f177.kG k (e,f,i,b,c,(av (d+1)),a))))))))))))) (some (e,f,i,b,a))))
theorem f177.Jx:∀k,f177.kG N k=lp (U1 N) 0 28 (tq 177) 28 f177.Cv f177.Cw k|0=>rfl|k+1=>funext λ⟨a,b,c,d,e,f,g⟩=>by rw[f177.kG,f177.Jx k];kernel_rfl
def U2:ah:=(U1 N).aa N 0 28 f177.Cv f177.Cw
def f177.CU:bq:=tm [(0,.c (.sl bf .bC)),(7,.c (.sl .bool .d)),(8,.c (.ref 0 20 0 (.int .u64))),(10,.c (.bool)),(11,.c (.int .i64))] [] [(0,20,.row 0 (.int .u64))] 1 [] 1
def f177.CV:bn:=[(.exit 4,tm [(0,.c (.sl bf .bC)),(7,.c (.sl .bool .d)),(8,.c (.ref 0 20 0 (.int .u64))),(10,.c (.bool))] [] [(0,20,.row 0 (.int .u64))] 1 [] 1)]
def f177.lJ:Nat->List Instr×List Bool×Bool×Int×List Int->Option ((List Instr×List Bool×Bool×List Int))|0,_=>none|k+1,(b,d,e,c,f)=>(cond (decide (c<(b.length:Int))) ((PN N (b,c)).bind λg=>((f177.kG N N (b,d,e,c,g,0,f)).bind λa=>f177.lJ k (a.1,a.2.1,a.2.2.1,(av (a.2.2.2.1+1)),a.2.2.2.2))) (some (b,d,e,f)))
theorem f177.JN:∀k,f177.lJ N k=lp (U2 N) 0 21 (tq 177) 21 f177.CU f177.CV k|0=>rfl|k+1=>funext λ⟨a,b,c,d,e⟩=>by rw[f177.lJ,f177.JN k,f177.Jx N N];kernel_rfl
def U3:ah:=(U2 N).aa N 0 21 f177.CU f177.CV
def f177.CH:bq:=tm [(0,.c (.sl bf .bC)),(7,.c (.sl .bool .d)),(8,.c (.ref 0 20 0 (.int .u64))),(10,.c (.bool))] [] [(0,20,.row 0 (.int .u64))] 1 [] 1
def f177.CI:bn:=[(.exit 2,tm [(0,.c (.sl bf .bC)),(7,.c (.sl .bool .d)),(8,.c (.ref 0 20 0 (.int .u64)))] [] [(0,20,.row 0 (.int .u64))] 1 [] 1)]
def f177.oF:Nat->List Instr×List Bool×Bool×List Int->Option ((List Instr×List Bool×List Int))|0,_=>none|k+1,(b,c,e,d)=>(cond e ((f177.lJ N N (b,c,false,0,d)).bind λa=>f177.oF k (a.1,a.2.1,a.2.2.1,a.2.2.2)) (some (b,c,d)))
theorem f177.JG:∀k,f177.oF N k=lp (U3 N) 0 14 (tq 177) 14 f177.CH f177.CI k|0=>rfl|k+1=>funext λ⟨a,b,c,d⟩=>by rw[f177.oF,f177.JG k,f177.JN N N];kernel_rfl
def U4:ah:=(U3 N).aa N 0 14 f177.CH f177.CI
def f177.U5:bq:=tm [(0,.c (.sl bf .bC)),(7,.c (.sl .bool .d)),(8,.c (.ref 0 20 0 (.int .u64))),(15,.c (.int .i64))] [] [(0,20,.row 0 (.int .u64))] 1 [] 1
def f177.U6:bn:=[(.exit 8,tm [(8,.c (.ref 0 20 0 (.int .u64)))] [] [(0,20,.row 0 (.int .u64))] 1 [] 1)]
def f177.z8(N:Nat):Nat->List Instr×List Bool×Int×List Int->Option ((List Int))|0,_=>none|k+1,(c,d,a,b)=>(cond (decide (a<(c.length:Int))) (((idx d a).bind λe=>(cond (!e) (some true) (some (a==(av ((c.length:Int)-1)))))).bind λf=>(cond f (aF (ga a b.length) ((b[a.toNat]?).bind λg=>f177.z8 N k (c,d,(av (a+1)),(b.set a.toNat 0)))) (f177.z8 N k (c,d,(av (a+1)),b)))) (some b))
theorem f177.aaJ:∀k,f177.z8 N k=lp (U4 N) 0 40 (tq 177) 40 f177.U5 f177.U6 k|0=>rfl|k+1=>funext λ⟨a,b,c,d⟩=>by rw[f177.z8,f177.aaJ k];kernel_rfl
def apr:ah:=(U4 N).aa N 0 40 f177.U5 f177.U6
def Mc:List Instr×Int×Int->Option (List Int)|(a,d,e)=>((PO N a).bind λf=>(aF (decide (0<=(a.length:Int))) (aF (decide (0<=(a.length:Int))) (aF (decide ((Int.toNat (a.length:Int))<=(Int.toNat (a.length:Int)))&&room (Int.toNat (a.length:Int)) 8) ((f177.cW N N (a,d,e,f,0,(List.replicate (Int.toNat (a.length:Int)) (0:Int)))).bind λb=>((PY N b.2.1).bind λg=>(aF (ga 0 b.2.2.2.length) ((b.2.2.2[(Int.toNat 0)]?).bind λi=>((f177.oF N N (b.1,b.2.2.1,true,(b.2.2.2.set (Int.toNat 0) g))).bind λc=>((f177.z8 N N (c.1,c.2.1,0,c.2.2)).bind λh=>some h))))))))))
def ad4:ah:=(ad2 N).put 177 ad3 (Mc N)
theorem akg:az bJ (ad4 N):=(akf N).put (((((((akf N).on ad3).aa N 0 5 f177.jB f177.jC).aa N 0 28 f177.Cv f177.Cw).aa N 0 21 f177.CU f177.CV).aa N 0 14 f177.CH f177.CI).aa N 0 40 f177.U5 f177.U6) _ _ _ (funext λ⟨a,b,c⟩=>by rw[Mc,f177.nh N N,f177.JG N N,f177.aaJ N N];kernel_rfl)
def ad5:bN:=⟨[.agg (cF aY),.c (.int .i64)],[(false,[.int .i64]),(false,[.int .i64])],0,[(0,5,38,.bool),(0,15,10,(.int .i64))],[],[],[]⟩
def U7:ah:=(ad4 N).on ad5
def f129.oD:bq:=tm [(1,.c (.int .i64)),(2,.c (.ptr 0 2 0 0 0)),(6,.c (.ptr 0 6 1 0 0)),(7,.c (.sl .bool .d)),(8,.c (.int .i64)),(9,.c (.int .i64))] [] [(0,2,.box 0 (cF aY)),(0,6,.box 1 (aZ dK))] 1 [] 2
def f129.oE:bn:=[(.ret,tm [(4,.c (.int .i64)),(5,.c (.int .i64))] [] [] 1 [] 0),(.exit 0,tm [(1,.c (.int .i64)),(2,.c (.ptr 0 2 0 0 0)),(6,.c (.ptr 0 6 1 0 0))] [] [(0,2,.box 0 (cF aY)),(0,6,.box 1 (aZ dK))] 1 [] 2)]
def f129.eE:Nat->Int×List Bool×Int×Int×dw->Option ((Int×Int)⊕(Int×dw))|0,_=>none|k+1,(b,g,h,a,c,d,e,i,j,l,m,f,n,o)=>(cond (decide (a<(f.length:Int))) (((idx g a).bind λq=>(cond q ((PV N (c,d,e,b,a,true)).bind λr=>some r) ((PV N (c,d,e,b,a,(a==h))).bind λs=>some s))).bind λp=>(cond (p !=0) (some (Sum.inl (a,p))) (f129.eE k (b,g,h,(av (a+1)),c,d,e,i,j,l,m,f,n,o)))) (some (Sum.inr (b,c,d,e,i,j,l,m,f,n,o))))
theorem f129.td:∀k,f129.eE N k=lp (U7 N) 0 11 (tq 129) 11 f129.oD f129.oE k|0=>rfl|k+1=>funext λ⟨a,b,c,d,e,f,g,h,i,j,l,m,n,o⟩=>by rw[f129.eE,f129.td k];kernel_rfl
def U8:ah:=(U7 N).aa N 0 11 f129.oD f129.oE
def f129.U9:bq:=tm [(6,.c (.ptr 0 6 0 0 0)),(13,.c (.sl (.int .u64) .d)),(14,.c (.int .i64)),(15,.c (.sl (.int .i64) .d)),(17,.c (.int .i64))] [] [(0,6,.box 0 (aZ dK))] 1 [] 1
def f129.Va:bn:=[(.ret,tm [(4,.c (.int .i64)),(5,.c (.int .i64))] [] [] 1 [] 0),(.exit 4,tm [(6,.c (.ptr 0 6 0 0 0)),(13,.c (.sl (.int .u64) .d)),(14,.c (.int .i64))] [] [(0,6,.box 0 (aZ dK))] 1 [] 1)]
def f129.Aa(N:Nat):Nat->List Int×Int×List Int×Int×gV->Option ((Int×Int)⊕(List Int×Int×gV))|0,_=>none|k+1,(b,a,c,d,e,f,g,h,i,j,l)=>(cond (decide (d<(c.length:Int))) ((idx b a).bind λn=>((idx c d).bind λm=>(aF (!decide (m<0)) (cond ((Int.tmod (Int.fdiv n (2^min m.toNat 64)) 2)==0) (some (Sum.inl (a,38))) (f129.Aa N k (b,a,c,(av (d+1)),e,f,g,h,i,j,l)))))) (some (Sum.inr (b,a,e,f,g,h,i,j,l))))
theorem f129.aaK:∀k,f129.Aa N k=lp (U8 N) 0 34 (tq 129) 34 f129.U9 f129.Va k|0=>rfl|k+1=>funext λ⟨a,b,c,d,e,f,g,h,i,j,l⟩=>by rw[f129.Aa,f129.aaK k];kernel_rfl
def Vb:ah:=(U8 N).aa N 0 34 f129.U9 f129.Va
def f129.tF:bq:=tm [(6,.c (.ptr 0 6 0 0 0)),(13,.c (.sl (.int .u64) .d)),(14,.c (.int .i64))] [] [(0,6,.box 0 (aZ dK))] 1 [] 1
def f129.tG:bn:=[(.ret,tm [(4,.c (.int .i64)),(5,.c (.int .i64))] [] [] 1 [] 0),(.exit 2,tm [] [] [] 1 [] 0)]
def f129.je:Nat->List Int×Int×gV->Option ((Int×Int)⊕Unit)|0,_=>none|k+1,(f,c,g,h,i,j,d,l,m)=>(cond (decide (c<(d.length:Int))) ((idx d c).bind λb=>((Ma N (b.1,b.2.1,b.2.2.1,b.2.2.2)).bind λn=>((f129.Aa N N (f,c,n.1,0,g,h,i,j,d,l,m)).bind λo=>(match o with|.inl e=>some (Sum.inl (e.1,e.2))|.inr a=>f129.je k (a.1,(av (a.2.1+1)),a.2.2.1,a.2.2.2.1,a.2.2.2.2.1,a.2.2.2.2.2.1,a.2.2.2.2.2.2.1,a.2.2.2.2.2.2.2.1,a.2.2.2.2.2.2.2.2))))) (some (Sum.inr ())))
theorem f129.z7:∀k,f129.je N k=lp (Vb N) 0 27 (tq 129) 27 f129.tF f129.tG k|0=>rfl|k+1=>funext λ⟨a,b,c,d,e,f,g,h,i⟩=>by rw[f129.je,f129.z7 k,f129.aaK N N];kernel_rfl
def aps:ah:=(Vb N).aa N 0 27 f129.tF f129.tG
def Vc:bP Int->Option (Int×Int)|(g,h,d,c)=>((idx d c).bind λb=>((UD N b.2.2.2.2.1).bind λi=>(cond (i !=0) (some ((-1),12)) ((cond (c==0) (cond (b.2.1!=0) (some true) (some (b.2.2.1!=(-1)))) (some false)).bind λj=>(cond j (some ((-1),30)) ((PO N b.2.2.2.2.1).bind λl=>((f129.eE N N (c,l,(av ((b.2.2.2.2.1.length:Int)-1)),0,g,h,d,b.1,b.2.1,b.2.2.1,b.2.2.2.1,b.2.2.2.2.1,b.2.2.2.2.2.1,b.2.2.2.2.2.2)).bind λm=>(match m with|.inl e=>some (e.1,e.2)|.inr a=>((PX N (a.2.1,a.2.2.1,a.2.2.2.1,a.1)).bind λn=>(cond (!n.2) (some ((-1),36)) ((Mc N (a.2.2.2.2.2.2.2.2.1,a.2.2.2.2.2.1,(a.2.2.2.2.2.2.2.1.length:Int))).bind λo=>((f129.je N N (o,0,a.2.2.2.2.1,a.2.2.2.2.2.1,a.2.2.2.2.2.2.1,a.2.2.2.2.2.2.2.1,a.2.2.2.2.2.2.2.2.1,a.2.2.2.2.2.2.2.2.2.1,a.2.2.2.2.2.2.2.2.2.2)).bind λp=>(match p with|.inl f=>some (f.1,f.2)|.inr q=>some (0,0))))))))))))))
def ad6:ah:=(ad4 N).put 129 ad5 (Vc N)
theorem akh:az bJ (ad6 N):=(akg N).put (((((akg N).on ad5).aa N 0 11 f129.oD f129.oE).aa N 0 34 f129.U9 f129.Va).aa N 0 27 f129.tF f129.tG) _ _ _ (funext λ⟨a,b,c,d⟩=>by rw[Vc,f129.td N N,f129.z7 N N];kernel_rfl)
def ad7:bN:=⟨[.c (.sl bI .bC)],[(false,[.sl bI .d])],0,[],[],[(0,16,cS),(0,26,bI)],[]⟩
def Vd:ah:=(ad6 N).on ad7
def f216.eC:bq:=tm [(0,.c (.sl bI .bC)),(3,.c (.sl bI (.app 0))),(4,.c (.int .i64))] [] [] 1 [0] 1
def f216.eD:bn:=[(.exit 0,tm [(3,.c (.sl bI (.app 0)))] [] [] 1 [0] 1)]
def f216.bz(N:Nat):Nat->List aA×List aA×Int->Option ((List aA))|0,_=>none|k+1,(a,c,b)=>(cond (decide (b<(a.length:Int))) ((idx a b).bind λd=>((idx a b).bind λe=>(aF (room (0+e.2.2.2.length) 24) (aF (room (c.length+1) 48) (f216.bz N k (a,(c++[(d.1,d.2.1,d.2.2.1,([]++e.2.2.2))]),(av (b+1)))))))) (some c))
theorem f216.gL:∀k,f216.bz N k=lp (Vd N) 0 4 (tq 216) 4 f216.eC f216.eD k|0=>rfl|k+1=>funext λ⟨a,b,c⟩=>by rw[f216.bz,f216.gL k];kernel_rfl
def apt:ah:=(Vd N).aa N 0 4 f216.eC f216.eD
def Ve:List aA->Option (List aA)|a=>((f216.bz N N (a,[],0)).bind λb=>some b)
def ad8:ah:=(ad6 N).put 216 ad7 (Ve N)
theorem aki:az bJ (ad8 N):=(akh N).put (((akh N).on ad7).aa N 0 4 f216.eC f216.eD) _ _ _ (funext λa=>by rw[Ve,f216.gL N N];kernel_rfl)
def ad9:bN:=⟨[.c (.sl (.int .u64) .bC)],[(false,[.sl ia .d])],0,[(0,8,24,.bool)],[],[(0,32,ia)],[]⟩
def Vf:ah:=(ad8 N).on ad9
def f184.eC:bq:=tm [(0,.c (.sl (.int .u64) .bC)),(3,.c (.sl ia (.app 0))),(4,.c (.int .i64))] [] [] 1 [0] 1
def f184.eD:bn:=[(.exit 0,tm [(3,.c (.sl ia (.app 0)))] [] [] 1 [0] 1)]
def f184.bz(N:Nat):Nat->List Int×List eN×Int->Option ((List eN))|0,_=>none|k+1,(b,c,a)=>(cond (decide (a<(b.length:Int))) ((cond (a==0) (some true) ((idx b a).bind λd=>((idx b (av (a-1))).bind λe=>some (d !=e)))).bind λf=>(cond f ((idx b a).bind λg=>(aF (room (c.length+1) 16) (f184.bz N k (b,(c++[(a,g)]),(av (a+1)))))) (f184.bz N k (b,c,(av (a+1)))))) (some c))
theorem f184.gL:∀k,f184.bz N k=lp (Vf N) 0 4 (tq 184) 4 f184.eC f184.eD k|0=>rfl|k+1=>funext λ⟨a,b,c⟩=>by rw[f184.bz,f184.gL k];kernel_rfl
def apu:ah:=(Vf N).aa N 0 4 f184.eC f184.eD
def PZ:List Int->Option (List eN)|a=>((f184.bz N N (a,[],0)).bind λb=>some b)
def aea:ah:=(ad8 N).put 184 ad9 (PZ N)
theorem akj:az bJ (aea N):=(aki N).put (((aki N).on ad9).aa N 0 4 f184.eC f184.eD) _ _ _ (funext λa=>by rw[PZ,f184.gL N N];kernel_rfl)
def aeb:bN:=⟨[.agg (cF aY),.c (.int .i64)],[(true,(aZ dK))],0,[],[],[(1011000,9,.str),(1011000,26,cS),(1011000,31,bf),(1011000,36,ia),(1011000,41,ia),(1011000,49,dK),(0,36,(.int .u64))],[]⟩
def Vg:ah:=(aea N).on aeb
def f131.vt:bq:=tm [(1,.c (.ptr 1 1 0 0 0)),(2,.c (.ptr 1 2 1 0 0)),(3,.c (.ptr 1 3 2 0 0)),(4,.c (.int .i64))] [[(2,.c (.ptr 0 2 3 0 0)),(4,.c (.ptr 0 4 4 0 0))]] [(1,1,.box 0 (cF aY)),(1,2,.box 1 [.nil true,.nil true,.nil true]),(1,3,.box 2 [.sl bI .d,.sl .str (.app 5),.sl dK (.app 6)]),(0,2,.box 3 (cF aY)),(0,4,.box 4 [.str,.int .i64,.int .i64,.nil true,.nil true,.nil true,.nil true])] 2 [5,6] 7
def f131.vu:bn:=[(.exit 0,tm [(2,.c (.ptr 1 2 0 0 0)),(3,.c (.ptr 1 3 1 0 0))] [[(2,.c (.ptr 0 2 2 0 0)),(4,.c (.ptr 0 4 3 0 0))]] [(1,2,.box 0 [.nil true,.nil true,.nil true]),(1,3,.box 1 [.sl bI .d,.sl .str (.app 4),.sl dK (.app 5)]),(0,2,.box 2 (cF aY)),(0,4,.box 3 [.str,.int .i64,.int .i64,.nil true,.nil true,.nil true,.nil true])] 2 [4,5] 6)]
def f131.kj(N:Nat):Nat->Int×bP (bP (bP (List UInt8×Int×Int)))->Option ((bP (bP (List UInt8×Int×Int))))|0,_=>none|k+1,(b,n,o,c,e,f,d,g,h,i,j,l,m)=>(cond (decide (b<(c.length:Int))) ((idx c b).bind λa=>(aF (room (0+a.2.2.2.1.length) 24) (aF (room (0+a.2.2.2.2.1.length) 32) (aF (room (0+a.2.2.2.2.2.1.length) 16) (aF (room (0+a.2.2.2.2.2.2.length) 16) (aF (room (d.length+1) 128) (f131.kj N k ((av (b+1)),n,o,c,e,f,(d++[(a.1,a.2.1,a.2.2.1,([]++a.2.2.2.1),([]++a.2.2.2.2.1),([]++a.2.2.2.2.2.1),([]++a.2.2.2.2.2.2))]),g,h,i,j,l,m)))))))) (some (e,f,d,g,h,i,j,l,m)))
theorem f131.CX:∀k,f131.kj N k=lp (Vg N) 1011000 4 (tq 182) 4 f131.vt f131.vu k|0=>rfl|k+1=>funext λ⟨a,b,c,d,e,f,g,h,i,j,l,m,n⟩=>by rw[f131.kj,f131.CX k];kernel_rfl
def Vh:ah:=(Vg N).aa N 1011000 4 f131.vt f131.vu
def f131.bQ:bq:=tm [(2,.c (.ptr 0 2 0 0 0)),(4,.c (.ptr 0 4 1 0 0)),(5,.c (.ptr 0 5 2 0 0)),(6,.c (.sl (.sl (.int .i64)) .d)),(8,.c (.sl (.int .u64) (.app 3))),(9,.c (.int .i64))] [] [(0,2,.box 0 (cF aY)),(0,4,.box 1 [.str,.int .i64,.int .i64,.nil true,.nil true,.nil true,.nil true]),(0,5,.box 2 (aZ dK))] 1 [3] 4
def f131.bR:bn:=[(.exit 0,tm [(4,.c (.ptr 0 4 0 0 0)),(5,.c (.ptr 0 5 1 0 0)),(8,.c (.sl (.int .u64) (.app 2)))] [] [(0,4,.box 0 [.str,.int .i64,.int .i64,.nil true,.nil true,.nil true,.nil true]),(0,5,.box 1 (aZ dK))] 1 [2] 3)]
def f131.aP:Nat->List (List Int)×List Int×Int×bP (List UInt8×Int×Int×gV)->Option ((List Int×List UInt8×Int×Int×gV))|0,_=>none|k+1,(a,b,c,d,e,f,g,h,i,j,l,m,n,o,p,q)=>(cond (decide (c<(a.length:Int))) ((idx a c).bind λr=>((Mb N (d,e,f,r)).bind λs=>(aF (room (b.length+1) 8) (f131.aP k (a,(b++[(aL s)]),(av (c+1)),d,e,f,g,h,i,j,l,m,n,o,p,q))))) (some (b,g,h,i,j,l,m,n,o,p,q)))
theorem f131.cV:∀k,f131.aP N k=lp (Vh N) 0 6 (tq 131) 6 f131.bQ f131.bR k|0=>rfl|k+1=>funext λ⟨a,b,c,d,e,f,g,h,i,j,l,m,n,o,p,q⟩=>by rw[f131.aP,f131.cV k];kernel_rfl
def apv:ah:=(Vh N).aa N 0 6 f131.bQ f131.bR
def Vi:bP Int->Option gV|(e,d,f,g)=>((Ve N e).bind λh=>(aF (room (0+d.length) 16) ((f131.kj N N (0,e,d,f,h,([]++d),[],e,d,f,([]:List UInt8),0,0)).bind λa=>((idx a.2.2.1 g).bind λc=>((PX N (a.2.2.2.1,a.2.2.2.2.1,a.2.2.2.2.2.1,g)).bind λi=>((f131.aP N N (i.1,[],0,a.2.2.2.1,a.2.2.2.2.1,a.2.2.2.2.2.1,a.2.2.2.2.2.2.1,a.2.2.2.2.2.2.2.1,a.2.2.2.2.2.2.2.2,c.1,c.2.1,c.2.2.1,c.2.2.2.1,c.2.2.2.2.1,c.2.2.2.2.2.1,c.2.2.2.2.2.2)).bind λb=>((PZ N b.1).bind λj=>((Mc N (b.2.2.2.2.2.2.2.2.1,b.2.2.2.2.2.1,(b.2.2.2.2.2.2.2.1.length:Int))).bind λl=>((PZ N l).bind λm=>some (b.2.2.2.2.1,b.2.2.2.2.2.1,b.2.2.2.2.2.2.1,b.2.2.2.2.2.2.2.1,b.2.2.2.2.2.2.2.2.1,j,m))))))))))
def aec:ah:=(aea N).put 131 aeb (Vi N)
theorem akk:az bJ (aec N):=(akj N).put ((((akj N).on aeb).aa N 1011000 4 f131.vt f131.vu).aa N 0 6 f131.bQ f131.bR) _ _ _ (funext λ⟨a,b,c,d⟩=>by rw[Vi,f131.CX N N,f131.cV N N];kernel_rfl)
def aed:bN:=sg [.c (.sl cS .bC),.c (.sl cS .bC)] [(false,[.bool])]
def Vj:ah:=(aec N).on aed
def f179.bQ:bq:=tm [(0,.c (.sl cS .bC)),(1,.c (.sl cS .bC)),(5,.c (.int .i64))] [] [] 1 [] 0
def f179.bR:bn:=[(.ret,tm [(4,.c (.bool))] [] [] 1 [] 0),(.exit 0,tm [] [] [] 1 [] 0)]
def f179.aP(N:Nat):Nat->List Field×List Field×Int->Option (Bool⊕Unit)|0,_=>none|k+1,(b,c,a)=>(cond (decide (a<(b.length:Int))) ((idx b a).bind λd=>((idx c a).bind λe=>(cond (!(d.1==e.1&&(d.2==e.2&&true))) (some (Sum.inl false)) (f179.aP N k (b,c,(av (a+1))))))) (some (Sum.inr ())))
theorem f179.cV:∀k,f179.aP N k=lp (Vj N) 0 6 (tq 179) 6 f179.bQ f179.bR k|0=>rfl|k+1=>funext λ⟨a,b,c⟩=>by rw[f179.aP,f179.cV k];kernel_rfl
def apw:ah:=(Vj N).aa N 0 6 f179.bQ f179.bR
def Vk:List Field×List Field->Option Bool|(a,b)=>(cond ((a.length:Int)!=(b.length:Int)) (some false) ((f179.aP N N (a,b,0)).bind λc=>(match c with|.inl d=>some d|.inr e=>some true)))
def aee:ah:=(aec N).put 179 aed (Vk N)
theorem akl:az bJ (aee N):=(akk N).put (((akk N).on aed).aa N 0 6 f179.bQ f179.bR) _ _ _ (funext λ⟨a,b⟩=>by rw[Vk,f179.cV N N];kernel_rfl)
def aef:bN:=sg [.c (.sl bf .bC),.c (.sl bf .bC)] [(false,[.bool])]
def Vl:ah:=(aee N).on aef
def f180.bQ:bq:=tm [(0,.c (.sl bf .bC)),(1,.c (.sl bf .bC)),(5,.c (.int .i64))] [] [] 1 [] 0
def f180.bR:bn:=[(.ret,tm [(4,.c (.bool))] [] [] 1 [] 0),(.exit 0,tm [] [] [] 1 [] 0)]
def f180.aP(N:Nat):Nat->List Instr×List Instr×Int->Option (Bool⊕Unit)|0,_=>none|k+1,(d,e,a)=>(cond (decide (a<(d.length:Int))) ((idx d a).bind λb=>((idx e a).bind λc=>(cond (!(b.1==c.1&&(b.2.1==c.2.1&&(b.2.2.1==c.2.2.1&&(b.2.2.2==c.2.2.2&&true))))) (some (Sum.inl false)) (f180.aP N k (d,e,(av (a+1))))))) (some (Sum.inr ())))
theorem f180.cV:∀k,f180.aP N k=lp (Vl N) 0 6 (tq 180) 6 f180.bQ f180.bR k|0=>rfl|k+1=>funext λ⟨a,b,c⟩=>by rw[f180.aP,f180.cV k];kernel_rfl
def apx:ah:=(Vl N).aa N 0 6 f180.bQ f180.bR
def Vm:List Instr×List Instr->Option Bool|(a,b)=>(cond ((a.length:Int)!=(b.length:Int)) (some false) ((f180.aP N N (a,b,0)).bind λc=>(match c with|.inl d=>some d|.inr e=>some true)))
def aeg:ah:=(aee N).put 180 aef (Vm N)
theorem akm:az bJ (aeg N):=(akl N).put (((akl N).on aef).aa N 0 6 f180.bQ f180.bR) _ _ _ (funext λ⟨a,b⟩=>by rw[Vm,f180.cV N N];kernel_rfl)
def aeh:bN:=sg [.c (.sl ia .bC),.c (.sl ia .bC)] [(false,[.bool])]
def Vn:ah:=(aeg N).on aeh
def f181.bQ:bq:=tm [(0,.c (.sl ia .bC)),(1,.c (.sl ia .bC)),(5,.c (.int .i64))] [] [] 1 [] 0
def f181.bR:bn:=[(.ret,tm [(4,.c (.bool))] [] [] 1 [] 0),(.exit 0,tm [] [] [] 1 [] 0)]
def f181.aP(N:Nat):Nat->List eN×List eN×Int->Option (Bool⊕Unit)|0,_=>none|k+1,(b,c,a)=>(cond (decide (a<(b.length:Int))) ((idx b a).bind λd=>((idx c a).bind λe=>(cond (!(d.1==e.1&&(d.2==e.2&&true))) (some (Sum.inl false)) (f181.aP N k (b,c,(av (a+1))))))) (some (Sum.inr ())))
theorem f181.cV:∀k,f181.aP N k=lp (Vn N) 0 6 (tq 181) 6 f181.bQ f181.bR k|0=>rfl|k+1=>funext λ⟨a,b,c⟩=>by rw[f181.aP,f181.cV k];kernel_rfl
def apy:ah:=(Vn N).aa N 0 6 f181.bQ f181.bR
def P0:List eN×List eN->Option Bool|(a,b)=>(cond ((a.length:Int)!=(b.length:Int)) (some false) ((f181.aP N N (a,b,0)).bind λc=>(match c with|.inl d=>some d|.inr e=>some true)))
def akn:ah:=(aeg N).put 181 aeh (P0 N)
theorem ako:az bJ (akn N):=(akm N).put (((akm N).on aeh).aa N 0 6 f181.bQ f181.bR) _ _ _ (funext λ⟨a,b⟩=>by rw[P0,f181.cV N N];kernel_rfl)
def akp:bN:=⟨[.agg (cF dK),.agg (cF dK)],[(false,[.bool])],0,[(0,1,4,.bool)],[],[],[]⟩
def Vo:agw gV->Option Bool|(a,b,c,d,e,f,g,h,i,j,l,m,n,o)=>((cond (a==h) (cond (b==i) (cond (c==j) ((Vk N (d,l)).bind λp=>(cond p ((Vm N (e,m)).bind λq=>(cond q ((P0 N (f,n)).bind λr=>(cond r ((P0 N (g,o)).bind λs=>some s) (some false))) (some false))) (some false))) (some false)) (some false)) (some false)).bind λt=>some t)
def akq:ah:=(akn N).put 130 akp (Vo N)
theorem akr:az bJ (akq N):=(ako N).put ((ako N).on akp) _ _ _ (funext λ⟨a,b,c,d,e,f,g,h,i,j,l,m,n,o⟩=>by rw[Vo];kernel_rfl)
def s98:bN:=sg [.agg (cF aY),.c (.int .i64)] [(false,[.int .i64]),(false,[.int .i64])]
def F98:bP Int->Option (Int×Int)|(f,g,d,e)=>((Vc N (f,g,d,e)).bind λc=>(cond (c.2==0) ((Vi N (f,g,d,e)).bind λa=>((idx d e).bind λb=>((Vo N (a.1,a.2.1,a.2.2.1,a.2.2.2.1,a.2.2.2.2.1,a.2.2.2.2.2.1,a.2.2.2.2.2.2,b.1,b.2.1,b.2.2.1,b.2.2.2.1,b.2.2.2.2.1,b.2.2.2.2.2.1,b.2.2.2.2.2.2)).bind λh=>(cond (!h) (some ((-1),32)) (some (c.1,c.2)))))) (some (c.1,c.2))))
def G98:ah:=(akq N).put 98 s98 (F98 N)
theorem K98:az bJ (G98 N):=(akr N).put ((akr N).on s98) _ _ _ (funext λ⟨a,b,c,d⟩=>by rw[F98];kernel_rfl)
def s70:bN:=sg [.agg (cF aY)] [(false,[.int .i64]),(false,[.int .i64]),(false,[.int .i64])]
def aaL:ah:=(G98 N).on s70
def f70.ig:bq:=tm [(1,.c (.ptr 0 1 0 0 0)),(6,.c (.int .i64))] [] [(0,1,.box 0 (cF aY))] 1 [] 1
def f70.ij:bn:=[(.ret,tm [(2,.c (.int .i64)),(3,.c (.int .i64)),(4,.c (.int .i64))] [] [] 1 [] 0),(.exit 0,tm [] [] [] 1 [] 0)]
def f70.cI:Nat->Int×dc->Option ((Int×Int×Int)⊕Unit)|0,_=>none|k+1,(a,d,e,b)=>(cond (decide (a<(b.length:Int))) ((F98 N (d,e,b,a)).bind λc=>(cond (c.2!=0) (some (Sum.inl (a,c.1,c.2))) (f70.cI k ((av (a+1)),d,e,b)))) (some (Sum.inr ())))
theorem f70.kW:∀k,f70.cI N k=lp (aaL N) 0 7 (tq 70) 7 f70.ig f70.ij k|0=>rfl|k+1=>funext λ⟨a,b,c,d⟩=>by rw[f70.cI,f70.kW k];kernel_rfl
def asY:ah:=(aaL N).aa N 0 7 f70.ig f70.ij
def F70:dc->Option (Int×Int×Int)|(b,c,d)=>((F97 N (b,c,d)).bind λe=>(cond (e !=0) (some (0,0,e)) ((f70.cI N N (0,b,c,d)).bind λf=>(match f with|.inl a=>some (a.1,a.2.1,a.2.2)|.inr g=>some (0,0,0)))))
def G70:ah:=(G98 N).put 70 s70 (F70 N)
theorem K70:az bJ (G70 N):=(K98 N).put (((K98 N).on s70).aa N 0 7 f70.ig f70.ij) _ _ _ (funext λ⟨a,b,c⟩=>by rw[F70,f70.kW N N];kernel_rfl)
def s43:bN:=sg [.agg (cF aY)] [(false,[.int .i64])]
def F43:dc->Option Int|(a,b,c)=>((F70 N (a,b,c)).bind λd=>some d.2.2)
def G43:ah:=(G70 N).put 43 s43 (F43 N)
theorem K43:az bJ (G43 N):=(K70 N).put ((K70 N).on s43) _ _ _ (funext λ⟨a,b,c⟩=>by rw[F43];kernel_rfl)
def s99:bN:=⟨[.agg (aZ AR)],[(false,[.bool])],0,[(0,1,2,.bool)],[],[],[]⟩
def F99(N:Nat):AS->Option Bool|(a,b,c,d)=>((cond (decide (a>=1)) (cond (decide (a<=5000)) (cond (decide (b>=0)) (cond (decide (b<=4096)) (cond (decide (c>=0)) (cond (decide (c<=16384)) (cond (decide (d>=1)) (some (decide (d<=16))) (some false)) (some false)) (some false)) (some false)) (some false)) (some false)) (some false)).bind λe=>some e)
def G99:ah:=(G43 N).put 99 s99 (F99 N)
theorem K99:az bJ (G99 N):=(K43 N).put ((K43 N).on s99) _ _ _ (funext λ⟨a,b,c,d⟩=>by rw[F99];kernel_rfl)
def s71:bN:=⟨[.agg (cF G2)],[(false,[.int .i64])],0,[(0,1,13,.bool),(0,10,34,.bool)],[],[],[]⟩
def aaM:ah:=(G99 N).on s71
def f71.bQ:bq:=tm [(1,.c (.ptr 0 1 0 0 0)),(3,.c (.int .i64))] [] [(0,1,.box 0 (cF G2))] 1 [] 1
def f71.bR:bn:=[(.ret,tm [(2,.c (.int .i64))] [] [] 1 [] 0),(.exit 0,tm [] [] [] 1 [] 0)]
def f71.aP(N:Nat):Nat->Int×AT->Option (Int⊕Unit)|0,_=>none|k+1,(a,b,c,d,e,f)=>(cond (decide (a<(b.length:Int))) (((idx b a).bind λg=>(cond (decide (g<0)) (some true) ((idx b a).bind λh=>some (decide (h>65535))))).bind λi=>(cond i (some (Sum.inl 8)) (f71.aP N k ((av (a+1)),b,c,d,e,f)))) (some (Sum.inr ())))
theorem f71.cV:∀k,f71.aP N k=lp (aaM N) 0 6 (tq 71) 6 f71.bQ f71.bR k|0=>rfl|k+1=>funext λ⟨a,b,c,d,e,f⟩=>by rw[f71.aP,f71.cV k];kernel_rfl
def as8:ah:=(aaM N).aa N 0 6 f71.bQ f71.bR
def F71:AT->Option Int|(a,b,c,d,e)=>((cond (decide ((a.length:Int)>2000)) (some true) ((F99 N (b,c,d,e)).bind λf=>some (!f))).bind λg=>(cond g (some 8) ((f71.aP N N (0,a,b,c,d,e)).bind λh=>(match h with|.inl i=>some i|.inr j=>some 0))))
def G71:ah:=(G99 N).put 71 s71 (F71 N)
theorem K71:az bJ (G71 N):=(K99 N).put (((K99 N).on s71).aa N 0 6 f71.bQ f71.bR) _ _ _ (funext λ⟨a,b,c,d,e⟩=>by rw[F71,f71.cV N N];kernel_rfl)
def s44:bN:=sg [.agg (aZ AR)] [(false,[.bool])]
def F44:AS->Option Bool|(a,b,c,d)=>((F71 N ([],a,b,c,d)).bind λe=>some (e==0))
def G44:ah:=(G71 N).put 44 s44 (F44 N)
theorem K44:az bJ (G44 N):=(K71 N).put ((K71 N).on s44) _ _ _ (funext λ⟨a,b,c,d⟩=>by rw[F44];kernel_rfl)
def s28:bN:=⟨[.agg (cF aX)],[(false,[.bool])],0,[(0,1,2,.bool)],[],[],[]⟩
def F28(N:Nat):Int×List Int->Option Bool|(b,a)=>((cond (b==65536) (cond ((Int.tmod (a.length:Int) 8)==0) (some (decide ((a.length:Int)<=16384))) (some false)) (some false)).bind λc=>some c)
def G28:ah:=(G44 N).put 28 s28 (F28 N)
theorem K28:az bJ (G28 N):=(K44 N).put ((K44 N).on s28) _ _ _ (funext λ⟨a,b⟩=>by rw[F28];kernel_rfl)
def s47:bN:=sg [.c (.int .i64)] [(false,[.int .u64])]
def F47(N:Nat):Int->Option Int|a=>some (aL (av (16777216*(av (a+1)))))
def G47:ah:=(G28 N).put 47 s47 (F47 N)
theorem K47:az bJ (G47 N):=(K28 N).put ((K28 N).on s47) _ _ _ (funext λa=>by rw[F47];kernel_rfl)
def akv:bN:=⟨[.c (.int .u64)],[(false,[.bool])],0,[(0,1,2,.bool)],[],[],[]⟩
def Vp(N:Nat):Int->Option Bool|a=>((cond (decide ((aL (Int.tdiv a 256))>=1)) (some (decide ((aL (Int.tdiv a 256))<=32))) (some false)).bind λb=>some b)
def akw:ah:=(G47 N).put 100 akv (Vp N)
theorem akx:az bJ (akw N):=(K47 N).put ((K47 N).on akv) _ _ _ (funext λa=>by rw[Vp];kernel_rfl)
def aky:bN:=⟨[.c (.int .u64)],[(false,[.bool])],0,[(0,1,2,.bool)],[],[],[]⟩
def P3(N:Nat):Int->Option Bool|a=>((cond (a==0) (some true) (cond (decide (a>=65536)) (some ((Int.tmod a 8)==0)) (some false))).bind λb=>some b)
def akz:ah:=(akw N).put 101 aky (P3 N)
theorem akA:az bJ (akz N):=(akx N).put ((akx N).on aky) _ _ _ (funext λa=>by rw[P3];kernel_rfl)
def s72:bN:=⟨[.c (.int .i64),.agg (aZ ju)],[(false,[.bool])],0,[(0,12,4,.bool),(0,14,4,.bool)],[],[],[(0,2,[(.ret,tm [(4,.c (.bool))] [] [] 1 [] 0),(.normal,tm [(0,.c (.int .i64)),(3,.c (.ptr 0 3 0 0 0))] [] [(0,3,.box 0 (aZ ju))] 1 [] 1)])]⟩
def F72:Int×Jv->Option Bool|(d,b,e,f,g,h,c)=>((cond (b==1) (cond (c !=0) (some (Sum.inl false)) (some (Sum.inr (d,b,e,f,g,h,c)))) (cond (b==2) (some (Sum.inr (d,b,e,f,g,h,c))) (cond (b==3) ((cond (e==0) ((F47 N d).bind λi=>(cond (f==i) (cond (g==0) (cond (h==0) (some (c==0)) (some false)) (some false)) (some false))) (some false)).bind λj=>some (Sum.inl j)) (some (Sum.inl false))))).bind λl=>(match l with|.inl m=>some m|.inr a=>(((Vp N a.2.2.1).bind λn=>(cond n ((F47 N a.1).bind λo=>(cond (decide (a.2.2.2.1>=(aL (o+24)))) ((F47 N a.1).bind λp=>(cond (decide (a.2.2.2.1<=(aL (p+4096)))) (cond ((Int.tmod a.2.2.2.1 8)==0) ((P3 N a.2.2.2.2.1).bind λq=>(cond q ((P3 N a.2.2.2.2.2.1).bind λr=>some r) (some false))) (some false)) (some false))) (some false))) (some false))).bind λs=>some s)))
def G72:ah:=(akz N).put 72 s72 (F72 N)
theorem K72:az bJ (G72 N):=(akA N).put ((akA N).on s72) _ _ _ (funext λ⟨a,b,c,d,e,f,g⟩=>by rw[F72];kernel_rfl)
def s45:bN:=⟨[.c (.sl ju .bC)],[(false,[.int .i64])],0,[(0,1,11,.bool)],[],[],[]⟩
def aaP:ah:=(G72 N).on s45
def f45.bQ:bq:=tm [(0,.c (.sl ju .bC)),(3,.c (.int .i64))] [] [] 1 [] 0
def f45.bR:bn:=[(.ret,tm [(2,.c (.int .i64))] [] [] 1 [] 0),(.exit 0,tm [] [] [] 1 [] 0)]
def f45.aP:Nat->List dY×Int->Option (Int⊕Unit)|0,_=>none|k+1,(c,b)=>(cond (decide (b<(c.length:Int))) ((idx c b).bind λa=>((F72 N (b,a.1,a.2.1,a.2.2.1,a.2.2.2.1,a.2.2.2.2.1,a.2.2.2.2.2)).bind λd=>(cond (!d) (some (Sum.inl 8)) (f45.aP k (c,(av (b+1))))))) (some (Sum.inr ())))
theorem f45.cV:∀k,f45.aP N k=lp (aaP N) 0 6 (tq 45) 6 f45.bQ f45.bR k|0=>rfl|k+1=>funext λ⟨a,b⟩=>by rw[f45.aP,f45.cV k];kernel_rfl
def atm:ah:=(aaP N).aa N 0 6 f45.bQ f45.bR
def F45:List dY->Option Int|a=>((cond ((a.length:Int)==0) (some true) (some (decide ((a.length:Int)>16)))).bind λb=>(cond b (some 8) ((f45.aP N N (a,0)).bind λc=>(match c with|.inl d=>some d|.inr e=>some 0))))
def G45:ah:=(G72 N).put 45 s45 (F45 N)
theorem K45:az bJ (G45 N):=(K72 N).put (((K72 N).on s45).aa N 0 6 f45.bQ f45.bR) _ _ _ (funext λa=>by rw[F45,f45.cV N N];kernel_rfl)
def s73:bN:=sg [] [(true,(aZ aX))]
def F73(N:Nat):Unit->Option (Int×List Int)|()=>some (65536,[])
def G73:ah:=(G45 N).put 73 s73 (F73 N)
theorem K73:az bJ (G73 N):=(K45 N).put ((K45 N).on s73) _ _ _ (funext λ()=>by rw[F73];kernel_rfl)
def akD:bN:=⟨[.agg (cF aX),.c (.int .i64)],[(false,[.int .i64])],0,[(0,4,13,.bool)],[],[],[]⟩
def Vq:Int×List Int×Int->Option Int|(b,c,a)=>((F28 N (b,c)).bind λd=>(cond (!d) (some 8) ((cond (decide (a<0)) (some true) (some (decide (a>16384)))).bind λe=>(cond e (some 2) (some 0)))))
def aei:ah:=(G73 N).put 132 akD (Vq N)
theorem akE:az bJ (aei N):=(K73 N).put ((K73 N).on akD) _ _ _ (funext λ⟨a,b,c⟩=>by rw[Vq];kernel_rfl)
def aej:bN:=sg [.c (.int .i64)] [(false,[.int .i64])]
def Vr:ah:=(aei N).on aej
def f185.rj:bq:=tm [(0,.c (.int .i64)),(3,.c (.int .i64))] [] [] 1 [] 0
def f185.rq:bn:=[(.exit 0,tm [(3,.c (.int .i64))] [] [] 1 [] 0)]
def f185.gM(N:Nat):Nat->Int×Int->Option Int|0,_=>none|k+1,(b,a)=>(cond (decide ((av (8*a))<b)) (f185.gM N k (b,(av (a+1)))) (some a))
theorem f185.wV:∀k,f185.gM N k=lp (Vr N) 0 3 (tq 185) 3 f185.rj f185.rq k|0=>rfl|k+1=>funext λ⟨a,b⟩=>by rw[f185.gM,f185.wV k];kernel_rfl
def apF:ah:=(Vr N).aa N 0 3 f185.rj f185.rq
def P4:Int->Option Int|a=>((f185.gM N N (a,1)).bind λb=>some (av (8*b)))
def akF:ah:=(aei N).put 185 aej (P4 N)
theorem akG:az bJ (akF N):=(akE N).put (((akE N).on aej).aa N 0 3 f185.rj f185.rq) _ _ _ (funext λa=>by rw[P4,f185.wV N N];kernel_rfl)
def akH:bN:=sg [.agg (cF aX),.c (.int .i64),.c (.int .i64)] [(false,[.bool])]
def YA:Int×List Int×Int×Int->Option Bool|(e,a,b,c)=>((P4 N b).bind λd=>some (decide ((av ((a.length:Int)+d))<=c)))
def akI:ah:=(akF N).put 133 akH (YA N)
theorem akJ:az bJ (akI N):=(akG N).put ((akG N).on akH) _ _ _ (funext λ⟨a,b,c,d⟩=>by rw[YA];kernel_rfl)
def akK:bN:=⟨[.agg (cF aX)],[(true,(aZ aX))],2,[],[],[(0,5,(.int .u8))],[]⟩
def Vs(N:Nat):Int×List Int->Option (Int×List Int)|(b,a)=>(aF (room (0+a.length) 1) (some (b,([]++a))))
def aek:ah:=(akI N).put 186 akK (Vs N)
theorem akL:az bJ (aek N):=(akJ N).put ((akJ N).on akK) _ _ _ (funext λ⟨a,b⟩=>by rw[Vs];kernel_rfl)
def ael:bN:=⟨[.agg (cF aX),.c (.int .i64)],[(true,(aZ aX)),(false,[.int .u64])],2,[],[],[(0,18,(.int .u8))],[]⟩
def Vt:ah:=(aek N).on ael
def f134.eC:bq:=tm [(1,.c (.int .i64)),(2,.c (.ptr 0 2 0 0 0)),(4,.c (.ptr 0 4 1 0 0)),(6,.c (.ptr 0 6 2 0 0)),(7,.c (.int .i64))] [] [(0,2,.box 0 (cF aX)),(0,4,.box 1 [.int .u64,.nil true]),(0,6,.box 2 [.int .u64,.ref 0 9 3 (.int .u8)]),(0,9,.row 3 (.int .u8))] 1 [] 4
def f134.eD:bn:=[(.exit 0,tm [(2,.c (.ptr 0 2 0 0 0)),(4,.c (.ptr 0 4 1 0 0)),(6,.c (.ptr 0 6 2 0 0))] [] [(0,2,.box 0 (cF aX)),(0,4,.box 1 [.int .u64,.nil true]),(0,6,.box 2 [.int .u64,.ref 0 9 3 (.int .u8)]),(0,9,.row 3 (.int .u8))] 1 [] 4)]
def f134.bz:Nat->Int×Int×Int×List Int×Int×Int×List Int->Option ((Int×List Int×Int×Int×List Int))|0,_=>none|k+1,(b,c,d,e,f,g,a)=>((P4 N b).bind λh=>(cond (decide (c<h)) (aF (room (a.length+1) 1) (f134.bz k (b,(av (c+1)),d,e,f,g,(a++[0])))) (some (d,e,f,g,a))))
theorem f134.gL:∀k,f134.bz N k=lp (Vt N) 0 4 (tq 134) 4 f134.eC f134.eD k|0=>rfl|k+1=>funext λ⟨a,b,c,d,e,f,g⟩=>by rw[f134.bz,f134.gL k];kernel_rfl
def apG:ah:=(Vt N).aa N 0 4 f134.eC f134.eD
def Vu:Int×List Int×Int->Option (Int×List Int×Int)|(b,c,e)=>((Vs N (b,c)).bind λd=>((f134.bz N N (e,0,b,c,0,d.1,d.2)).bind λa=>some (a.2.2.2.1,a.2.2.2.2,(aL (65536+(aL (a.2.1.length:Int)))))))
def akM:ah:=(aek N).put 134 ael (Vu N)
theorem akN:az bJ (akM N):=(akL N).put (((akL N).on ael).aa N 0 4 f134.eC f134.eD) _ _ _ (funext λ⟨a,b,c⟩=>by rw[Vu,f134.gL N N];kernel_rfl)
def akO:bN:=⟨[.agg (cF aX),.c (.int .i64),.c (.int .i64)],[(true,(aZ aX)),(false,[.int .u64]),(false,[.int .i64])],2,[(0,4,24,.bool)],[],[],[]⟩
def YB:Int×List Int×Int×Int->Option (Int×List Int×Int×Int)|(a,b,c,d)=>((Vq N (a,b,d)).bind λf=>(cond (f !=0) ((Vq N (a,b,d)).bind λg=>some (0,[],0,g)) ((cond (decide (c<0)) (some true) (some (decide (c>4096)))).bind λh=>(cond h (some (0,[],0,2)) ((YA N (a,b,c,d)).bind λi=>(cond (!i) (some (0,[],0,18)) ((Vu N (a,b,c)).bind λe=>some (e.1,e.2.1,e.2.2,0))))))))
def aem:ah:=(akM N).put 102 akO (YB N)
theorem akP:az bJ (aem N):=(akN N).put ((akN N).on akO) _ _ _ (funext λ⟨a,b,c,d⟩=>by rw[YB];kernel_rfl)
def s74:bN:=sg [.agg (cF aX),.c (.sl (.int .u8) .bC),.c (.int .i64)] [(true,(aZ aX)),(false,[.int .u64]),(false,[.int .i64])]
def aaQ:ah:=(aem N).on s74
def f74.ig:bq:=tm [(1,.c (.sl (.int .u8) .bC)),(3,.c (.ptr 0 3 0 0 0)),(6,.c (.ptr 0 6 1 0 0)),(9,.c (.ptr 0 9 2 0 0)),(10,.c (.int .u64)),(12,.c (.int .i64))] [] [(0,3,.box 0 (cF aX)),(0,6,.box 1 [.int .u64,.nil true]),(0,9,.box 2 [.int .u64,.ref 0 18 3 (.int .u8)]),(0,18,.row 3 (.int .u8))] 1 [] 4
def f74.ij:bn:=[(.exit 0,tm [(6,.c (.ptr 0 6 0 0 0)),(9,.c (.ptr 0 9 1 0 0)),(10,.c (.int .u64))] [] [(0,6,.box 0 [.int .u64,.nil true]),(0,9,.box 1 [.int .u64,.ref 0 18 2 (.int .u8)]),(0,18,.row 2 (.int .u8))] 1 [] 3)]
def f74.cI(N:Nat):Nat->List Int×Int×Int×Int×List Int×Int×Int×List Int->Option ((Int×Int×Int×List Int))|0,_=>none|k+1,(d,e,a,h,b,f,g,c)=>(cond (decide (a<(d.length:Int))) ((idx d a).bind λi=>(aF (ga (av ((b.length:Int)+a)) c.length) ((c[(Int.toNat (av ((b.length:Int)+a)))]?).bind λj=>f74.cI N k (d,e,(av (a+1)),h,b,f,g,(c.set (Int.toNat (av ((b.length:Int)+a))) i))))) (some (e,f,g,c)))
theorem f74.kW:∀k,f74.cI N k=lp (aaQ N) 0 7 (tq 74) 7 f74.ig f74.ij k|0=>rfl|k+1=>funext λ⟨a,b,c,d,e,f,g,h⟩=>by rw[f74.cI,f74.kW k];kernel_rfl
def att:ah:=(aaQ N).aa N 0 7 f74.ig f74.ij
def F74:Int×List Int×List Int×Int->Option (Int×List Int×Int×Int)|(c,d,e,f)=>((YB N (c,d,(e.length:Int),f)).bind λa=>(cond (a.2.2.2!=0) (some (0,[],0,a.2.2.2)) ((f74.cI N N (e,a.2.2.1,0,c,d,0,a.1,a.2.1)).bind λb=>some (b.2.2.1,b.2.2.2,b.1,0))))
def G74:ah:=(aem N).put 74 s74 (F74 N)
theorem K74:az bJ (G74 N):=(akP N).put (((akP N).on s74).aa N 0 7 f74.ig f74.ij) _ _ _ (funext λ⟨a,b,c,d⟩=>by rw[F74,f74.kW N N];kernel_rfl)
def s46:bN:=⟨[.c (.sl .str .bC),.c (.int .i64)],[(true,(aZ aX)),(false,[.sl (.int .u64) .d]),(false,[.int .i64])],0,[(0,1,19,.bool)],[],[(0,64,(.int .u64))],[]⟩
def aaR:ah:=(G74 N).on s46
def f46.CC:bq:=tm [(0,.c (.sl .str .bC)),(1,.c (.int .i64)),(4,.c (.ptr 0 4 0 0 0)),(7,.c (.int .i64))] [] [(0,4,.box 0 [.int .u64,.nil true])] 1 [] 1
def f46.CD:bn:=[(.ret,tm [(4,.c (.ptr 0 4 0 0 0)),(5,.c (.nil true)),(6,.c (.int .i64))] [] [(0,4,.box 0 [.int .u64,.nil true])] 1 [] 1),(.exit 0,tm [(0,.c (.sl .str .bC)),(1,.c (.int .i64)),(4,.c (.ptr 0 4 0 0 0))] [] [(0,4,.box 0 [.int .u64,.nil true])] 1 [] 1)]
def f46.nV(N:Nat):Nat->List (List UInt8)×Int×Int×Int->Option ((Int×Int)⊕(List (List UInt8)×Int×Int))|0,_=>none|k+1,(a,c,b,d)=>(cond (decide (b<(a.length:Int))) ((idx a b).bind λe=>(cond (decide ((e.length:Int)>64)) (some (Sum.inl (2,0))) (f46.nV N k (a,c,(av (b+1)),d)))) (some (Sum.inr (a,c,d))))
theorem f46.JD:∀k,f46.nV N k=lp (aaR N) 0 9 (tq 46) 9 f46.CC f46.CD k|0=>rfl|k+1=>funext λ⟨a,b,c,d⟩=>by rw[f46.nV,f46.JD k];kernel_rfl
def aaS:ah:=(aaR N).aa N 0 9 f46.CC f46.CD
def f46.CU:bq:=tm [(0,.c (.sl .str .bC)),(1,.c (.int .i64)),(4,.c (.ptr 0 4 0 0 0)),(8,.c (.ptr 0 8 1 0 0)),(9,.c (.sl (.int .u64) (.app 2))),(10,.c (.int .i64))] [] [(0,4,.box 0 [.int .u64,.nil true]),(0,8,.box 1 (aZ aX))] 1 [2] 3
def f46.CV:bn:=[(.ret,tm [(4,.c (.ptr 0 4 0 0 0)),(5,.c (.nil true)),(6,.c (.int .i64))] [] [(0,4,.box 0 [.int .u64,.nil true])] 1 [] 1),(.exit 2,tm [(4,.c (.ptr 0 4 0 0 0)),(8,.c (.ptr 0 8 1 0 0)),(9,.c (.sl (.int .u64) (.app 2)))] [] [(0,4,.box 0 [.int .u64,.nil true]),(0,8,.box 1 (aZ aX))] 1 [2] 3)]
def f46.lJ:Nat->List (List UInt8)×Int×List Int×Int×Int×Int×List Int->Option ((Int×Int)⊕(List Int×Int×Int×List Int))|0,_=>none|k+1,(b,e,c,d,f,g,h)=>(cond (decide (d<(b.length:Int))) ((idx b d).bind λi=>((F74 N (g,h,(bK i),e)).bind λa=>(cond (a.2.2.2!=0) (some (Sum.inl (a.2.2.2,0))) (aF (room (c.length+1) 8) (f46.lJ k (b,e,(c++[a.2.2.1]),(av (d+1)),f,a.1,a.2.1)))))) (some (Sum.inr (c,f,g,h))))
theorem f46.JN:∀k,f46.lJ N k=lp (aaS N) 0 21 (tq 46) 21 f46.CU f46.CV k|0=>rfl|k+1=>funext λ⟨a,b,c,d,e,f,g⟩=>by rw[f46.lJ,f46.JN k];kernel_rfl
def atv:ah:=(aaS N).aa N 0 21 f46.CU f46.CV
def F46:List (List UInt8)×Int->Option (Int×List Int×List Int×Int)|(d,a)=>((cond (decide (a<0)) (some true) (some (decide (a>16384)))).bind λh=>(cond h (some (0,[],[],2)) (cond (decide ((d.length:Int)>32)) (some (0,[],[],4)) ((f46.nV N N (d,a,0,0)).bind λi=>(match i with|.inl e=>some (e.2,[],[],e.1)|.inr b=>((F73 N ()).bind λf=>((f46.lJ N N (b.1,b.2.1,[],0,b.2.2,f.1,f.2)).bind λj=>(match j with|.inl g=>some (g.2,[],[],g.1)|.inr c=>some (c.2.2.1,c.2.2.2,c.1,0)))))))))
def G46:ah:=(G74 N).put 46 s46 (F46 N)
theorem K46:az bJ (G46 N):=(K74 N).put ((((K74 N).on s46).aa N 0 9 f46.CC f46.CD).aa N 0 21 f46.CU f46.CV) _ _ _ (funext λ⟨a,b⟩=>by rw[F46,f46.JD N N,f46.JN N N];kernel_rfl)
def s48:bN:=⟨[.agg (cF aX)],[(false,[.bool])],0,[(0,9,2,.bool)],[],[],[]⟩
def aaT:ah:=(G46 N).on s48
def f48.rj:bq:=tm [(1,.c (.ptr 0 1 0 0 0)),(3,.c (.int .u64))] [] [(0,1,.box 0 (cF aX))] 1 [] 1
def f48.rq:bn:=[(.ret,tm [(2,.c (.bool))] [] [] 1 [] 0),(.exit 0,tm [] [] [] 1 [] 0)]
def f48.gM(N:Nat):Nat->Int×Int×List Int->Option (Bool⊕Unit)|0,_=>none|k+1,(a,c,b)=>(cond (decide (a<=16)) (cond (c==(aL (16777216*a))) ((cond ((Int.tmod (b.length:Int) 8)==0) (some (decide ((b.length:Int)<=4096))) (some false)).bind λd=>some (Sum.inl d)) (f48.gM N k ((aL (a+1)),c,b))) (some (Sum.inr ())))
theorem f48.wV:∀k,f48.gM N k=lp (aaT N) 0 3 (tq 48) 3 f48.rj f48.rq k|0=>rfl|k+1=>funext λ⟨a,b,c⟩=>by rw[f48.gM,f48.wV k];kernel_rfl
def atx:ah:=(aaT N).aa N 0 3 f48.rj f48.rq
def F48:Int×List Int->Option Bool|(a,b)=>((f48.gM N N (1,a,b)).bind λc=>(match c with|.inl d=>some d|.inr e=>some false))
def G48:ah:=(G46 N).put 48 s48 (F48 N)
theorem K48:az bJ (G48 N):=(K46 N).put (((K46 N).on s48).aa N 0 3 f48.rj f48.rq) _ _ _ (funext λ⟨a,b⟩=>by rw[F48,f48.wV N N];kernel_rfl)
def s22:bN:=⟨[.agg (cF aY),.c (.int .u64)],[(false,[.int .i64]),(false,[.int .i64]),(false,[.bool])],0,[(0,1,20,.bool)],[],[],[]⟩
def F22(N:Nat):bP Int->Option (Int×Int×Bool)|(e,f,b,a)=>((cond (decide (a<256)) (some true) (some (decide (a>=(aL (av (256*(av ((b.length:Int)+1))))))))).bind λc=>(cond c (some (0,0,false)) ((idx b (av ((av (aL (Int.tdiv a 256)))-1))).bind λd=>(cond (decide ((av (Int.tmod a 256))>=(d.2.2.2.2.1.length:Int))) (some (0,0,false)) (some ((av ((av (aL (Int.tdiv a 256)))-1)),(av (Int.tmod a 256)),true))))))
def G22:ah:=(G48 N).put 22 s22 (F22 N)
theorem K22:az bJ (G22 N):=(K48 N).put ((K48 N).on s22) _ _ _ (funext λ⟨a,b,c,d⟩=>by rw[F22];kernel_rfl)
def s75:bN:=sg [.c (.sl bI .bC),.c (.sl cS .bC)] [(false,[.sl (.int .i64) .d]),(false,[.int .i64]),(false,[.int .i64])]
def F75:List aA×List Field->Option (List Int×Int×Int)|(c,d)=>((L7 N c).bind λb=>((L6 N (b.1,b.2,d)).bind λa=>some (a.1,a.2.1,a.2.2)))
def G75:ah:=(G22 N).put 75 s75 (F75 N)
theorem K75:az bJ (G75 N):=(K22 N).put ((K22 N).on s75) _ _ _ (funext λ⟨a,b⟩=>by rw[F75];kernel_rfl)
def s49:bN:=⟨[.agg (cF aY),.c (.int .i64)],[(false,[.sl (.int .i64) .d]),(false,[.int .i64])],0,[],[],[(0,26,(.int .i64))],[]⟩
def aaU:ah:=(G75 N).on s49
def f49.jB:bq:=tm [(6,.c (.sl (.int .i64) .d)),(7,.c (.int .i64)),(9,.c (.ref 0 26 0 (.int .i64))),(10,.c (.int .i64))] [] [(0,26,.row 0 (.int .i64))] 1 [] 1
def f49.jC:bn:=[(.exit 0,tm [(7,.c (.int .i64)),(9,.c (.ref 0 26 0 (.int .i64)))] [] [(0,26,.row 0 (.int .i64))] 1 [] 1)]
def f49.cW(N:Nat):Nat->List Int×Int×Int×List Int->Option ((Int×List Int))|0,_=>none|k+1,(c,d,a,b)=>(cond (decide (a<(c.length:Int))) ((idx c a).bind λe=>(aF (ga a b.length) ((b[a.toNat]?).bind λf=>f49.cW N k (c,d,(av (a+1)),(b.set a.toNat (av (24+e))))))) (some (d,b)))
theorem f49.nh:∀k,f49.cW N k=lp (aaU N) 0 5 (tq 49) 5 f49.jB f49.jC k|0=>rfl|k+1=>funext λ⟨a,b,c,d⟩=>by rw[f49.cW,f49.nh k];kernel_rfl
def atF:ah:=(aaU N).aa N 0 5 f49.jB f49.jC
def F49:bP Int->Option (List Int×Int)|(c,h,d,e)=>((idx d e).bind λf=>((F75 N (c,f.2.2.2.1)).bind λa=>(aF (decide (0<=(a.1.length:Int))) (aF (decide (0<=(a.1.length:Int))) (aF (decide ((Int.toNat (a.1.length:Int))<=(Int.toNat (a.1.length:Int)))&&room (Int.toNat (a.1.length:Int)) 8) ((f49.cW N N (a.1,a.2.1,0,(List.replicate (Int.toNat (a.1.length:Int)) (0:Int)))).bind λb=>((F76 N b.1).bind λg=>some (b.2,(av (24+g))))))))))
def G49:ah:=(G75 N).put 49 s49 (F49 N)
theorem K49:az bJ (G49 N):=(K75 N).put (((K75 N).on s49).aa N 0 5 f49.jB f49.jC) _ _ _ (funext λ⟨a,b,c,d⟩=>by rw[F49,f49.nh N N];kernel_rfl)
def s50:bN:=⟨[.c (.sl ia .bC),.c (.int .i64)],[(false,[.int .u64])],0,[(0,9,5,(.int .u64))],[],[],[]⟩
def aaV:ah:=(G49 N).on s50
def f50.eC:bq:=tm [(0,.c (.sl ia .bC)),(1,.c (.int .i64)),(5,.c (.int .u64)),(6,.c (.int .i64))] [] [] 1 [] 0
def f50.eD:bn:=[(.exit 0,tm [(5,.c (.int .u64))] [] [] 1 [] 0)]
def f50.bz(N:Nat):Nat->List eN×Int×Int×Int->Option Int|0,_=>none|k+1,(a,c,d,b)=>(cond (decide (b<(a.length:Int))) ((idx a b).bind λe=>((cond (decide (e.1<=c)) ((idx a b).bind λf=>some f.2) (some d)).bind λg=>f50.bz N k (a,c,g,(av (b+1))))) (some d))
theorem f50.gL:∀k,f50.bz N k=lp (aaV N) 0 4 (tq 50) 4 f50.eC f50.eD k|0=>rfl|k+1=>funext λ⟨a,b,c,d⟩=>by rw[f50.bz,f50.gL k];kernel_rfl
def atH:ah:=(aaV N).aa N 0 4 f50.eC f50.eD
def F50:List eN×Int->Option Int|(a,b)=>((f50.bz N N (a,b,0,0)).bind λc=>some c)
def G50:ah:=(G49 N).put 50 s50 (F50 N)
theorem K50:az bJ (G50 N):=(K49 N).put (((K49 N).on s50).aa N 0 4 f50.eC f50.eD) _ _ _ (funext λ⟨a,b⟩=>by rw[F50,f50.gL N N];kernel_rfl)
def s23:bN:=sg [.agg (cF aY),.c (.int .i64),.c (.int .i64)] [(false,[.int .i64])]
def F23:bP (Int×Int)->Option Int|(d,e,a,b,f)=>((F49 N (d,e,a,b)).bind λg=>((idx a b).bind λh=>((F50 N (h.2.2.2.2.2.1,f)).bind λc=>(cond (decide (c>4096)) (some 4097) (some (av (g.2+(av c))))))))
def G23:ah:=(G50 N).put 23 s23 (F23 N)
theorem K23:az bJ (G23 N):=(K50 N).put ((K50 N).on s23) _ _ _ (funext λ⟨a,b,c,d,e⟩=>by rw[F23];kernel_rfl)
def s51:bN:=⟨[.agg (cF aX),.c (.int .u64),.c (.int .i64)],[(false,[.bool])],0,[(0,1,12,.bool),(0,4,6,.bool)],[],[],[]⟩
def F51(N:Nat):Int×List Int×Int×Int->Option Bool|(b,d,a,c)=>((cond (decide (c>20000)) (some true) (some (decide (a>2199023255552)))).bind λe=>(cond e (some false) ((cond (decide (a>=b)) (some (decide ((aL (a+(aL c)))<=(aL (b+(aL (d.length:Int))))))) (some false)).bind λf=>some f)))
def G51:ah:=(G23 N).put 51 s51 (F51 N)
theorem K51:az bJ (G51 N):=(K23 N).put ((K23 N).on s51) _ _ _ (funext λ⟨a,b,c,d⟩=>by rw[F51];kernel_rfl)
def s52:bN:=sg [.agg (cF aX),.c (.int .u64),.c (.int .i64)] [(false,[.int .u64])]
def aaW:ah:=(G51 N).on s52
def f52.eC:bq:=tm [(1,.c (.int .u64)),(2,.c (.int .i64)),(3,.c (.ptr 0 3 0 0 0)),(7,.c (.int .u64)),(8,.c (.int .u64)),(9,.c (.int .i64))] [] [(0,3,.box 0 (cF aX))] 1 [] 1
def f52.eD:bn:=[(.exit 0,tm [(7,.c (.int .u64))] [] [] 1 [] 0)]
def f52.bz(N:Nat):Nat->Int×Int×Int×Int×Int×Int×List Int->Option Int|0,_=>none|k+1,(b,c,d,e,a,f,g)=>(cond (decide (a<c)) ((idx g (aL ((aL (b-f))+(aL a)))).bind λh=>f52.bz N k (b,c,(aL (d+(aL (e*(aL h))))),(aL (e*256)),(av (a+1)),f,g)) (some d))
theorem f52.gL:∀k,f52.bz N k=lp (aaW N) 0 4 (tq 52) 4 f52.eC f52.eD k|0=>rfl|k+1=>funext λ⟨a,b,c,d,e,f,g⟩=>by rw[f52.bz,f52.gL k];kernel_rfl
def atP:ah:=(aaW N).aa N 0 4 f52.eC f52.eD
def QW:Int×List Int×Int×Int->Option Int|(a,b,c,d)=>((f52.bz N N (c,d,0,1,0,a,b)).bind λe=>some e)
def G52:ah:=(G51 N).put 52 s52 (QW N)
theorem K52:az bJ (G52 N):=(K51 N).put (((K51 N).on s52).aa N 0 4 f52.eC f52.eD) _ _ _ (funext λ⟨a,b,c,d⟩=>by rw[QW,f52.gL N N];kernel_rfl)
def s53:bN:=⟨[.c (.int .u64),.c (.int .u64)],[(false,[.bool])],0,[(0,1,4,.bool)],[],[],[]⟩
def F53(N:Nat):Int×Int->Option Bool|(a,b)=>((cond (a==0) (cond (b==0) (some true) (cond (a==2) (some (decide (b>0))) (cond (a==3) (some (decide (b>0))) (some false)))) (cond (a==1) (cond (b==0) (some true) (cond (a==2) (some (decide (b>0))) (cond (a==3) (some (decide (b>0))) (some false)))) (cond (a==2) (some (decide (b>0))) (cond (a==3) (some (decide (b>0))) (some false))))).bind λc=>some c)
def G53:ah:=(G52 N).put 53 s53 (F53 N)
theorem K53:az bJ (G53 N):=(K52 N).put ((K52 N).on s53) _ _ _ (funext λ⟨a,b⟩=>by rw[F53];kernel_rfl)
def s24:bN:=⟨[.agg (cF aX),.c (.int .u64)],[(false,[.int .u64]),(false,[.int .u64]),(false,[.int .u64]),(false,[.int .i64])],0,[(0,4,22,.bool)],[],[],[]⟩
def F24:Int×List Int×Int->Option (Int×Int×Int×Int)|(a,b,c)=>((F48 N (a,b)).bind λf=>(cond (!f) (some (0,0,0,8)) ((cond ((Int.tmod c 8)!=0) (some true) ((F51 N (a,b,c,24)).bind λg=>some (!g))).bind λh=>(cond h (some (0,0,0,16)) ((QW N (a,b,c,8)).bind λi=>((QW N (a,b,(aL (c+8)),8)).bind λd=>((QW N (a,b,(aL (c+16)),8)).bind λe=>((F53 N (d,e)).bind λj=>(cond (!j) (some (0,0,0,12)) (some (i,d,e,0)))))))))))
def G24:ah:=(G53 N).put 24 s24 (F24 N)
theorem K24:az bJ (G24 N):=(K53 N).put ((K53 N).on s24) _ _ _ (funext λ⟨a,b,c⟩=>by rw[F24];kernel_rfl)
def s13:bN:=⟨[.agg (cF aX),.agg (cF aY),.c (.int .u64)],[(false,[.sl uH .d]),(false,[.int .i64])],0,[(0,11,49,.bool),(0,16,95,.bool),(0,25,10,(.int .i64))],[],[(0,105,uH)],[]⟩
def aaX:ah:=(G24 N).on s13
def f13.eC:bq:=tm [(2,.c (.int .u64)),(3,.c (.ptr 0 3 0 0 0)),(4,.c (.ptr 0 4 1 0 0)),(8,.c (.sl uH (.app 2))),(9,.c (.int .u64)),(10,.c (.int .i64))] [] [(0,3,.box 0 (cF aX)),(0,4,.box 1 (cF aY))] 1 [2] 3
def f13.eD:bn:=[(.ret,tm [(6,.c (.sl uH (.app 0))),(7,.c (.int .i64))] [] [] 1 [0] 1)]
def f13.bz:Nat->Int×List Ju×Int×Int×Int×List Int×dc->Option ((List Ju×Int))|0,_=>none|k+1,(m,f,c,j,e,l,g,h,i)=>((F22 N (g,h,i,m)).bind λd=>(cond (!d.2.2) (some ([],6)) ((F23 N (g,h,i,d.1,d.2.1)).bind λb=>((cond (decide ((aL b)>4096)) (some true) (some (decide ((aL b)>(aL (c-e)))))).bind λn=>(cond n (some ([],16)) ((F24 N (e,l,(aL (c-(aL b))))).bind λa=>((cond (a.2.2.2!=0) (some true) (cond (a.1==0) (cond ((aL (c-(aL b)))!=e) (some true) (cond (a.1!=0) (cond ((aL (c-(aL b)))==e) (some true) (cond (a.2.1==0) (cond (a.1!=0) (some ((Int.tmod a.1 256)==0)) (some false)) (some false))) (cond (a.2.1==0) (cond (a.1!=0) (some ((Int.tmod a.1 256)==0)) (some false)) (some false)))) (cond (a.1!=0) (cond ((aL (c-(aL b)))==e) (some true) (cond (a.2.1==0) (cond (a.1!=0) (some ((Int.tmod a.1 256)==0)) (some false)) (some false))) (cond (a.2.1==0) (cond (a.1!=0) (some ((Int.tmod a.1 256)==0)) (some false)) (some false))))).bind λo=>(cond o (some ([],12)) (aF (room (f.length+1) 40) (cond (a.1==0) (some ((f++[((aL (c-(aL b))),d.1,(av (d.2.1-j)),a.2.1,a.2.2.1)]),0)) ((cond (a.2.1==0) (some 1) (some 0)).bind λp=>f13.bz k (a.1,(f++[((aL (c-(aL b))),d.1,(av (d.2.1-j)),a.2.1,a.2.2.1)]),(aL (c-(aL b))),p,e,l,g,h,i))))))))))))
theorem f13.gL:∀k,f13.bz N k=lp (aaX N) 0 4 (tq 13) 4 f13.eC f13.eD k|0=>rfl|k+1=>funext λ⟨a,b,c,d,e,f,g,h,i⟩=>by rw[f13.bz,f13.gL k];kernel_rfl
def atY:ah:=(aaX N).aa N 0 4 f13.eC f13.eD
def QX:Int×List Int×bP Int->Option (List Ju×Int)|(a,b,d,e,f,g)=>((f13.bz N N (g,[],(aL (a+(aL (b.length:Int)))),0,a,b,d,e,f)).bind λc=>some (c.1,c.2))
def G13:ah:=(G24 N).put 13 s13 (QX N)
theorem K13:az bJ (G13 N):=(K24 N).put (((K24 N).on s13).aa N 0 4 f13.eC f13.eD) _ _ _ (funext λ⟨a,b,c,d,e,f⟩=>by rw[QX,f13.gL N N];kernel_rfl)
def s21:bN:=⟨[.agg (cF eV)],[(false,[.int .i64])],0,[(0,1,33,.bool),(0,4,71,.bool),(0,18,156,.bool)],[],[],[]⟩
def aaY:ah:=(G13 N).on s21
def f21.tD:bq:=tm [(1,.c (.ptr 0 1 0 0 0)),(6,.c (.int .i64))] [] [(0,1,.box 0 (cF eV))] 1 [] 1
def f21.tE:bn:=[(.ret,tm [(2,.c (.int .i64))] [] [] 1 [] 0),(.exit 0,tm [] [] [] 1 [] 0)]
def f21.gw:Nat->Int×mZ->Option (Int⊕Unit)|0,_=>none|k+1,(b,d,e,f,j,g,l,m,n,o,c,h,p)=>(cond (decide (b<(c.length:Int))) ((idx c b).bind λa=>((idx h b).bind λi=>(((F47 N b).bind λq=>(cond (a.1!=q) (some true) ((F48 N (a.1,a.2)).bind λr=>(cond (!r) (some true) (cond ((aL (a.1+(aL (a.2.length:Int))))!=i.2.2.1) (some true) (some (decide ((a.2.length:Int)>g)))))))).bind λs=>(cond s (some (Sum.inl 8)) (cond (i.1==3) (f21.gw k ((av (b+1)),d,e,f,j,g,l,m,n,o,c,h,p)) ((QX N (a.1,a.2,d,e,f,i.2.1)).bind λt=>(cond (t.2!=0) (some (Sum.inl 8)) (f21.gw k ((av (b+1)),d,e,f,j,g,l,m,n,o,c,h,p))))))))) (some (Sum.inr ())))
theorem f21.zX:∀k,f21.gw N k=lp (aaY N) 0 13 (tq 21) 13 f21.tD f21.tE k|0=>rfl|k+1=>funext λ⟨a,b,c,d,e,f,g,h,i,j,l,m,n⟩=>by rw[f21.gw,f21.zX k];kernel_rfl
def at0:ah:=(aaY N).aa N 0 13 f21.tD f21.tE
def F21:mZ->Option Int|(i,e,j,f,l,c,g,m,a,n,d,h)=>(((F43 N (i,e,j)).bind λo=>(cond (o !=0) (some true) ((F44 N (f,l,c,g)).bind λp=>(cond (!p) (some true) (cond (decide (h<0)) (some true) (some (decide (h>f)))))))).bind λq=>(cond q (some 8) (((F28 N (m,a)).bind λr=>(cond (!r) (some true) (cond (decide ((a.length:Int)>c)) (some true) ((F45 N d).bind λs=>(cond (s !=0) (some true) (cond (decide ((d.length:Int)>g)) (some true) (some ((n.length:Int)!=(d.length:Int))))))))).bind λt=>(cond t (some 8) ((F46 N (e,c)).bind λb=>(cond (b.2.2.2!=0) (some 8) (cond (decide ((b.2.1.length:Int)>(a.length:Int))) (some 8) (aF (decide (0<=(b.2.1.length:Int))) (aF (decide ((Int.toNat (b.2.1.length:Int))<=a.length)) (cond (!((b.2.1.map λ(n:Int)=>UInt8.ofNat n.toNat)==((a.take (Int.toNat (b.2.1.length:Int))).map λ(n:Int)=>UInt8.ofNat n.toNat))) (some 8) ((f21.gw N N (0,i,e,j,f,l,c,g,m,a,n,d,h)).bind λu=>(match u with|.inl v=>some v|.inr w=>some 0))))))))))))
def G21:ah:=(G13 N).put 21 s21 (F21 N)
theorem K21:az bJ (G21 N):=(K13 N).put (((K13 N).on s21).aa N 0 13 f21.tD f21.tE) _ _ _ (funext λ⟨a,b,c,d,e,f,g,h,i,j,l,m⟩=>by rw[F21,f21.zX N N];kernel_rfl)
def s12:bN:=⟨[.agg (cF eV),.c (.int .i64)],[(false,[.int .i64])],0,[(0,4,27,.bool)],[],[],[]⟩
def YC:oC Int->Option Int|(c,d,e,f,g,h,i,j,l,m,a,n,b)=>((F21 N (c,d,e,f,g,h,i,j,l,m,a,n)).bind λo=>(cond (o !=0) ((F21 N (c,d,e,f,g,h,i,j,l,m,a,n)).bind λp=>some p) ((cond (decide (b<0)) (some true) (cond (decide (b>=(a.length:Int))) (some true) ((idx a b).bind λq=>some (q.1==3)))).bind λr=>(cond r (some 2) (some 0)))))
def G12:ah:=(G21 N).put 12 s12 (YC N)
theorem K12:az bJ (G12 N):=(K21 N).put ((K21 N).on s12) _ _ _ (funext λ⟨a,b,c,d,e,f,g,h,i,j,l,m,n⟩=>by rw[YC];kernel_rfl)
def s6:bN:=sg [.agg (cF eV),.c (.int .i64)] [(true,(aZ uH)),(false,[.int .i64])]
def F6:oC Int->Option (ZZ Int)|(c,d,e,h,i,j,l,m,n,f,g,o,b)=>((YC N (c,d,e,h,i,j,l,m,n,f,g,o,b)).bind λq=>(cond (q !=0) ((YC N (c,d,e,h,i,j,l,m,n,f,g,o,b)).bind λr=>some (0,0,0,0,0,r)) ((idx f b).bind λp=>((idx g b).bind λs=>((QX N (p.1,p.2,c,d,e,s.2.1)).bind λt=>((idx t.1 0).bind λa=>some (a.1,a.2.1,a.2.2.1,a.2.2.2.1,a.2.2.2.2,0)))))))
def G6:ah:=(G12 N).put 6 s6 (F6 N)
theorem K6:az bJ (G6 N):=(K12 N).put ((K12 N).on s6) _ _ _ (funext λ⟨a,b,c,d,e,f,g,h,i,j,l,m,n⟩=>by rw[F6];kernel_rfl)
def s26:bN:=⟨[.agg (cF aX),.c (.int .u64)],[(true,(aZ gE)),(false,[.int .i64])],0,[(0,6,33,.bool),(0,19,68,.bool)],[(0,12),(0,100012)],[],[]⟩
def F26:Int×List Int×Int->Option (Cu Int)|(a,b,c)=>((Yz N (a,b,0)).bind λe=>(cond (e.2!=0) (some (0,0,0,false,0,e.2)) ((F55 N (a,b,c,40)).bind λh=>((cond (!h.1) (some true) (some ((Int.tmod c 8)!=0))).bind λi=>(cond i (some (0,0,0,false,0,16)) ((QU N (a,b,(aL (c+0)),8)).bind λj=>((QU N (a,b,(aL (c+8)),8)).bind λl=>((QU N (a,b,(aL (c+16)),8)).bind λf=>((QU N (a,b,(aL (c+24)),8)).bind λd=>((QU N (a,b,(aL (c+32)),8)).bind λg=>((cond (decide (f.1>=32)) (some true) (cond (decide (d.1>1)) (some true) (cond (d.1==0) (some (g.1!=0)) (some false)))).bind λm=>(cond m (some (0,0,0,false,0,12)) (some (j.1,l.1,(av f.1),(d.1==1),g.1,0))))))))))))))
def G26:ah:=(G6 N).put 26 s26 (F26 N)
theorem K26:az bJ (G26 N):=(K6 N).put ((K6 N).on s26) _ _ _ (funext λ⟨a,b,c⟩=>by rw[F26];kernel_rfl)
def s14:bN:=⟨[.agg (cF aX),.c (.int .u64)],[(false,[.sl gE .d]),(false,[.int .i64])],0,[],[],[(0,36,gE)],[]⟩
def aaZ:ah:=(G26 N).on s14
def f14.ig:bq:=tm [(1,.c (.int .u64)),(2,.c (.ptr 0 2 0 0 0)),(8,.c (.sl gE (.app 1)))] [] [(0,2,.box 0 (cF aX))] 1 [1] 2
def f14.ij:bn:=[(.ret,tm [(4,.c (.nil true)),(5,.c (.int .i64))] [] [] 1 [] 0),(.exit 0,tm [(8,.c (.sl gE (.app 0)))] [] [] 1 [0] 1)]
def f14.cI:Nat->Int×List lY×Int×List Int->Option (Int⊕(List lY))|0,_=>none|k+1,(b,c,d,e)=>(cond (b !=0) ((F26 N (d,e,b)).bind λa=>(cond (a.2.2.2.2.2!=0) (some (Sum.inl a.2.2.2.2.2)) (cond (decide (a.1>=b)) (some (Sum.inl 32)) (aF (room (c.length+1) 40) (f14.cI k (a.1,(c++[(a.1,a.2.1,a.2.2.1,a.2.2.2.1,a.2.2.2.2.1)]),d,e)))))) (some (Sum.inr c)))
theorem f14.kW:∀k,f14.cI N k=lp (aaZ N) 0 7 (tq 14) 7 f14.ig f14.ij k|0=>rfl|k+1=>funext λ⟨a,b,c,d⟩=>by rw[f14.cI,f14.kW k];kernel_rfl
def at8:ah:=(aaZ N).aa N 0 7 f14.ig f14.ij
def F14:Int×List Int×Int->Option (List lY×Int)|(a,b,d)=>((Yz N (a,b,0)).bind λc=>(cond (c.2!=0) (some ([],c.2)) ((f14.cI N N (d,[],a,b)).bind λe=>(match e with|.inl f=>some ([],f)|.inr g=>some (g,0)))))
def G14:ah:=(G26 N).put 14 s14 (F14 N)
theorem K14:az bJ (G14 N):=(K26 N).put (((K26 N).on s14).aa N 0 7 f14.ig f14.ij) _ _ _ (funext λ⟨a,b,c⟩=>by rw[F14,f14.kW N N];kernel_rfl)
def s7:bN:=sg [.agg (cF eV),.c (.int .i64)] [(false,[.int .i64]),(false,[.int .i64])]
def F7:oC Int->Option (Int×Int)|(g,h,i,j,l,m,n,a,b,o,c,p,d)=>((F10 N (g,h,i,j,l,m,n,a,b,o,c,p,d)).bind λe=>(cond (e !=0) (some (0,e)) ((idx c d).bind λq=>((F14 N (a,b,q.2.2.2.1)).bind λf=>(cond (f.2!=0) (some (0,36)) ((F15 N (a,b)).bind λr=>some ((f.1.length:Int),r)))))))
def G7:ah:=(G14 N).put 7 s7 (F7 N)
theorem K7:az bJ (G7 N):=(K14 N).put ((K14 N).on s7) _ _ _ (funext λ⟨a,b,c,d,e,f,g,h,i,j,l,m,n⟩=>by rw[F7];kernel_rfl)
def s29:bN:=⟨[.agg (cF aX),.c (.int .u64)],[(true,(aZ gE)),(false,[.int .i64])],0,[(0,4,21,.bool),(0,8,52,.bool)],[],[],[]⟩
def F29:Int×List Int×Int->Option (Cu Int)|(a,b,c)=>((F28 N (a,b)).bind λg=>(cond (!g) (some (0,0,0,false,0,8)) ((cond ((Int.tmod c 8)!=0) (some true) ((F51 N (a,b,c,40)).bind λh=>some (!h))).bind λi=>(cond i (some (0,0,0,false,0,16)) ((QW N (a,b,(aL (c+16)),8)).bind λf=>((QW N (a,b,(aL (c+24)),8)).bind λd=>((QW N (a,b,(aL (c+32)),8)).bind λe=>((cond (decide (f>=32)) (some true) (cond (d !=0) (cond (d !=1) (some true) (cond (d==0) (some (decide (e>0))) (some false))) (cond (d==0) (some (decide (e>0))) (some false)))).bind λj=>(cond j (some (0,0,0,false,0,12)) ((QW N (a,b,c,8)).bind λl=>((QW N (a,b,(aL (c+8)),8)).bind λm=>some (l,m,(av f),(d==1),e,0))))))))))))
def G29:ah:=(G7 N).put 29 s29 (F29 N)
theorem K29:az bJ (G29 N):=(K7 N).put ((K7 N).on s29) _ _ _ (funext λ⟨a,b,c⟩=>by rw[F29];kernel_rfl)
def s16:bN:=⟨[.agg (cF aX),.c (.int .u64)],[(false,[.sl gE .d]),(false,[.int .i64])],0,[],[],[(0,31,gE)],[]⟩
def aa0:ah:=(G29 N).on s16
def f16.ig:bq:=tm [(2,.c (.ptr 0 2 0 0 0)),(6,.c (.sl gE (.app 1))),(7,.c (.int .u64))] [] [(0,2,.box 0 (cF aX))] 1 [1] 2
def f16.ij:bn:=[(.ret,tm [(4,.c (.nil true)),(5,.c (.int .i64))] [] [] 1 [] 0),(.exit 0,tm [(6,.c (.sl gE (.app 0)))] [] [] 1 [0] 1)]
def f16.cI:Nat->List lY×Int×Int×List Int->Option (Int⊕(List lY))|0,_=>none|k+1,(b,c,d,e)=>(cond (c !=0) ((F29 N (d,e,c)).bind λa=>(cond (a.2.2.2.2.2!=0) (some (Sum.inl a.2.2.2.2.2)) (cond (decide (a.1>=c)) (some (Sum.inl 32)) (aF (room (b.length+1) 40) (f16.cI k ((b++[(a.1,a.2.1,a.2.2.1,a.2.2.2.1,a.2.2.2.2.1)]),a.1,d,e)))))) (some (Sum.inr b)))
theorem f16.kW:∀k,f16.cI N k=lp (aa0 N) 0 7 (tq 16) 7 f16.ig f16.ij k|0=>rfl|k+1=>funext λ⟨a,b,c,d⟩=>by rw[f16.cI,f16.kW k];kernel_rfl
def aud:ah:=(aa0 N).aa N 0 7 f16.ig f16.ij
def F16:Int×List Int×Int->Option (List lY×Int)|(a,b,c)=>((F28 N (a,b)).bind λd=>(cond (!d) (some ([],8)) ((f16.cI N N ([],c,a,b)).bind λe=>(match e with|.inl f=>some ([],f)|.inr g=>some (g,0)))))
def G16:ah:=(G29 N).put 16 s16 (F16 N)
theorem K16:az bJ (G16 N):=(K29 N).put (((K29 N).on s16).aa N 0 7 f16.ig f16.ij) _ _ _ (funext λ⟨a,b,c⟩=>by rw[F16,f16.kW N N];kernel_rfl)
def s8:bN:=sg [.agg (cF eV),.c (.int .i64)] [(false,[.int .i64]),(false,[.int .i64])]
def F8:oC Int->Option (Int×Int)|(e,f,g,h,i,j,l,a,b,m,c,n,d)=>((YC N (e,f,g,h,i,j,l,a,b,m,c,n,d)).bind λp=>(cond (p !=0) ((YC N (e,f,g,h,i,j,l,a,b,m,c,n,d)).bind λq=>some (0,q)) ((idx c d).bind λr=>((F16 N (a,b,r.2.2.2.1)).bind λo=>(cond (o.2!=0) (some (0,36)) (some ((o.1.length:Int),0)))))))
def G8:ah:=(G16 N).put 8 s8 (F8 N)
theorem K8:az bJ (G8 N):=(K16 N).put ((K16 N).on s8) _ _ _ (funext λ⟨a,b,c,d,e,f,g,h,i,j,l,m,n⟩=>by rw[F8];kernel_rfl)
def s3:bN:=⟨[.agg (aZ eV),.c (.int .i64)],[(false,[.bool])],0,[(0,8,4,.bool)],[],[],[]⟩
def F3:oC Int->Option Bool|(c,d,e,f,g,h,i,j,l,m,n,o,p)=>((F4 N (c,d,e,f,g,h,i,j,l,m,n,o)).bind λs=>(cond s (some true) ((F5 N (c,d,e,f,g,h,i,j,l,m,n,o,p)).bind λa=>((F6 N (c,d,e,f,g,h,i,j,l,m,n,o,p)).bind λb=>((F7 N (c,d,e,f,g,h,i,j,l,m,n,o,p)).bind λq=>((F8 N (c,d,e,f,g,h,i,j,l,m,n,o,p)).bind λr=>((cond (a.1==b.1&&(a.2.1==b.2.1&&(a.2.2.1==b.2.2.1&&(a.2.2.2.1==b.2.2.2.1&&(a.2.2.2.2.1==b.2.2.2.2.1&&true))))) (cond (a.2.2.2.2.2==b.2.2.2.2.2) (cond (q.1==r.1) (some (q.2==r.2)) (some false)) (some false)) (some false)).bind λt=>some t)))))))
def G3:ah:=(G8 N).put 3 s3 (F3 N)
theorem K3:az bJ (G3 N):=(K8 N).put ((K8 N).on s3) _ _ _ (funext λ⟨a,b,c,d,e,f,g,h,i,j,l,m,n⟩=>by rw[F3];kernel_rfl)
end
end Go.Proofs.YtkdilffhbejjaaaGreat
