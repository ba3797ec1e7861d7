/- Parts of the proof. -/
import Derived.Test.YtnfdnnplfbfgaaaGreatGen20lA
set_option linter.unusedSimpArgs false
set_option linter.defProp false
namespace Go.Proofs.YtnfdnnplfbfgaaaGreat
set_option linter.unusedVariables false
open Go Go.bS Go.Sym
noncomputable section
variable(N:Nat)
def KF:Nat->List aA×List Region×tmI×Int×Int->Option (Int×Int×List UInt8×List jC×Bool×Int)|0,_=>none|N+1,(e,f,b,p,h)=>(idx e p).bind λa=>cond (a.1==1) ((idx b 0).bind λq=>(idx b 0).bind λr=>(cond (r>1) (some 12) (some 0)).bind λm=>cond (m !=0) (some (0,0,([]:List UInt8),[],false,m)) (some (a.1,(au q),([]:List UInt8),[],false,0))) (cond (a.1==2) ((Sc N (b,0)).bind λs=>some (a.1,(au s),([]:List UInt8),[],false,0)) (cond (a.1==3) ((Sc N (b,0)).bind λt=>(Sc N (b,1)).bind λu=>(F88 N (e,f,t,u)).bind λi=>cond (i.2!=0) (some (0,0,([]:List UInt8),[],false,i.2)) (some (a.1,0,i.1,[],false,0))) (cond (a.1==4) ((Sc N (b,0)).bind λn=>cond (n !=0) ((F89 N (KF N) (e,f,n,a.1,a.2.1,a.2.2.1,a.2.2.2,1,1,h)).bind λc=>cond (c.2.2.2.2.2!=0) (some (0,0,([]:List UInt8),[],false,c.2.2.2.2.2)) (some (c.1,c.2.1,c.2.2.1,c.2.2.2.1,c.2.2.2.2.1,0))) (some (a.1,0,([]:List UInt8),[],false,0))) (cond (a.1==7) ((Sc N (b,0)).bind λj=>(Sc N (b,1)).bind λo=>(Sc N (b,2)).bind λg=>(cond (o>g) (some true) (cond (g>16) (some true) (cond (j==0) (some (decide (g>0))) (some false)))).bind λv=>cond v (some (0,0,([]:List UInt8),[],false,12)) (cond (j !=0) ((F89 N (KF N) (e,f,j,a.1,a.2.1,a.2.2.1,a.2.2.2,(au o),(au g),h)).bind λd=>cond (d.2.2.2.2.2!=0) (some (0,0,([]:List UInt8),[],false,d.2.2.2.2.2)) (some (d.1,d.2.1,d.2.2.1,d.2.2.2.1,d.2.2.2.2.1,0))) (some (a.1,0,([]:List UInt8),[],false,0)))) ((F91 N (a.1,a.2.1,a.2.2.1,a.2.2.2)).bind λw=>(F92 N (e,a.1,a.2.1,a.2.2.1,a.2.2.2)).bind λx=>(F90 N (KF N) (e,f,b,w,x,h)).bind λl=>cond (l.2!=0) (some (0,0,([]:List UInt8),[],false,l.2)) (some (a.1,0,([]:List UInt8),l.1,false,0)))))))
def al5:∀N:Nat,lK bE 42 (Vw.tI (KF N))|0=>r9 λ_=>rfl|N+1=>(Kh ((K89 N (KF N) (al5 N)).on Vw) xY 42 Vw.a Vw.ta Vw.r Vw.tr Vw.k).plain (funext λ⟨a,b,c,d,e⟩=>by rw[KF];kernel_rfl)
def G42:ai:=(G92 N).put 42 Vw (KF N)
def K42:az bE (G42 N):=(K92 N).jK (al5 N)
def s14:bH:=⟨[.c (.sl aR .aY),.c (.sl aF .aY),.U,.I,.I],[(true,[.B,.I,.str,.D .val,.bool]),tmf [.I]],0,[(0,5,37,.bool),(0,9,49,.bool),(0,14,75,.bool)],[],[],[]⟩
def F14:List aA×List Region×Int×Int×Int->Option (Int×Int×List UInt8×List jC×Bool×Int)|(d,b,e,f,g)=>(F38 N (d,f)).bind λi=>cond (i.2!=0) (some (0,0,([]:List UInt8),[],false,i.2)) ((cond (g<0) (some true) (some (decide (g>3)))).bind λm=>cond m (some (0,0,([]:List UInt8),[],false,2)) ((F39 N (b,0,1)).bind λh=>(cond (h.2!=0) (some (h.2!=6)) (some false)).bind λn=>cond n (some (0,0,([]:List UInt8),[],false,h.2)) ((Ud N (d,f)).bind λc=>(F39 N (b,e,(max c.1 1))).bind λj=>(cond (j.2!=0) (some true) (aH (!((aK c.2.1)=0)) (some ((Int.tmod e (aK c.2.1))!=0)))).bind λo=>cond o (some (0,0,([]:List UInt8),[],false,16)) ((idx b j.1).bind λl=>(F41 N (l.1,l.2,e,c.1)).bind λp=>(KF N (d,b,p.1,f,g)).bind λa=>(a.1,a.2.1,a.2.2.1,a.2.2.2.1,a.2.2.2.2.1,a.2.2.2.2.2)))))
def G14:ai:=(G42 N).put 14 s14 (F14 N)
def K14:az bE (G14 N):=(K42 N).pl (by kernel_rfl)
def s5:bH:=⟨[.agg (bq fF),.I,.I],[(true,[.B,.I,.str,.D .val,.bool]),tmf [.I]],0,[(0,5,37,.bool),(0,10,59,.bool)],[],[(0,106,aF)],[]⟩
def al7:ai:=(G14 N).on s5
def aY7:aX:=tm [(1,.I),(2,.P 0 1048578 0),(21,.I),(22,.I)] [[(3,.P 0 3 1),(6,.P 0 6 2)]] [(0,1048578,.box 0 [.D aR,.D .str,.D dV,.I,.I,.I,.I,.U,.A .B 3,.ref 1 17 4 aF,.D kA,.I]),(1,17,.row 4 aF),(0,3,.box 1 (bq fF)),(0,6,.box 2 [.B,.I,.str,.nil true,.bool])] 2 [3] 5
def aY8:aW:=[(.exit 0,tm [(1,.I),(2,.P 0 1048578 0)] [[(3,.P 0 3 1),(6,.P 0 6 2)]] [(0,1048578,.box 0 [.D aR,.D .str,.D dV,.I,.I,.I,.I,.U,.A .B 3,.ref 1 17 4 aF,.D kA,.I]),(1,17,.row 4 aF),(0,3,.box 1 (bq fF)),(0,6,.box 2 [.B,.I,.str,.nil true,.bool])] 2 [3] 5)]
def az6(N:Nat):Nat->Int×Int×Int×bU (x8 (Int×tmI×List eY×Int×List Region×pI (Int×Int×List UInt8×Bool)))->Option (Int×bU (x8 (Int×tmI×List eY×Int×List Region×pI (Int×Int×List UInt8×Bool))))|0,_=>none|k+1,(c,d,a,e,f,g,h,i,j,l,m,n,o,p,b,q,r,s,t,u,v,w,x,y,z,A,B,C,D,E,G)=>cond (a<d) (aH (fM a b.length) ((b[a.toNat]?).bind λH=>aH (room H.2.length 1) (aH (fM a b.length) ((b[a.toNat]?).bind λI=>az6 N k (c,d,(au (a+1)),e,f,g,h,i,j,l,m,n,o,p,(b.set a.toNat (I.1,H.2)),q,r,s,t,u,v,w,x,y,z,A,B,C,D,E,G))))) (c,e,f,g,h,i,j,l,m,n,o,p,b,q,r,s,t,u,v,w,x,y,z,A,B,C,D,E,G)
def bo2:∀k,az6 N k=lp (al7 N) 1041000 5 (tq 12) 5 aY7 aY8 k:=lpI (λ_=>rfl) λk=>by kernel_rfl
def aAz:ai:=(al7 N).aa N 1041000 5 aY7 aY8
def F5:pI (Int×Int)->Option (Int×Int×List UInt8×List jC×Bool×Int)|(i,j,l,m,n,o,p,q,g,d,e,r,f,b)=>(F11 N (i,j,l,m,n,o,p,q,g,d,e,r)).bind λt=>cond (t !=0) (some (0,0,([]:List UInt8),[],false,t)) ((cond (f<0) (some true) (cond (f>=e.length) (some true) ((idx e f).bind λu=>some (u.1==3)))).bind λv=>cond v (some (0,0,([]:List UInt8),[],false,2)) (aH (room g.length 1) (aH (room d.length 32) ((az6 N N (f,(d.length:Int),0,i,j,l,m,n,o,p,q,g,e,r,d,i,j,l,m,n,o,p,q,g,d,e,r,0,0,([]:List UInt8),false)).bind λa=>aH (room a.2.2.2.2.2.2.2.2.2.2.1.length 48) ((idx a.2.2.2.2.2.2.2.2.2.2.1 a.1).bind λw=>(F32 N (a.2.1,a.2.2.1,a.2.2.2.1,w.2.1)).bind λs=>(idx a.2.2.2.2.2.2.2.2.2.2.1 a.1).bind λx=>(F33 N (a.2.1,a.2.2.1,a.2.2.2.1,x.2.1)).bind λy=>aH (fM a.1 a.2.2.2.2.2.2.2.2.2.2.2.2.1.length) ((a.2.2.2.2.2.2.2.2.2.2.2.2.1[a.1.toNat]?).bind λz=>(idx a.2.2.2.1 s.1).bind λA=>(F34 N (a.2.1,A.2.2.2.1)).bind λB=>(idx a.2.2.2.2.2.2.2.2.2.2.2.2.2.2.2.1 s.1).bind λh=>(cond (b<0) (some true) (some (decide (b>=h.2.2.2.1.length)))).bind λC=>cond C (some (0,0,([]:List UInt8),[],false,2)) ((F13 N (h.2.2.2.2.2.2,(h.2.2.2.2.1.length:Int),s.2.1)).bind λD=>aH (!(b<0)) (cond ((tZ .u64 (Int.fdiv D.1 (2^min b.toNat 64)) 1)==0) (some (0,0,([]:List UInt8),[],false,38)) ((idx a.2.2.2.2.2.2.2.2.2.2.2.2.2.2.2.2.2.2.2.2.2.2.1 f).bind λE=>(idx B.1 b).bind λG=>aH (room (1+a.2.2.2.2.2.2.2.2.2.2.2.2.2.2.2.2.2.2.2.2.2.2.1.length) 32) ((idx h.2.2.2.1 b).bind λH=>(F14 N (a.2.2.2.2.2.2.2.2.2.2.2.2.2.1,([(a.2.2.2.2.2.2.2.2.2.2.2.2.2.2.2.2.2.2.2.2.1,a.2.2.2.2.2.2.2.2.2.2.2.2.2.2.2.2.2.2.2.2.2.1)]++a.2.2.2.2.2.2.2.2.2.2.2.2.2.2.2.2.2.2.2.2.2.2.1),(aK (E.1+(aK (au ((au ((au ((z.2.length:Int)-y.1))+24))+G))))),H.2,3)).bind λc=>(c.1,c.2.1,c.2.2.1,c.2.2.2.1,c.2.2.2.2.1,c.2.2.2.2.2)))))))))))
def G5:ai:=(G14 N).put 5 s5 (F5 N)
def K5:az bE (G5 N):=(K14 N).pu (aAz N) (K14 N).o.l (funext λ⟨a,b,c,d,e,f,g,h,i,j,l,m,n,o⟩=>by rw[F5,bo2 N N];kernel_rfl)
def al8:bH:=⟨[.B],[tmf [.bool]],0,[(0,1,2,.bool)],[],[],[]⟩
def QM(N:Nat):Int->Option Bool|a=>(cond (a>=97) (cond (a<=122) (some true) (cond (a>=65) (some (decide (a<=90))) (some false))) (cond (a>=65) (some (decide (a<=90))) (some false))).bind λb=>b
def afz:ai:=(G5 N).put 267 al8 (QM N)
def al9:az bE (afz N):=(K5 N).pl (by kernel_rfl)
def afA:bH:=⟨[.T],[tmf [.bool]],0,[(0,1,17,.bool),(0,10,40,.bool)],[],[],[]⟩
def Vx:ai:=(afz N).on afA
def aY9:aX:=tmn [(0,.T),(3,.I)]
def aZ0:aW:=[tmr [(2,.Q)],tmx]
def az7:Nat->List UInt8×Int->Option (Bool⊕Unit)|0,_=>none|k+1,(a,b)=>cond (b<a.length) (((idx a b).bind λc5=>(QM N (c5.toNat:Int)).bind λc=>cond (!c) ((idx a b).bind λc7=>cond ((c7.toNat:Int)<48) (some true) ((idx a b).bind λc8=>some (decide ((c8.toNat:Int)>57)))) (some false)).bind λd=>cond d (some (Sum.inl false)) (az7 k (a,(au (b+1))))) (some (Sum.inr ()))
def bo3:∀k,az7 N k=tmq (Vx N) 6 247 aY9 aZ0 k:=lpI (λ_=>rfl) λk=>by kernel_rfl
def asT:ai:=(Vx N).aa N 0 6 aY9 aZ0
def QN:List UInt8->Option Bool|a=>(cond ((a.length:Int)<1) (some true) (cond ((a.length:Int)>16) (some true) ((idx a 0).bind λc0=>(QM N (c0.toNat:Int)).bind λb=>some (!b)))).bind λc=>cond c false ((az7 N N (a,0)).bind λd=>match d with|.inl e=>e|.inr f=>true)
def afB:ai:=(afz N).put 247 afA (QN N)
def ama:az bE (afB N):=(al9 N).pu (asT N) (al9 N).o.l (funext λa=>by rw[QN,bo3 N N];kernel_rfl)
def afC:bH:=sg [.c (.sl cS .aY),.I] [tmf [.bool]]
def Vy:ai:=(afB N).on afC
def aZ1:aX:=tmn [(0,.c (.sl cS .aY)),(5,.I),(6,.I)]
def aZ2:aW:=[tmr [(4,.Q)],(.exit 2,tmn [(0,.c (.sl cS .aY)),(5,.I)])]
def az8(N:Nat):Nat->List Field×Int×Int->Option (Bool⊕(List Field×Int))|0,_=>none|k+1,(a,b,c)=>cond (c<b) ((idx a c).bind λd=>(idx a b).bind λe=>cond (d.1==e.1) (some (Sum.inl false)) (az8 N k (a,b,(au (c+1))))) (some (Sum.inr (a,b)))
def bo4:∀k,az8 N k=tmq (Vy N) 15 248 aZ1 aZ2 k:=lpI (λ_=>rfl) λk=>by kernel_rfl
def Vz:ai:=(Vy N).aa N 0 15 aZ1 aZ2
def aZ3:aX:=tmn [(0,.c (.sl cS .aY)),(5,.I)]
def aZ4:aW:=[tmr [(4,.Q)],tmx]
def aq1:Nat->List Field×Int->Option (Bool⊕Unit)|0,_=>none|k+1,(a,b)=>cond (b<a.length) ((idx a b).bind λd=>(QN N d.1).bind λe=>cond (!e) (some (Sum.inl false)) ((az8 N N (a,b,0)).bind λf=>match f with|.inl g=>some (Sum.inl g)|.inr c=>aq1 k (c.1,(au (c.2+1))))) (some (Sum.inr ()))
def aZ5:∀k,aq1 N k=tmq (Vz N) 6 248 aZ3 aZ4 k|0=>rfl|k+1=>funext λ⟨a,b⟩=>by rw[aq1,aZ5 k,bo4 N N];kernel_rfl
def asU:ai:=(Vz N).aa N 0 6 aZ3 aZ4
def QO:List Field×Int->Option Bool|(a,b)=>cond ((a.length:Int)>b) false ((aq1 N N (a,0)).bind λc=>match c with|.inl d=>d|.inr e=>true)
def afD:ai:=(afB N).put 248 afC (QO N)
def amb:az bE (afD N):=(ama N).pu (asU N) (ama N).o.l.l (funext λ⟨a,b⟩=>by rw[QO,aZ5 N N];kernel_rfl)
def afE:bH:=⟨[.c (.sl aR .aY),.I],[tmf [.bool]],0,[(0,7,13,.bool),(0,5,13,.bool),(0,10,4,.bool),(0,12,31,.bool),(0,15,4,.bool),(0,18,4,.bool),(0,27,107,.bool),(0,31,4,.bool)],[],[],[]⟩
def VA:ai:=(afD N).on afE
def aZ6:aX:=tm [(1,.I),(5,.P 0 5 0),(6,.I)] [] [(0,5,.box 0 (bq aR))] 1 [] 1
def aZ7:aW:=[tmr [(4,.Q)],(.exit 1,tm [(5,.P 0 5 0)] [] [(0,5,.box 0 (bq aR))] 1 [] 1)]
def aq5(N:Nat):Nat->Int×Int×oo->Option (Bool⊕oo)|0,_=>none|k+1,(c,b,d,e,f,a)=>cond (b<a.length) (((idx a b).bind λg=>cond (g.2<0) (some true) ((idx a b).bind λh=>some (decide (h.2>=c)))).bind λi=>cond i (some (Sum.inl false)) (aq5 N k (c,(au (b+1)),d,e,f,a))) (some (Sum.inr (d,e,f,a)))
def bo5:∀k,aq5 N k=tmq (VA N) 23 234 aZ6 aZ7 k:=lpI (λ_=>rfl) λk=>by kernel_rfl
def asV:ai:=(VA N).aa N 0 23 aZ6 aZ7
def VE:List aA×Int->Option Bool|(d,c)=>(idx d c).bind λa=>(cond (a.1==1) (some true) ((cond (a.1==2) (some true) (some (a.1==3))).bind λe=>some e)).bind λf=>cond f ((cond (a.2.1==0) (cond (a.2.2.1==0) (some ((a.2.2.2.length:Int)==0)) (some false)) (some false)).bind λg=>g) ((cond (a.1==4) (some true) (some (a.1==7))).bind λh=>cond h ((cond (a.2.1>=0) (cond (a.2.1<d.length) (cond (a.2.2.1==0) (some ((a.2.2.2.length:Int)==0)) (some false)) (some false)) (some false)).bind λi=>i) (cond (a.1==6) ((cond (a.2.1>=0) (cond (a.2.1<c) (cond (a.2.2.1>=1) (cond (a.2.2.1<=16) (some ((a.2.2.2.length:Int)==0)) (some false)) (some false)) (some false)) (some false)).bind λj=>j) (cond (a.1==5) ((aq5 N N (c,0,a.1,a.2.1,a.2.2.1,a.2.2.2)).bind λl=>match l with|.inl m=>m|.inr b=>(cond (b.2.1==0) (cond (b.2.2.1==0) (cond ((b.2.2.2.length:Int)>0) ((QO N (b.2.2.2,8)).bind λn=>some n) (some false)) (some false)) (some false)).bind λo=>o) false)))
def afF:ai:=(afD N).put 234 afE (VE N)
def amc:az bE (afF N):=(amb N).pu (asV N) (amb N).o.l (funext λ⟨a,b⟩=>by rw[VE,bo5 N N];kernel_rfl)
def afG:bH:=⟨[.agg (cv aR)],[tmf [.D .I]],1,[],[],[(0,2,.I),(0,3,.I),(0,11,.I),(0,27,.I)],[]⟩
def VF:ai:=(afF N).on afG
def aZ8:aX:=tm [(1,.P 0 1 0),(3,.R 0 3 1 .I),(4,.I)] [] [(0,1,.box 0 (cv aR)),(0,3,.row 1 .I)] 1 [] 2
def aZ9:aW:=[(.exit 0,tm [(3,.R 0 3 0 .I)] [] [(0,3,.row 0 .I)] 1 [] 1)]
def aq6(N:Nat):Nat->Int×Df tmI->Option tmI|0,_=>none|k+1,(a,d,e,f,b,c)=>cond (a<b.length) ((idx b a).bind λg=>aH (room (c.length+1) 8) (aq6 N k ((au (a+1)),d,e,f,b,(c++[g.2])))) c
def bo6:∀k,aq6 N k=tmq (VF N) 7 179 aZ8 aZ9 k:=lpI (λ_=>rfl) λk=>by kernel_rfl
def asW:ai:=(VF N).aa N 0 7 aZ8 aZ9
def QS:oo->Option tmI|(a,b,c,d)=>cond (a==6) (aH (room (0+1) 8) ((aq6 N N (0,a,b,c,d,(([]:tmI)++[b]))).bind λe=>e)) ((aq6 N N (0,a,b,c,d,([]:tmI))).bind λf=>f)
def afH:ai:=(afF N).put 179 afG (QS N)
def amd:az bE (afH N):=(amc N).pu (asW N) (amc N).o.l (funext λ⟨a,b,c,d⟩=>by rw[QS,bo6 N N];kernel_rfl)
def ES:bH:=⟨[.c (.sl aR .aY),.I],[tmf [.D .I]],0,[(0,21,11,.I),(0,25,67,.bool),(0,26,8,.I),(0,28,88,.bool),(0,29,8,.I)],[],[(0,103,.I)],[]⟩
abbrev M9:Type:=(List aA)×Int->Option tmI
def VG(R:M9):ai:=((afH N).on ES).put 235 ES R
def aF0:aX:=tmv [(0,.c (.sl aR .aY)),(1,.I),(5,.D .I),(6,.A .I 0),(7,.I),(8,.I),(9,.D .I),(10,.I)] 0 1
def aF1:aW:=[(.exit 2,tmv [(0,.c (.sl aR .aY)),(1,.I),(5,.D .I),(6,.A .I 0),(7,.I),(8,.I)] 0 1)]
def ac8(N:Nat)(R:M9):Nat->List aA×Int×tmI×tmI×Int×Int×tmI×Int->Option (List aA×Int×tmI×tmI×Int×Int)|0,_=>none|k+1,(a,f,g,c,b,h,d,e)=>cond (e<d.length) ((idx a b).bind λi=>(cond (i.1==6) ((idx a b).bind λj=>some j.2.2.1) (some 1)).bind λl=>(idx d e).bind λm=>(idx c m).bind λn=>ac8 N R k (a,f,g,c,b,(min (au (h+(au (l*n)))) 5001),d,(au (e+1)))) (a,f,g,c,b,h)
def bo7(R:M9):∀k,ac8 N R k=lp (VG N R) 0 15 (tq 235) 15 aF0 aF1 k:=lpI (λ_=>rfl) λk=>by kernel_rfl
def VH(R:M9):ai:=(VG N R).aa N 0 15 aF0 aF1
def aF2:aX:=tmv [(0,.c (.sl aR .aY)),(1,.I),(5,.D .I),(6,.A .I 0),(7,.I)] 0 1
def aF3:aW:=[(.exit 0,tmv [(6,.A .I 0)] 0 1)]
def If(R:M9):Nat->List aA×Int×tmI×tmI×Int->Option tmI|0,_=>none|k+1,(c,g,h,e,d)=>cond (d<c.length) ((idx c d).bind λb=>(QS N (b.1,b.2.1,b.2.2.1,b.2.2.2)).bind λi=>(ac8 N R N (c,g,h,e,d,1,i,0)).bind λa=>(cond (a.2.1>0) ((idx a.1 a.2.2.2.2.1).bind λj=>some (j.1==4)) (some false)).bind λl=>(cond l ((idx a.1 a.2.2.2.2.1).bind λm=>(idx a.2.2.1 m.2.1).bind λn=>some (min (au (a.2.2.2.2.2+n)) 5001)) (some a.2.2.2.2.2)).bind λf=>(cond (a.2.1>0) ((idx a.1 a.2.2.2.2.1).bind λo=>some (o.1==7)) (some false)).bind λp=>(cond p ((idx a.1 a.2.2.2.2.1).bind λq=>(idx a.2.2.1 q.2.1).bind λr=>some (min (au (f+(au (16*r)))) 5001)) (some f)).bind λs=>aH (room (a.2.2.2.1.length+1) 8) (If R k (a.1,a.2.1,a.2.2.1,(a.2.2.2.1++[s]),(au (a.2.2.2.2.1+1))))) e
def a00(R:M9):∀k,If N R k=lp (VH N R) 0 8 (tq 235) 8 aF2 aF3 k|0=>rfl|k+1=>funext λ⟨a,b,c,d,e⟩=>by rw[If,a00 R k,bo7 N R N];kernel_rfl
def asX(R:M9):ai:=(VH N R).aa N 0 8 aF2 aF3
def DA:Nat->List aA×Int->Option tmI|0,_=>none|N+1,(b,a)=>cond (a>0) ((DA N (b,(au (a-1)))).bind λc=>(If N (DA N) N (b,a,c,[],0)).bind λd=>d) ((If N (DA N) N (b,a,[],[],0)).bind λe=>e)
def acK:∀N:Nat,lK bE 235 (ES.tI (DA N))|0=>r9 λ_=>rfl|N+1=>(Kh (((((amd N).on ES).jK (acK N)).aa N 0 15 aF0 aF1).aa N 0 8 aF2 aF3) xY 235 ES.a ES.ta ES.r ES.tr ES.k).plain (funext λ⟨a,b⟩=>by rw[DA,a00 N (DA N) N];kernel_rfl)
def afI:ai:=(afH N).put 235 ES (DA N)
def ame:az bE (afI N):=(amd N).jK (acK N)
def afJ:bH:=sg [.c (.sl aR .aY)] [tmf [.I]]
def VI:ai:=(afI N).on afJ
def a01:aX:=tmn [(0,.c (.sl aR .aY)),(3,.I)]
def a02:aW:=[tmr [(2,.I)],(.exit 0,tmn [(0,.c (.sl aR .aY))])]
def aA0:Nat->List aA×Int->Option (Int⊕(List aA))|0,_=>none|k+1,(a,b)=>cond (b<a.length) ((VE N (a,b)).bind λc=>cond (!c) (some (Sum.inl 8)) (aA0 k (a,(au (b+1))))) (some (Sum.inr a))
def bo8:∀k,aA0 N k=tmq (VI N) 6 180 a01 a02 k:=lpI (λ_=>rfl) λk=>by kernel_rfl
def VJ:ai:=(VI N).aa N 0 6 a01 a02
def a03:aX:=tmn [(0,.c (.sl aR .aY)),(4,.D .I),(5,.I)]
def a04:aW:=[tmr [(2,.I)],(.exit 2,tmz)]
def aA1(N:Nat):Nat->List aA×tmI×Int->Option (Int⊕Unit)|0,_=>none|k+1,(b,c,a)=>cond (a<b.length) ((idx c a).bind λd=>cond (d>5000) (some (Sum.inl 8)) (aA1 N k (b,c,(au (a+1))))) (some (Sum.inr ()))
def bo9:∀k,aA1 N k=tmq (VJ N) 17 180 a03 a04 k:=lpI (λ_=>rfl) λk=>by kernel_rfl
def asY:ai:=(VJ N).aa N 0 17 a03 a04
def QT:List aA->Option Int|a=>cond ((a.length:Int)>32) (some 8) ((aA0 N N (a,0)).bind λc=>match c with|.inl d=>d|.inr b=>(DA N (b,3)).bind λe=>(aA1 N N (b,e,0)).bind λf=>match f with|.inl g=>g|.inr h=>some 0)
def amf:ai:=(afI N).put 180 afJ (QT N)
def amg:az bE (amf N):=(ame N).pu (asY N) (ame N).o.l.l (funext λa=>by rw[QT,bo8 N N,bo9 N N];kernel_rfl)
def amh:bH:=sg [.I,.I] [tmf [.I]]
def Na(N:Nat):Int×Int->Option Int|(b,a)=>aH (!(a=0)) (some (au ((au (Int.tdiv (au ((au (b+a))-1)) a))*a)))
def afK:ai:=(amf N).put 140 amh (Na N)
def ami:az bE (afK N):=(amg N).pl (by kernel_rfl)
def afL:bH:=⟨[.c (.sl .I .aY),.c (.sl .I .aY),.c (.sl cS .aY)],[tmf [.D .I],tmf [.I],tmf [.I]],0,[],[],[(0,34,.I)],[]⟩
def VK:ai:=(afK N).on afL
def a05:aX:=tmv [(0,.c (.sl .I .aY)),(1,.c (.sl .I .aY)),(2,.c (.sl cS .aY)),(9,.A .I 0),(10,.I),(11,.I),(12,.I)] 0 1
def a06:aW:=[(.exit 0,tmv [(9,.A .I 0),(10,.I),(11,.I)] 0 1)]
def aq9:Nat->tmI×tmI×List Field×tmI×Int×Int×Int->Option (tmI×Int×Int)|0,_=>none|k+1,(f,a,b,c,g,h,d)=>cond (d<b.length) ((idx b d).bind λe=>(idx a e.2).bind λj=>(Na N (g,j)).bind λi=>aH (room (c.length+1) 8) ((idx f e.2).bind λl=>(idx a e.2).bind λm=>aq9 k (f,a,b,(c++[i]),(min 1000000 (au (i+l))),(max h m),(au (d+1))))) (c,g,h)
def bp0:∀k,aq9 N k=tmq (VK N) 5 139 a05 a06 k:=lpI (λ_=>rfl) λk=>by kernel_rfl
def asZ:ai:=(VK N).aa N 0 5 a05 a06
def Nb:tmI×tmI×List Field->Option (tmI×Int×Int)|(b,c,d)=>(aq9 N N (b,c,d,[],0,1,0)).bind λa=>(Na N (a.2.1,a.2.2)).bind λe=>some (a.1,(min 1000000 e),a.2.2)
def afM:ai:=(afK N).put 139 afL (Nb N)
def amj:az bE (afM N):=(ami N).pu (asZ N) (ami N).o.l (funext λ⟨a,b,c⟩=>by rw[Nb,bp0 N N];kernel_rfl)
def afN:bH:=⟨[.c (.sl aR .aY)],[tmf [.D .I],tmf [.D .I]],0,[],[],[(0,67,.I),(0,71,.I)],[]⟩
def VL:ai:=(afM N).on afN
def a07:aX:=tm [(0,.c (.sl aR .aY)),(4,.A .I 0),(5,.A .I 1),(6,.I)] [] [] 1 [0,1] 2
def a08:aW:=[(.exit 0,tm [(4,.A .I 0),(5,.A .I 1)] [] [] 1 [0,1] 2)]
def Hn:Nat->List aA×tmI×tmI×Int->Option (tmI×tmI)|0,_=>none|k+1,(c,a,b,d)=>cond (d<c.length) ((idx c d).bind λe=>cond (e.1==1) (aH (room (a.length+1) 8) (aH (room (b.length+1) 8) (Hn k (c,(a++[1]),(b++[1]),(au (d+1)))))) (cond (e.1==3) (aH (room (a.length+1) 8) (aH (room (b.length+1) 8) (Hn k (c,(a++[16]),(b++[8]),(au (d+1)))))) (cond (e.1==7) (aH (room (a.length+1) 8) (aH (room (b.length+1) 8) (Hn k (c,(a++[24]),(b++[8]),(au (d+1)))))) (cond (e.1==6) ((idx c d).bind λg=>(idx c d).bind λh=>(idx a h.2.1).bind λi=>(idx c d).bind λj=>(idx b j.2.1).bind λl=>aH (room (a.length+1) 8) (aH (room (b.length+1) 8) (Hn k (c,(a++[(min 1000000 (au (g.2.2.1*i)))]),(b++[l]),(au (d+1)))))) (cond (e.1==5) ((idx c d).bind λm=>(Nb N (a,b,m.2.2.2)).bind λf=>aH (room (a.length+1) 8) (aH (room (b.length+1) 8) (Hn k (c,(a++[f.2.1]),(b++[f.2.2]),(au (d+1)))))) (aH (room (a.length+1) 8) (aH (room (b.length+1) 8) (Hn k (c,(a++[8]),(b++[8]),(au (d+1))))))))))) (a,b)
def bp1:∀k,Hn N k=tmq (VL N) 4 105 a07 a08 k:=lpI (λ_=>rfl) λk=>by kernel_rfl
def as0:ai:=(VL N).aa N 0 4 a07 a08
def ET:List aA->Option (tmI×tmI)|b=>(Hn N N (b,[],[],0)).bind λa=>(a.1,a.2)
def amk:ai:=(afM N).put 105 afN (ET N)
def aml:az bE (amk N):=(amj N).pu (as0 N) (amj N).o.l (funext λa=>by rw[ET,bp1 N N];kernel_rfl)
def amm:bH:=⟨[.B],[tmf [.str]],0,[(0,13,10,.bool),(0,24,13,.bool),(0,22,13,.bool),(0,20,13,.bool),(0,18,13,.bool),(0,39,19,.bool),(0,37,19,.bool),(0,35,19,.bool),(0,33,19,.bool),(0,31,19,.bool),(0,29,19,.bool),(0,64,39,.bool),(0,62,39,.bool),(0,72,45,.bool),(0,80,50,.bool)],[],[],[]⟩
def Ie(N:Nat):Int->Option (List UInt8)|a=>cond (a==1) (some [119,110,45]) (cond (a==2) (some [119,116,45]) (cond (a==3) (some [119,98,45]) ((cond (a==4) (some true) (some (a==15))).bind λb=>cond b (some [119,45,45]) ((cond (a==5) (some true) ((cond (a==12) (some true) ((cond (a==16) (some true) ((cond (a==18) (some true) (some (a==21))).bind λc=>some c)).bind λd=>some d)).bind λe=>some e)).bind λf=>cond f (some [119,114,45]) ((cond (a==6) (some true) ((cond (a==7) (some true) ((cond (a==8) (some true) ((cond (a==9) (some true) ((cond (a==10) (some true) ((cond (a==11) (some true) (some (a==19))).bind λg=>some g)).bind λh=>some h)).bind λi=>some i)).bind λj=>some j)).bind λl=>some l)).bind λm=>cond m (some [119,114,114]) (cond (a==13) (some [119,114,102]) (cond (a==14) (some [114,102,114]) (cond (a==17) (some [114,114,45]) (cond (a==20) (some [114,114,114]) (cond (a==22) (some [105,45,45]) (cond (a==23) (some [114,105,45]) ((cond (a==24) (some true) ((cond (a==28) (some true) (some (a==32))).bind λn=>some n)).bind λo=>cond o (some [114,45,45]) (cond (a==25) (some [103,99,45]) ((cond (a==26) (some true) (some (a==27))).bind λp=>cond p (some [99,45,45]) (cond (a==29) (some [119,119,45]) ((cond (a==30) (some true) (some (a==31))).bind λq=>cond q (some [45,45,45]) (cond (a==33) (some [119,114,45]) (cond (a==34) (some [101,45,45]) (some ([]:List UInt8))))))))))))))))))))
def amn:ai:=(amk N).put 251 amm (Ie N)
def amo:az bE (amn N):=(aml N).pl (by kernel_rfl)
def amp:bH:=sg [.agg (bq bt)] [(true,[.I,.I,.I])]
def KG(N:Nat):iF->Option (Int×Int×Int)|(d,a,b,c)=>(a,b,c)
def amq:ai:=(amn N).put 252 amp (KG N)
def amr:az bE (amq N):=(amo N).pl (by kernel_rfl)
def ams:bH:=⟨[.B,.I],[tmf [.bool]],0,[(0,7,10,.bool),(0,10,4,.bool),(0,12,19,.bool),(0,15,4,.bool),(0,17,28,.bool),(0,20,4,.bool),(0,23,4,.bool),(0,26,4,.bool),(0,29,4,.bool)],[],[],[]⟩
def Nc(N:Nat):Int×Int->Option Bool|(b,a)=>cond (b==45) (some (a==0)) ((cond (b==119) (some true) (some (b==114))).bind λc=>cond c ((cond (a>=0) (some (decide (a<16))) (some false)).bind λd=>d) ((cond (b==103) (some true) (some (b==101))).bind λe=>cond e ((cond (a>=(-1)) (some (decide (a<16))) (some false)).bind λf=>f) ((cond (b==116) (some true) (some (b==99))).bind λg=>cond g ((cond (a>=0) (some (decide (a<32))) (some false)).bind λh=>h) (cond (b==98) ((cond (a>=0) (some (decide (a<2))) (some false)).bind λi=>i) (cond (b==102) ((cond (a>=0) (some (decide (a<8))) (some false)).bind λj=>j) (cond (b==105) ((cond (a>=0) (some (decide (a<200))) (some false)).bind λl=>l) true))))))
def amt:ai:=(amq N).put 268 ams (Nc N)
def amu:az bE (amt N):=(amr N).pl (by kernel_rfl)
def amv:bH:=⟨[.agg (bq bt)],[tmf [.I]],0,[(0,11,25,.bool),(0,100011,25,.bool)],[(0,7),(0,100007)],[],[]⟩
def QU:iF->Option Int|(c,d,e,f)=>(Ie N c).bind λa=>(KG N (c,d,e,f)).bind λb=>cond ((a.length:Int)!=3) (some 8) (((idx a 0).bind λc2=>(Nc N ((c2.toNat:Int),b.1)).bind λg=>some (!g)).bind λh=>cond h (some 8) (((idx a 1).bind λc5=>(Nc N ((c5.toNat:Int),b.2.1)).bind λi=>some (!i)).bind λj=>cond j (some 8) (((idx a 2).bind λc8=>(Nc N ((c8.toNat:Int),b.2.2)).bind λl=>some (!l)).bind λm=>cond m (some 8) (some 0))))
def afO:ai:=(amt N).put 249 amv (QU N)
def amw:az bE (afO N):=(amu N).pl (by kernel_rfl)
def afP:bH:=⟨[.c (.sl iE .aY),.I],[tmf [.bool]],0,[(0,1,15,.bool),(0,10,60,.bool)],[],[],[]⟩
def VN:ai:=(afO N).on afP
def a09:aX:=tmn [(0,.c (.sl iE .aY)),(1,.I),(5,.I)]
def a10:aW:=[tmr [(4,.Q)],tmx]
def aA2(N:Nat):Nat->List e8×Int×Int->Option (Bool⊕Unit)|0,_=>none|k+1,(b,c,a)=>cond (a<b.length) (((idx b a).bind λd=>cond (d.1>=c) (some true) (cond (a>0) ((idx b (au (a-1))).bind λe=>(idx b a).bind λf=>cond (e.1>=f.1) (some true) ((idx b (au (a-1))).bind λg=>(idx b a).bind λh=>some (g.2==h.2))) (some false))).bind λi=>cond i (some (Sum.inl false)) (aA2 N k (b,c,(au (a+1))))) (some (Sum.inr ()))
def bp2:∀k,aA2 N k=tmq (VN N) 6 250 a09 a10 k:=lpI (λ_=>rfl) λk=>by kernel_rfl
def as3:ai:=(VN N).aa N 0 6 a09 a10
def QV:List e8×Int->Option Bool|(a,b)=>(cond ((a.length:Int)<1) (some true) ((idx a 0).bind λc=>some (c.1!=0))).bind λd=>cond d false ((aA2 N N (a,b,0)).bind λe=>match e with|.inl f=>f|.inr g=>true)
def afQ:ai:=(afO N).put 250 afP (QV N)
def amx:az bE (afQ N):=(amw N).pu (as3 N) (amw N).o.l (funext λ⟨a,b⟩=>by rw[QV,bp2 N N];kernel_rfl)
def afR:bH:=⟨[.c (.sl aR .aY),.agg (cv dV)],[tmf [.bool]],0,[(0,1,53,.bool),(0,10,78,.bool),(0,24,4,.bool)],[],[],[]⟩
def VO:ai:=(afQ N).on afR
def a11:aX:=tm [(0,.c (.sl aR .aY)),(3,.P 0 3 0),(5,.I)] [] [(0,3,.box 0 (cv dV))] 1 [] 1
def a12:aW:=[tmr [(4,.Q)],(.exit 0,tm [(3,.P 0 3 0)] [] [(0,3,.box 0 (cv dV))] 1 [] 1)]
def as1(N:Nat):Nat->List aA×Int×iw->Option (Bool⊕iw)|0,_=>none|k+1,(c,b,d,e,f,a,g,h,i)=>cond (b<a.length) (((idx a b).bind λj=>cond (j.2<0) (some true) ((idx a b).bind λl=>some (decide (l.2>=c.length)))).bind λm=>cond m (some (Sum.inl false)) (as1 N k (c,(au (b+1)),d,e,f,a,g,h,i))) (some (Sum.inr (d,e,f,a,g,h,i)))
def bp3:∀k,as1 N k=tmq (VO N) 6 212 a11 a12 k:=lpI (λ_=>rfl) λk=>by kernel_rfl
def VP:ai:=(VO N).aa N 0 6 a11 a12
def a13:aX:=tm [(3,.P 0 3 0),(6,.I)] [] [(0,3,.box 0 (cv dV))] 1 [] 1
def a14:aW:=[tmr [(4,.Q)],(.exit 2,tm [(3,.P 0 3 0)] [] [(0,3,.box 0 (cv dV))] 1 [] 1)]
def as8:Nat->Int×iw->Option (Bool⊕iw)|0,_=>none|k+1,(c,d,e,f,g,a,h,i)=>cond (c<a.length) ((idx a c).bind λb=>(QU N (b.1,b.2.1,b.2.2.1,b.2.2.2)).bind λj=>cond (j !=0) (some (Sum.inl false)) (as8 k ((au (c+1)),d,e,f,g,a,h,i))) (some (Sum.inr (d,e,f,g,a,h,i)))
def bp4:∀k,as8 N k=tmq (VP N) 16 212 a13 a14 k:=lpI (λ_=>rfl) λk=>by kernel_rfl
def as4:ai:=(VP N).aa N 0 16 a13 a14
def VQ:List aA×iw->Option Bool|(g,h,c,d,e,f,i,j)=>((QN N h).bind λl=>cond (!l) (some true) ((QO N (e,16)).bind λm=>cond (!m) (some true) (cond (c<0) (some true) (cond (c>e.length) (some true) (cond (d<(-1)) (some true) (cond (d>=g.length) (some true) (cond ((f.length:Int)<1) (some true) (some (decide ((f.length:Int)>200)))))))))).bind λn=>cond n false ((as1 N N (g,0,h,c,d,e,f,i,j)).bind λo=>match o with|.inl p=>p|.inr a=>(as8 N N (0,a.1,a.2.1,a.2.2.1,a.2.2.2.1,a.2.2.2.2.1,a.2.2.2.2.2.1,a.2.2.2.2.2.2)).bind λq=>match q with|.inl r=>r|.inr b=>((QV N (b.2.2.2.2.2.1,(b.2.2.2.2.1.length:Int))).bind λs=>cond s ((QV N (b.2.2.2.2.2.2,(b.2.2.2.2.1.length:Int))).bind λt=>some t) (some false)).bind λu=>u)
def afS:ai:=(afQ N).put 212 afR (VQ N)
def amy:az bE (afS N):=(amx N).pu (as4 N) (amx N).o.l.l (funext λ⟨a,b,c,d,e,f,g,h⟩=>by rw[VQ,bp3 N N,bp4 N N];kernel_rfl)
def afT:bH:=⟨[.agg (cv bp)],[tmf [.bool]],0,[(0,1,30,.bool)],[],[],[]⟩
def VS:ai:=(afS N).on afT
def a15:aX:=tm [(1,.P 0 1 0),(3,.D .I),(5,.I)] [] [(0,1,.box 0 (cv bp))] 1 [] 1
def a16:aW:=[tmr [(2,.Q)],(.exit 0,tm [(1,.P 0 1 0)] [] [(0,1,.box 0 (cv bp))] 1 [] 1)]
def aA3(N:Nat):Nat->tmI×Int×dz->Option (Bool⊕dz)|0,_=>none|k+1,(a,b,c,d,e)=>cond (b<a.length) ((idx a b).bind λf=>cond (f>256) (some (Sum.inl false)) (aA3 N k (a,(au (b+1)),c,d,e))) (some (Sum.inr (c,d,e)))
def bp5:∀k,aA3 N k=tmq (VS N) 7 171 a15 a16 k:=lpI (λ_=>rfl) λk=>by kernel_rfl
def VT:ai:=(VS N).aa N 0 7 a15 a16
def a17:aX:=tm [(1,.P 0 1 0),(6,.I)] [] [(0,1,.box 0 (cv bp))] 1 [] 1
def a18:aW:=[tmr [(2,.Q)],(.exit 2,tm [(1,.P 0 1 0)] [] [(0,1,.box 0 (cv bp))] 1 [] 1)]
def aA4(N:Nat):Nat->Int×dz->Option (Bool⊕dz)|0,_=>none|k+1,(b,c,a,d)=>cond (b<a.length) ((idx a b).bind λe=>cond ((e.length:Int)>64) (some (Sum.inl false)) (aA4 N k ((au (b+1)),c,a,d))) (some (Sum.inr (c,a,d)))
def bp6:∀k,aA4 N k=tmq (VT N) 17 171 a17 a18 k:=lpI (λ_=>rfl) λk=>by kernel_rfl
def VU:ai:=(VT N).aa N 0 17 a17 a18
def a19:aX:=tm [(1,.P 0 1 0),(7,.I),(8,.I)] [] [(0,1,.box 0 (cv bp))] 1 [] 1
def a20:aW:=[tmr [(2,.Q)],(.exit 6,tm [(1,.P 0 1 0),(7,.I)] [] [(0,1,.box 0 (cv bp))] 1 [] 1)]
def aA5(N:Nat):Nat->Int×Int×dz->Option (Bool⊕(Int×dz))|0,_=>none|k+1,(a,c,d,e,b)=>cond (c<a) ((idx b c).bind λf=>(idx b a).bind λg=>cond (f.1==g.1) (some (Sum.inl false)) (aA5 N k (a,(au (c+1)),d,e,b))) (some (Sum.inr (a,d,e,b)))
def bp7:∀k,aA5 N k=tmq (VU N) 36 171 a19 a20 k:=lpI (λ_=>rfl) λk=>by kernel_rfl
def VV:ai:=(VU N).aa N 0 36 a19 a20
def a21:aX:=tm [(1,.P 0 1 0),(7,.I)] [] [(0,1,.box 0 (cv bp))] 1 [] 1
def a23:aW:=[tmr [(2,.Q)],(.exit 4,tmz)]
def as9:Nat->Int×dz->Option (Bool⊕Unit)|0,_=>none|k+1,(c,e,f,d)=>cond (c<d.length) ((idx d c).bind λa=>(VQ N (e,a.1,a.2.1,a.2.2.1,a.2.2.2.1,a.2.2.2.2.1,a.2.2.2.2.2.1,a.2.2.2.2.2.2)).bind λg=>cond (!g) (some (Sum.inl false)) ((aA5 N N (c,0,e,f,d)).bind λh=>match h with|.inl i=>some (Sum.inl i)|.inr b=>as9 k ((au (b.1+1)),b.2.1,b.2.2.1,b.2.2.2))) (some (Sum.inr ()))
def a24:∀k,as9 N k=tmq (VV N) 27 171 a21 a23 k|0=>rfl|k+1=>funext λ⟨a,b,c,d⟩=>by rw[as9,a24 k,bp7 N N];kernel_rfl
def as5:ai:=(VV N).aa N 0 27 a21 a23
def VW:dz->Option Bool|(a,e,b)=>((QT N a).bind λf=>cond (f !=0) (some true) (cond ((e.length:Int)>32) (some true) (cond ((b.length:Int)<1) (some true) (some (decide ((b.length:Int)>32)))))).bind λg=>cond g false ((ET N a).bind λh=>(aA3 N N (h.1,0,a,e,b)).bind λi=>match i with|.inl j=>j|.inr c=>(aA4 N N (0,c.1,c.2.1,c.2.2)).bind λl=>match l with|.inl m=>m|.inr d=>(as9 N N (0,d.1,d.2.1,d.2.2)).bind λn=>match n with|.inl o=>o|.inr p=>true)
def afU:ai:=(afS N).put 171 afT (VW N)
def amz:az bE (afU N):=(amy N).pu (as5 N) (amy N).o.l.l.l.l (funext λ⟨a,b,c⟩=>by rw[VW,bp5 N N,bp6 N N,a24 N N];kernel_rfl)
def afV:bH:=⟨[.U],[tmf [.D .B]],1,[],[],[(0,2,.B),(0,3,.B),(0,11,.B),(0,18,.B)],[]⟩
def VX:ai:=(afU N).on afV
def a25:aX:=tm [(0,.U),(3,.R 0 3 0 .B)] [] [(0,3,.row 0 .B)] 1 [] 1
def a26:aW:=[(.exit 0,tm [(0,.U),(3,.R 0 3 0 .B)] [] [(0,3,.row 0 .B)] 1 [] 1)]
def aA6(N:Nat):Nat->Int×tmI->Option (Int×tmI)|0,_=>none|k+1,(a,b)=>cond (a>=128) (aH (room (b.length+1) 1) (aA6 N k ((aK (Int.tdiv a 128)),(b++[(Sb ((Sb (Int.tmod a 128))+128))])))) (a,b)
def bp8:∀k,aA6 N k=tmq (VX N) 3 216 a25 a26 k:=lpI (λ_=>rfl) λk=>by kernel_rfl
def as6:ai:=(VX N).aa N 0 3 a25 a26
def iY:Int->Option tmI|b=>(aA6 N N (b,([]:tmI))).bind λa=>aH (room (a.2.length+1) 1) (some (a.2++[(Sb a.1)]))
def amA:ai:=(afU N).put 216 afV (iY N)
def amB:az bE (amA N):=(amz N).pu (as6 N) (amz N).o.l (funext λa=>by rw[iY,bp8 N N];kernel_rfl)
def amC:bH:=⟨[.I],[tmf [.D .B]],1,[],[],[(0,2,.B)],[]⟩
def wB:Int->Option tmI|a=>(iY N (aK a)).bind λb=>b
def amD:ai:=(amA N).put 213 amC (wB N)
def amE:az bE (amD N):=(amB N).pl (by kernel_rfl)
def amF:bH:=sg [.T] [tmf [.D .B]]
def Nd:List UInt8->Option tmI|a=>(iY N (aK (a.length:Int))).bind λb=>aH (room (b.length+(bP a).length) 1) (some (b++(bP a)))
def afW:ai:=(amD N).put 215 amF (Nd N)
def amG:az bE (afW N):=(amE N).pl (by kernel_rfl)
def afX:bH:=sg [.c (.sl cS .aY)] [tmf [.D .B]]
def VY:ai:=(afW N).on afX
def a27:aX:=tm [(0,.c (.sl cS .aY)),(3,.R 0 7 0 .B),(4,.I)] [] [(0,7,.row 0 .B)] 1 [] 1
def a29:aW:=[(.exit 0,tm [(3,.R 0 7 0 .B)] [] [(0,7,.row 0 .B)] 1 [] 1)]
def aA7:Nat->List Field×Int×tmI->Option tmI|0,_=>none|k+1,(a,b,c)=>cond (b<a.length) ((idx a b).bind λf=>(Nd N f.1).bind λd=>aH (room (c.length+d.length) 1) ((idx a b).bind λg=>(wB N g.2).bind λe=>aH (room ((c++d).length+e.length) 1) (aA7 k (a,(au (b+1)),((c++d)++e))))) c
def bp9:∀k,aA7 N k=tmq (VY N) 4 214 a27 a29 k:=lpI (λ_=>rfl) λk=>by kernel_rfl
def as7:ai:=(VY N).aa N 0 4 a27 a29
def QW:List Field->Option tmI|a=>(wB N (a.length:Int)).bind λb=>(aA7 N N (a,0,b)).bind λc=>c
def amH:ai:=(afW N).put 214 afX (QW N)
def amI:az bE (amH N):=(amG N).pu (as7 N) (amG N).o.l (funext λa=>by rw[QW,bp9 N N];kernel_rfl)
def amJ:bH:=sg [.I] [tmf [.U]]
def sn(N:Nat):Int->Option Int|a=>cond (a>=0) (some (aK ((aK a)*2))) (some (aK ((aK ((aK (au (0-(au (a+1)))))*2))+1)))
def amK:ai:=(amH N).put 217 amJ (sn N)
def amL:az bE (amK N):=(amI N).pl (by kernel_rfl)
def amM:bH:=⟨[.B],[tmf [.bool]],0,[(0,1,2,.bool)],[],[],[]⟩
def vh(N:Nat):Int->Option Bool|a=>(cond (a==110) (some true) (cond (a==103) (some true) (some (a==101)))).bind λb=>b
def amN:ai:=(amK N).put 253 amM (vh N)
def amO:az bE (amN N):=(amL N).pl (by kernel_rfl)
def amP:bH:=⟨[.agg (bq bt)],[tmf [.D .B]],0,[],[(0,5),(0,100005)],[(0,9,.B)],[]⟩
def VZ:iF->Option tmI|(a,E,G,H)=>(Ie N a).bind λb=>(KG N (a,E,G,H)).bind λc=>(idx b 0).bind λc2=>cond ((c2.toNat:Int)==45) ((idx b 1).bind λc3=>cond ((c3.toNat:Int)==45) ((idx b 2).bind λc4=>cond ((c4.toNat:Int)==45) (some [a]) ((idx b 2).bind λc5=>(vh N (c5.toNat:Int)).bind λI=>cond I ((sn N c.2.2).bind λJ=>(iY N J).bind λm=>aH (room (1+m.length) 1) (some ([a]++m))) ((iY N (aK c.2.2)).bind λn=>aH (room (1+n.length) 1) (some ([a]++n))))) ((idx b 1).bind λc10=>(vh N (c10.toNat:Int)).bind λK=>cond K ((sn N c.2.1).bind λL=>(iY N L).bind λf=>aH (room (1+f.length) 1) ((idx b 2).bind λc14=>cond ((c14.toNat:Int)==45) (some ([a]++f)) ((idx b 2).bind λc15=>(vh N (c15.toNat:Int)).bind λM=>cond M ((sn N c.2.2).bind λO=>(iY N O).bind λo=>aH (room (([a]++f).length+o.length) 1) (some (([a]++f)++o))) ((iY N (aK c.2.2)).bind λp=>aH (room (([a]++f).length+p.length) 1) (some (([a]++f)++p)))))) ((iY N (aK c.2.1)).bind λg=>aH (room (1+g.length) 1) ((idx b 2).bind λc21=>cond ((c21.toNat:Int)==45) (some ([a]++g)) ((idx b 2).bind λc22=>(vh N (c22.toNat:Int)).bind λP=>cond P ((sn N c.2.2).bind λQ=>(iY N Q).bind λq=>aH (room (([a]++g).length+q.length) 1) (some (([a]++g)++q))) ((iY N (aK c.2.2)).bind λr=>aH (room (([a]++g).length+r.length) 1) (some (([a]++g)++r)))))))) ((idx b 0).bind λc27=>(vh N (c27.toNat:Int)).bind λR=>cond R ((sn N c.1).bind λS=>(iY N S).bind λd=>aH (room (1+d.length) 1) ((idx b 1).bind λc31=>cond ((c31.toNat:Int)==45) ((idx b 2).bind λc32=>cond ((c32.toNat:Int)==45) (some ([a]++d)) ((idx b 2).bind λc33=>(vh N (c33.toNat:Int)).bind λT=>cond T ((sn N c.2.2).bind λU=>(iY N U).bind λs=>aH (room (([a]++d).length+s.length) 1) (some (([a]++d)++s))) ((iY N (aK c.2.2)).bind λt=>aH (room (([a]++d).length+t.length) 1) (some (([a]++d)++t))))) ((idx b 1).bind λc38=>(vh N (c38.toNat:Int)).bind λV=>cond V ((sn N c.2.1).bind λW=>(iY N W).bind λh=>aH (room (([a]++d).length+h.length) 1) ((idx b 2).bind λc42=>cond ((c42.toNat:Int)==45) (some (([a]++d)++h)) ((idx b 2).bind λc43=>(vh N (c43.toNat:Int)).bind λX=>cond X ((sn N c.2.2).bind λY=>(iY N Y).bind λu=>aH (room ((([a]++d)++h).length+u.length) 1) (some ((([a]++d)++h)++u))) ((iY N (aK c.2.2)).bind λv=>aH (room ((([a]++d)++h).length+v.length) 1) (some ((([a]++d)++h)++v)))))) ((iY N (aK c.2.1)).bind λi=>aH (room (([a]++d).length+i.length) 1) ((idx b 2).bind λc49=>cond ((c49.toNat:Int)==45) (some (([a]++d)++i)) ((idx b 2).bind λc50=>(vh N (c50.toNat:Int)).bind λZ=>cond Z ((sn N c.2.2).bind λa0=>(iY N a0).bind λw=>aH (room ((([a]++d)++i).length+w.length) 1) (some ((([a]++d)++i)++w))) ((iY N (aK c.2.2)).bind λx=>aH (room ((([a]++d)++i).length+x.length) 1) (some ((([a]++d)++i)++x))))))))) ((iY N (aK c.1)).bind λe=>aH (room (1+e.length) 1) ((idx b 1).bind λc56=>cond ((c56.toNat:Int)==45) ((idx b 2).bind λc57=>cond ((c57.toNat:Int)==45) (some ([a]++e)) ((idx b 2).bind λc58=>(vh N (c58.toNat:Int)).bind λa1=>cond a1 ((sn N c.2.2).bind λa2=>(iY N a2).bind λy=>aH (room (([a]++e).length+y.length) 1) (some (([a]++e)++y))) ((iY N (aK c.2.2)).bind λz=>aH (room (([a]++e).length+z.length) 1) (some (([a]++e)++z))))) ((idx b 1).bind λc63=>(vh N (c63.toNat:Int)).bind λa3=>cond a3 ((sn N c.2.1).bind λa4=>(iY N a4).bind λj=>aH (room (([a]++e).length+j.length) 1) ((idx b 2).bind λc67=>cond ((c67.toNat:Int)==45) (some (([a]++e)++j)) ((idx b 2).bind λc68=>(vh N (c68.toNat:Int)).bind λa5=>cond a5 ((sn N c.2.2).bind λa6=>(iY N a6).bind λA=>aH (room ((([a]++e)++j).length+A.length) 1) (some ((([a]++e)++j)++A))) ((iY N (aK c.2.2)).bind λB=>aH (room ((([a]++e)++j).length+B.length) 1) (some ((([a]++e)++j)++B)))))) ((iY N (aK c.2.1)).bind λl=>aH (room (([a]++e).length+l.length) 1) ((idx b 2).bind λc74=>cond ((c74.toNat:Int)==45) (some (([a]++e)++l)) ((idx b 2).bind λc75=>(vh N (c75.toNat:Int)).bind λa7=>cond a7 ((sn N c.2.2).bind λa8=>(iY N a8).bind λC=>aH (room ((([a]++e)++l).length+C.length) 1) (some ((([a]++e)++l)++C))) ((iY N (aK c.2.2)).bind λD=>aH (room ((([a]++e)++l).length+D.length) 1) (some ((([a]++e)++l)++D))))))))))
def afY:ai:=(amN N).put 218 amP (VZ N)
def amQ:az bE (afY N):=(amO N).pl (by kernel_rfl)
def afZ:bH:=sg [.c (.sl iE .aY)] [tmf [.D .B]]
def V0:ai:=(afY N).on afZ
def a30:aX:=tm [(0,.c (.sl iE .aY)),(3,.R 0 9 0 .B),(4,.I),(5,.I)] [] [(0,9,.row 0 .B)] 1 [] 1
def a31:aW:=[(.exit 0,tm [(3,.R 0 9 0 .B)] [] [(0,9,.row 0 .B)] 1 [] 1)]
def aA8:Nat->List e8×Int×Int×tmI->Option tmI|0,_=>none|k+1,(a,f,b,c)=>cond (b<a.length) ((idx a b).bind λg=>(iY N (aK (au (g.1-f)))).bind λd=>aH (room (c.length+d.length) 1) ((idx a b).bind λh=>(iY N h.2).bind λe=>aH (room ((c++d).length+e.length) 1) ((idx a b).bind λi=>aA8 k (a,i.1,(au (b+1)),((c++d)++e))))) c
def bq0:∀k,aA8 N k=tmq (V0 N) 5 219 a30 a31 k:=lpI (λ_=>rfl) λk=>by kernel_rfl
def atl:ai:=(V0 N).aa N 0 5 a30 a31
def QX:List e8->Option tmI|a=>(iY N (aK (a.length:Int))).bind λb=>(aA8 N N (a,0,0,b)).bind λc=>c
def af0:ai:=(afY N).put 219 afZ (QX N)
def amR:az bE (af0 N):=(amQ N).pu (atl N) (amQ N).o.l (funext λa=>by rw[QX,bq0 N N];kernel_rfl)
def af1:bH:=⟨[.agg (cv bp)],[tmf [.D .B]],0,[(0,13,33,.bool)],[],[(0,29,.B)],[]⟩
def V3:ai:=(af0 N).on af1
def a32:aX:=tm [(1,.P 0 1 0),(3,.R 0 13 1 .B),(4,.I)] [] [(0,1,.box 0 (cv bp)),(0,13,.row 1 .B)] 1 [] 2
def a33:aW:=[(.exit 0,tm [(1,.P 0 1 0),(3,.R 0 13 1 .B)] [] [(0,1,.box 0 (cv bp)),(0,13,.row 1 .B)] 1 [] 2)]
def IO:Nat->Int×bU tmI->Option (bU tmI)|0,_=>none|k+1,(d,c,e,f,b)=>cond (d<c.length) ((idx c d).bind λa=>aH (room (b.length+1) 1) ((cond (a.1==4) (some true) (some (a.1==7))).bind λl=>cond l ((wB N a.2.1).bind λh=>aH (room ((b++[a.1]).length+h.length) 1) (IO k ((au (d+1)),c,e,f,((b++[a.1])++h)))) (cond (a.1==6) ((wB N a.2.1).bind λg=>aH (room ((b++[a.1]).length+g.length) 1) ((wB N a.2.2.1).bind λi=>aH (room (((b++[a.1])++g).length+i.length) 1) (IO k ((au (d+1)),c,e,f,(((b++[a.1])++g)++i))))) (cond (a.1==5) ((QW N a.2.2.2).bind λj=>aH (room ((b++[a.1]).length+j.length) 1) (IO k ((au (d+1)),c,e,f,((b++[a.1])++j)))) (IO k ((au (d+1)),c,e,f,(b++[a.1]))))))) (c,e,f,b)
def bq1:∀k,IO N k=tmq (V3 N) 4 172 a32 a33 k:=lpI (λ_=>rfl) λk=>by kernel_rfl
def V4:ai:=(V3 N).aa N 0 4 a32 a33
def a34:aX:=tm [(1,.P 0 1 0),(3,.R 0 13 1 .B),(6,.I)] [] [(0,1,.box 0 (cv bp)),(0,13,.row 1 .B)] 1 [] 2
def a35:aW:=[(.exit 3,tm [(1,.P 0 1 0),(3,.R 0 13 1 .B)] [] [(0,1,.box 0 (cv bp)),(0,13,.row 1 .B)] 1 [] 2)]
def au1:Nat->Int×bU tmI->Option (bU tmI)|0,_=>none|k+1,(b,d,a,e,c)=>cond (b<a.length) ((idx a b).bind λg=>(Nd N g).bind λf=>aH (room (c.length+f.length) 1) (au1 k ((au (b+1)),d,a,e,(c++f)))) (d,a,e,c)
def bq2:∀k,au1 N k=tmq (V4 N) 27 172 a34 a35 k:=lpI (λ_=>rfl) λk=>by kernel_rfl
def V5:ai:=(V4 N).aa N 0 27 a34 a35
def a36:aX:=tm [(1,.P 0 1 0),(3,.R 0 13 1 .B),(7,.I),(8,.P 0 8 2),(9,.I)] [] [(0,1,.box 0 (cv bp)),(0,13,.row 1 .B),(0,8,.box 2 (bq dV))] 1 [] 3
def a37:aW:=[(.exit 7,tm [(1,.P 0 1 0),(3,.R 0 13 1 .B),(7,.I),(8,.P 0 8 2)] [] [(0,1,.box 0 (cv bp)),(0,13,.row 1 .B),(0,8,.box 2 (bq dV))] 1 [] 3)]
def au4:Nat->Int×Int×bU (tmI×iw)->Option (Int×bU (tmI×iw))|0,_=>none|k+1,(e,c,f,g,h,d,i,j,l,m,a,n,o)=>cond (c<a.length) ((idx a c).bind λb=>(VZ N (b.1,b.2.1,b.2.2.1,b.2.2.2)).bind λp=>aH (room (d.length+p.length) 1) (au4 k (e,(au (c+1)),f,g,h,(d++p),i,j,l,m,a,n,o))) (e,f,g,h,d,i,j,l,m,a,n,o)
def bq3:∀k,au4 N k=tmq (V5 N) 46 172 a36 a37 k:=lpI (λ_=>rfl) λk=>by kernel_rfl
def V6:ai:=(V5 N).aa N 0 46 a36 a37
def a38:aX:=tm [(1,.P 0 1 0),(3,.R 0 13 1 .B),(7,.I)] [] [(0,1,.box 0 (cv bp)),(0,13,.row 1 .B)] 1 [] 2
def a39:aW:=[(.exit 5,tm [(3,.R 0 13 0 .B)] [] [(0,13,.row 0 .B)] 1 [] 1)]
def ad5:Nat->Int×bU tmI->Option tmI|0,_=>none|k+1,(g,n,o,h,c)=>cond (g<h.length) ((idx h g).bind λa=>(Nd N a.1).bind λd=>aH (room (c.length+d.length) 1) ((wB N a.2.1).bind λe=>aH (room ((c++d).length+e.length) 1) ((sn N a.2.2.1).bind λp=>(iY N p).bind λf=>aH (room (((c++d)++e).length+f.length) 1) ((QW N a.2.2.2.1).bind λi=>aH (room ((((c++d)++e)++f).length+i.length) 1) ((wB N (a.2.2.2.2.1.length:Int)).bind λl=>aH (room (((((c++d)++e)++f)++i).length+l.length) 1) ((au4 N N (g,0,n,o,h,(((((c++d)++e)++f)++i)++l),a.1,a.2.1,a.2.2.1,a.2.2.2.1,a.2.2.2.2.1,a.2.2.2.2.2.1,a.2.2.2.2.2.2)).bind λb=>(QX N b.2.2.2.2.2.2.2.2.2.2.1).bind λj=>aH (room (b.2.2.2.2.1.length+j.length) 1) ((QX N b.2.2.2.2.2.2.2.2.2.2.2).bind λm=>aH (room ((b.2.2.2.2.1++j).length+m.length) 1) (ad5 k ((au (b.1+1)),b.2.1,b.2.2.1,b.2.2.2.1,((b.2.2.2.2.1++j)++m)))))))))) c
def a40:∀k,ad5 N k=tmq (V6 N) 36 172 a38 a39 k|0=>rfl|k+1=>funext λ⟨a,b,c,d,e⟩=>by rw[ad5,a40 k,bq3 N N];kernel_rfl
def atm:ai:=(V6 N).aa N 0 36 a38 a39
def V7:dz->Option tmI|(c,f,g)=>(wB N (c.length:Int)).bind λh=>(IO N N (0,c,f,g,h)).bind λa=>(wB N (a.2.1.length:Int)).bind λd=>aH (room (a.2.2.2.length+d.length) 1) ((au1 N N (0,a.1,a.2.1,a.2.2.1,(a.2.2.2++d))).bind λb=>(wB N (b.2.2.1.length:Int)).bind λe=>aH (room (b.2.2.2.length+e.length) 1) ((ad5 N N (0,b.1,b.2.1,b.2.2.1,(b.2.2.2++e))).bind λi=>i))
def amS:ai:=(af0 N).put 172 af1 (V7 N)
def amT:az bE (amS N):=(amR N).pu (atm N) (amR N).o.l.l.l.l (funext λ⟨a,b,c⟩=>by rw[V7,bq1 N N,bq2 N N,a40 N N];kernel_rfl)
def amU:bH:=sg [.agg (cv bp)] [tmf [.I]]
def V8:dz->Option Int|(a,b,c)=>(VW N (a,b,c)).bind λd=>cond (!d) (some 8) ((V7 N (a,b,c)).bind λe=>cond ((e.length:Int)>20000) (some 4) (some 0))
def af2:ai:=(amS N).put 131 amU (V8 N)
def amV:az bE (af2 N):=(amT N).pl (by kernel_rfl)
def af3:bH:=⟨[.c (.sl bt .aY)],[tmf [.I]],0,[(0,1,12,.bool),(0,11,49,.bool)],[],[],[]⟩
def V9:ai:=(af2 N).on af3
def a41:aX:=tmn [(0,.c (.sl bt .aY)),(3,.I)]
def a42:aW:=[tmr [(2,.I)],(.exit 0,tmn [(0,.c (.sl bt .aY))])]
def aA9:Nat->List Instr×Int->Option (Int⊕(List Instr))|0,_=>none|k+1,(b,c)=>cond (c<b.length) ((idx b c).bind λa=>((QU N (a.1,a.2.1,a.2.2.1,a.2.2.2)).bind λd=>cond (d !=0) (some true) (cond (a.1==22) (cond (a.2.1>=b.length) (some true) (cond (a.1==23) (some (decide (a.2.2.1>=b.length))) (some false))) (cond (a.1==23) (some (decide (a.2.2.1>=b.length))) (some false)))).bind λe=>cond e (some (Sum.inl 8)) (aA9 k (b,(au (c+1))))) (some (Sum.inr b))
def bq4:∀k,aA9 N k=tmq (V9 N) 6 220 a41 a42 k:=lpI (λ_=>rfl) λk=>by kernel_rfl
def atn:ai:=(V9 N).aa N 0 6 a41 a42
def Wa:List Instr->Option Int|b=>(cond ((b.length:Int)<1) (some true) (some (decide ((b.length:Int)>200)))).bind λd=>cond d (some 8) ((aA9 N N (b,0)).bind λe=>match e with|.inl f=>f|.inr c=>(idx c (au ((c.length:Int)-1))).bind λa=>cond (!(a.1==34&&(a.2.1==(-1)&&(a.2.2.1==0&&(a.2.2.2==0&&true))))) (some 8) (some 0))
def amW:ai:=(af2 N).put 220 af3 (Wa N)
def amX:az bE (amW N):=(amV N).pu (atn N) (amV N).o.l (funext λa=>by rw[Wa,bq4 N N];kernel_rfl)
def amY:bH:=⟨[.c (.sl bt .aY),.I],[tmf [.D .I]],0,[(0,7,12,.bool),(0,5,12,.bool)],[],[(0,20,.I),(0,30,.I),(0,41,.I),(0,44,.I)],[]⟩
def QY(N:Nat):List Instr×Int->Option tmI|(c,b)=>(idx c b).bind λa=>(cond (a.1==34) (some true) ((cond (a.1==28) (some true) (some (a.1==30))).bind λd=>some d)).bind λe=>cond e (some []) (cond (a.1==22) (some [a.2.1]) (cond (a.1==23) (cond (a.2.2.1==(au (b+1))) (some [(au (b+1))]) (some [(min (au (b+1)) a.2.2.1),(max (au (b+1)) a.2.2.1)])) (some [(au (b+1))])))
def af4:ai:=(amW N).put 254 amY (QY N)
def amZ:az bE (af4 N):=(amX N).pl (by kernel_rfl)
def af5:bH:=⟨[.c (.sl bt .aY)],[tmf [.D .bool]],0,[(0,20,32,.bool)],[],[(0,10,.bool)],[]⟩
def Wb:ai:=(af4 N).on af5
def a43:aX:=tm [(0,.c (.sl bt .aY)),(3,.R 0 10 0 .bool),(4,.Q),(5,.I),(6,.D .I),(7,.I)] [] [(0,10,.row 0 .bool)] 1 [] 1
def a44:aW:=[(.exit 4,tm [(0,.c (.sl bt .aY)),(3,.R 0 10 0 .bool),(4,.Q),(5,.I)] [] [(0,10,.row 0 .bool)] 1 [] 1)]
def Nm(N:Nat):Nat->List Instr×Bool×Int×tmI×Int×List Bool->Option (List Instr×Bool×Int×List Bool)|0,_=>none|k+1,(e,g,b,c,d,a)=>(cond (d<c.length) (aH (fM b a.length) ((a[b.toNat]?).bind λi=>some i)) (some false)).bind λj=>cond j ((idx c d).bind λh=>aH (fM h a.length) ((a[h.toNat]?).bind λl=>cond (!l) ((idx c d).bind λf=>aH (fM f a.length) ((a[f.toNat]?).bind λm=>Nm N k (e,true,b,c,(au (d+1)),(a.set f.toNat true)))) (Nm N k (e,g,b,c,(au (d+1)),a)))) (e,g,b,a)
def bq5:∀k,Nm N k=tmq (Wb N) 19 221 a43 a44 k:=lpI (λ_=>rfl) λk=>by kernel_rfl
def Wc:ai:=(Wb N).aa N 0 19 a43 a44
def a45:aX:=tm [(0,.c (.sl bt .aY)),(3,.R 0 10 0 .bool),(4,.Q),(5,.I)] [] [(0,10,.row 0 .bool)] 1 [] 1
def a47:aW:=[(.exit 2,tm [(0,.c (.sl bt .aY)),(3,.R 0 10 0 .bool),(4,.Q)] [] [(0,10,.row 0 .bool)] 1 [] 1)]
def ad9:Nat->List Instr×Bool×Int×List Bool->Option (List Instr×Bool×List Bool)|0,_=>none|k+1,(a,d,c,e)=>cond (c<a.length) ((QY N (a,c)).bind λf=>(Nm N N (a,d,c,f,0,e)).bind λb=>ad9 k (b.1,b.2.1,(au (b.2.2.1+1)),b.2.2.2)) (a,d,e)
def a48:∀k,ad9 N k=tmq (Wc N) 12 221 a45 a47 k|0=>rfl|k+1=>funext λ⟨a,b,c,d⟩=>by rw[ad9,a48 k,bq5 N N];kernel_rfl
def Wd:ai:=(Wc N).aa N 0 12 a45 a47
def a49:aX:=tm [(0,.c (.sl bt .aY)),(3,.R 0 10 0 .bool),(4,.Q)] [] [(0,10,.row 0 .bool)] 1 [] 1
def a50:aW:=[(.exit 0,tm [(3,.R 0 10 0 .bool)] [] [(0,10,.row 0 .bool)] 1 [] 1)]
def au5:Nat->List Instr×Bool×List Bool->Option (List Bool)|0,_=>none|k+1,(c,d,b)=>cond d ((ad9 N N (c,false,0,b)).bind λa=>au5 k (a.1,a.2.1,a.2.2)) b
def a52:∀k,au5 N k=tmq (Wd N) 5 221 a49 a50 k|0=>rfl|k+1=>funext λ⟨a,b,c⟩=>by rw[au5,a52 k,a48 N N];kernel_rfl
def ato:ai:=(Wd N).aa N 0 5 a49 a50
def QZ:List Instr->Option (List Bool)|a=>aH (decide (0<=(a.length:Int))) (aH (decide (0<=(a.length:Int))) (aH (decide ((Int.toNat (a.length:Int))<=(Int.toNat (a.length:Int)))&&room (Int.toNat (a.length:Int)) 1) (aH (fM 0 (List.replicate (Int.toNat (a.length:Int)) false).length) (((List.replicate (Int.toNat (a.length:Int)) false)[(Int.toNat 0)]?).bind λc=>(au5 N N (a,true,((List.replicate (Int.toNat (a.length:Int)) false).set (Int.toNat 0) true))).bind λb=>b))))
def am0:ai:=(af4 N).put 221 af5 (QZ N)
def am1:az bE (am0 N):=(amZ N).pu (ato N) (amZ N).o.l.l.l (funext λa=>by rw[QZ,a52 N N];kernel_rfl)
def am2:bH:=⟨[.agg (bq bt)],[tmf [.D .I],tmf [.D .I]],0,[(0,9,33,.bool),(0,12,55,.bool),(0,100009,33,.bool),(0,100012,55,.bool)],[(0,5),(0,100005)],[(0,38,.I),(0,60,.I)],[]⟩
def Nf:iF->Option (tmI×tmI)|(c,d,e,f)=>(Ie N c).bind λb=>(KG N (c,d,e,f)).bind λa=>((idx b 0).bind λc2=>cond ((c2.toNat:Int)==114) (some (decide (a.1>=0))) ((idx b 0).bind λc3=>cond ((c3.toNat:Int)==101) (some (decide (a.1>=0))) (some false))).bind λg=>cond g (aH (room 1 8) (((idx b 0).bind λc5=>cond ((c5.toNat:Int)==119) (some (decide (a.1>=0))) ((idx b 0).bind λc6=>cond ((c6.toNat:Int)==103) (some (decide (a.1>=0))) (some false))).bind λh=>cond h (aH (room 1 8) (((idx b 1).bind λc8=>cond ((c8.toNat:Int)==114) (some (decide (a.2.1>=0))) ((idx b 1).bind λc9=>cond ((c9.toNat:Int)==101) (some (decide (a.2.1>=0))) (some false))).bind λi=>cond i (aH (room (1+1) 8) (((idx b 1).bind λc11=>cond ((c11.toNat:Int)==119) (some (decide (a.2.1>=0))) ((idx b 1).bind λc12=>cond ((c12.toNat:Int)==103) (some (decide (a.2.1>=0))) (some false))).bind λj=>cond j (aH (room (1+1) 8) (((idx b 2).bind λc14=>cond ((c14.toNat:Int)==114) (some (decide (a.2.2>=0))) ((idx b 2).bind λc15=>cond ((c15.toNat:Int)==101) (some (decide (a.2.2>=0))) (some false))).bind λl=>cond l (aH (room (2+1) 8) (((idx b 2).bind λc17=>cond ((c17.toNat:Int)==119) (some (decide (a.2.2>=0))) ((idx b 2).bind λc18=>cond ((c18.toNat:Int)==103) (some (decide (a.2.2>=0))) (some false))).bind λm=>cond m (aH (room (2+1) 8) (some ((([a.1]++[a.2.1])++[a.2.2]),(([a.1]++[a.2.1])++[a.2.2])))) (some ((([a.1]++[a.2.1])++[a.2.2]),([a.1]++[a.2.1]))))) (((idx b 2).bind λc20=>cond ((c20.toNat:Int)==119) (some (decide (a.2.2>=0))) ((idx b 2).bind λc21=>cond ((c21.toNat:Int)==103) (some (decide (a.2.2>=0))) (some false))).bind λn=>cond n (aH (room (2+1) 8) (some (([a.1]++[a.2.1]),(([a.1]++[a.2.1])++[a.2.2])))) (some (([a.1]++[a.2.1]),([a.1]++[a.2.1])))))) (((idx b 2).bind λc23=>cond ((c23.toNat:Int)==114) (some (decide (a.2.2>=0))) ((idx b 2).bind λc24=>cond ((c24.toNat:Int)==101) (some (decide (a.2.2>=0))) (some false))).bind λo=>cond o (aH (room (2+1) 8) (((idx b 2).bind λc26=>cond ((c26.toNat:Int)==119) (some (decide (a.2.2>=0))) ((idx b 2).bind λc27=>cond ((c27.toNat:Int)==103) (some (decide (a.2.2>=0))) (some false))).bind λp=>cond p (aH (room (1+1) 8) (some ((([a.1]++[a.2.1])++[a.2.2]),([a.1]++[a.2.2])))) (some ((([a.1]++[a.2.1])++[a.2.2]),[a.1])))) (((idx b 2).bind λc29=>cond ((c29.toNat:Int)==119) (some (decide (a.2.2>=0))) ((idx b 2).bind λc30=>cond ((c30.toNat:Int)==103) (some (decide (a.2.2>=0))) (some false))).bind λq=>cond q (aH (room (1+1) 8) (some (([a.1]++[a.2.1]),([a.1]++[a.2.2])))) (some (([a.1]++[a.2.1]),[a.1])))))) (((idx b 1).bind λc32=>cond ((c32.toNat:Int)==119) (some (decide (a.2.1>=0))) ((idx b 1).bind λc33=>cond ((c33.toNat:Int)==103) (some (decide (a.2.1>=0))) (some false))).bind λr=>cond r (aH (room (1+1) 8) (((idx b 2).bind λc35=>cond ((c35.toNat:Int)==114) (some (decide (a.2.2>=0))) ((idx b 2).bind λc36=>cond ((c36.toNat:Int)==101) (some (decide (a.2.2>=0))) (some false))).bind λs=>cond s (aH (room (1+1) 8) (((idx b 2).bind λc38=>cond ((c38.toNat:Int)==119) (some (decide (a.2.2>=0))) ((idx b 2).bind λc39=>cond ((c39.toNat:Int)==103) (some (decide (a.2.2>=0))) (some false))).bind λt=>cond t (aH (room (2+1) 8) (some (([a.1]++[a.2.2]),(([a.1]++[a.2.1])++[a.2.2])))) (some (([a.1]++[a.2.2]),([a.1]++[a.2.1]))))) (((idx b 2).bind λc41=>cond ((c41.toNat:Int)==119) (some (decide (a.2.2>=0))) ((idx b 2).bind λc42=>cond ((c42.toNat:Int)==103) (some (decide (a.2.2>=0))) (some false))).bind λu=>cond u (aH (room (2+1) 8) (some ([a.1],(([a.1]++[a.2.1])++[a.2.2])))) (some ([a.1],([a.1]++[a.2.1])))))) (((idx b 2).bind λc44=>cond ((c44.toNat:Int)==114) (some (decide (a.2.2>=0))) ((idx b 2).bind λc45=>cond ((c45.toNat:Int)==101) (some (decide (a.2.2>=0))) (some false))).bind λv=>cond v (aH (room (1+1) 8) (((idx b 2).bind λc47=>cond ((c47.toNat:Int)==119) (some (decide (a.2.2>=0))) ((idx b 2).bind λc48=>cond ((c48.toNat:Int)==103) (some (decide (a.2.2>=0))) (some false))).bind λw=>cond w (aH (room (1+1) 8) (some (([a.1]++[a.2.2]),([a.1]++[a.2.2])))) (some (([a.1]++[a.2.2]),[a.1])))) (((idx b 2).bind λc50=>cond ((c50.toNat:Int)==119) (some (decide (a.2.2>=0))) ((idx b 2).bind λc51=>cond ((c51.toNat:Int)==103) (some (decide (a.2.2>=0))) (some false))).bind λx=>cond x (aH (room (1+1) 8) (some ([a.1],([a.1]++[a.2.2])))) (some ([a.1],[a.1]))))))) (((idx b 1).bind λc53=>cond ((c53.toNat:Int)==114) (some (decide (a.2.1>=0))) ((idx b 1).bind λc54=>cond ((c54.toNat:Int)==101) (some (decide (a.2.1>=0))) (some false))).bind λy=>cond y (aH (room (1+1) 8) (((idx b 1).bind λc56=>cond ((c56.toNat:Int)==119) (some (decide (a.2.1>=0))) ((idx b 1).bind λc57=>cond ((c57.toNat:Int)==103) (some (decide (a.2.1>=0))) (some false))).bind λz=>cond z (aH (room 1 8) (((idx b 2).bind λc59=>cond ((c59.toNat:Int)==114) (some (decide (a.2.2>=0))) ((idx b 2).bind λc60=>cond ((c60.toNat:Int)==101) (some (decide (a.2.2>=0))) (some false))).bind λA=>cond A (aH (room (2+1) 8) (((idx b 2).bind λc62=>cond ((c62.toNat:Int)==119) (some (decide (a.2.2>=0))) ((idx b 2).bind λc63=>cond ((c63.toNat:Int)==103) (some (decide (a.2.2>=0))) (some false))).bind λB=>cond B (aH (room (1+1) 8) (some ((([a.1]++[a.2.1])++[a.2.2]),([a.2.1]++[a.2.2])))) (some ((([a.1]++[a.2.1])++[a.2.2]),[a.2.1])))) (((idx b 2).bind λc65=>cond ((c65.toNat:Int)==119) (some (decide (a.2.2>=0))) ((idx b 2).bind λc66=>cond ((c66.toNat:Int)==103) (some (decide (a.2.2>=0))) (some false))).bind λC=>cond C (aH (room (1+1) 8) (some (([a.1]++[a.2.1]),([a.2.1]++[a.2.2])))) (some (([a.1]++[a.2.1]),[a.2.1]))))) (((idx b 2).bind λc68=>cond ((c68.toNat:Int)==114) (some (decide (a.2.2>=0))) ((idx b 2).bind λc69=>cond ((c69.toNat:Int)==101) (some (decide (a.2.2>=0))) (some false))).bind λD=>cond D (aH (room (2+1) 8) (((idx b 2).bind λc71=>cond ((c71.toNat:Int)==119) (some (decide (a.2.2>=0))) ((idx b 2).bind λc72=>cond ((c72.toNat:Int)==103) (some (decide (a.2.2>=0))) (some false))).bind λE=>cond E (aH (room 1 8) (some ((([a.1]++[a.2.1])++[a.2.2]),[a.2.2]))) (some ((([a.1]++[a.2.1])++[a.2.2]),[])))) (((idx b 2).bind λc74=>cond ((c74.toNat:Int)==119) (some (decide (a.2.2>=0))) ((idx b 2).bind λc75=>cond ((c75.toNat:Int)==103) (some (decide (a.2.2>=0))) (some false))).bind λG=>cond G (aH (room 1 8) (some (([a.1]++[a.2.1]),[a.2.2]))) (some (([a.1]++[a.2.1]),[])))))) (((idx b 1).bind λc77=>cond ((c77.toNat:Int)==119) (some (decide (a.2.1>=0))) ((idx b 1).bind λc78=>cond ((c78.toNat:Int)==103) (some (decide (a.2.1>=0))) (some false))).bind λH=>cond H (aH (room 1 8) (((idx b 2).bind λc80=>cond ((c80.toNat:Int)==114) (some (decide (a.2.2>=0))) ((idx b 2).bind λc81=>cond ((c81.toNat:Int)==101) (some (decide (a.2.2>=0))) (some false))).bind λI=>cond I (aH (room (1+1) 8) (((idx b 2).bind λc83=>cond ((c83.toNat:Int)==119) (some (decide (a.2.2>=0))) ((idx b 2).bind λc84=>cond ((c84.toNat:Int)==103) (some (decide (a.2.2>=0))) (some false))).bind λJ=>cond J (aH (room (1+1) 8) (some (([a.1]++[a.2.2]),([a.2.1]++[a.2.2])))) (some (([a.1]++[a.2.2]),[a.2.1])))) (((idx b 2).bind λc86=>cond ((c86.toNat:Int)==119) (some (decide (a.2.2>=0))) ((idx b 2).bind λc87=>cond ((c87.toNat:Int)==103) (some (decide (a.2.2>=0))) (some false))).bind λK=>cond K (aH (room (1+1) 8) (some ([a.1],([a.2.1]++[a.2.2])))) (some ([a.1],[a.2.1]))))) (((idx b 2).bind λc89=>cond ((c89.toNat:Int)==114) (some (decide (a.2.2>=0))) ((idx b 2).bind λc90=>cond ((c90.toNat:Int)==101) (some (decide (a.2.2>=0))) (some false))).bind λL=>cond L (aH (room (1+1) 8) (((idx b 2).bind λc92=>cond ((c92.toNat:Int)==119) (some (decide (a.2.2>=0))) ((idx b 2).bind λc93=>cond ((c93.toNat:Int)==103) (some (decide (a.2.2>=0))) (some false))).bind λM=>cond M (aH (room 1 8) (some (([a.1]++[a.2.2]),[a.2.2]))) (some (([a.1]++[a.2.2]),[])))) (((idx b 2).bind λc95=>cond ((c95.toNat:Int)==119) (some (decide (a.2.2>=0))) ((idx b 2).bind λc96=>cond ((c96.toNat:Int)==103) (some (decide (a.2.2>=0))) (some false))).bind λO=>cond O (aH (room 1 8) (some ([a.1],[a.2.2]))) (some ([a.1],[])))))))) (((idx b 0).bind λc98=>cond ((c98.toNat:Int)==119) (some (decide (a.1>=0))) ((idx b 0).bind λc99=>cond ((c99.toNat:Int)==103) (some (decide (a.1>=0))) (some false))).bind λP=>cond P (aH (room 1 8) (((idx b 1).bind λatp=>cond ((atp.toNat:Int)==114) (some (decide (a.2.1>=0))) ((idx b 1).bind λatq=>cond ((atq.toNat:Int)==101) (some (decide (a.2.1>=0))) (some false))).bind λQ=>cond Q (aH (room 1 8) (((idx b 1).bind λatr=>cond ((atr.toNat:Int)==119) (some (decide (a.2.1>=0))) ((idx b 1).bind λc105=>cond ((c105.toNat:Int)==103) (some (decide (a.2.1>=0))) (some false))).bind λR=>cond R (aH (room (1+1) 8) (((idx b 2).bind λc107=>cond ((c107.toNat:Int)==114) (some (decide (a.2.2>=0))) ((idx b 2).bind λatt=>cond ((att.toNat:Int)==101) (some (decide (a.2.2>=0))) (some false))).bind λS=>cond S (aH (room (1+1) 8) (((idx b 2).bind λatu=>cond ((atu.toNat:Int)==119) (some (decide (a.2.2>=0))) ((idx b 2).bind λatv=>cond ((atv.toNat:Int)==103) (some (decide (a.2.2>=0))) (some false))).bind λT=>cond T (aH (room (2+1) 8) (some (([a.2.1]++[a.2.2]),(([a.1]++[a.2.1])++[a.2.2])))) (some (([a.2.1]++[a.2.2]),([a.1]++[a.2.1]))))) (((idx b 2).bind λatw=>cond ((atw.toNat:Int)==119) (some (decide (a.2.2>=0))) ((idx b 2).bind λatx=>cond ((atx.toNat:Int)==103) (some (decide (a.2.2>=0))) (some false))).bind λU=>cond U (aH (room (2+1) 8) (some ([a.2.1],(([a.1]++[a.2.1])++[a.2.2])))) (some ([a.2.1],([a.1]++[a.2.1])))))) (((idx b 2).bind λc116=>cond ((c116.toNat:Int)==114) (some (decide (a.2.2>=0))) ((idx b 2).bind λc117=>cond ((c117.toNat:Int)==101) (some (decide (a.2.2>=0))) (some false))).bind λV=>cond V (aH (room (1+1) 8) (((idx b 2).bind λc119=>cond ((c119.toNat:Int)==119) (some (decide (a.2.2>=0))) ((idx b 2).bind λaty=>cond ((aty.toNat:Int)==103) (some (decide (a.2.2>=0))) (some false))).bind λW=>cond W (aH (room (1+1) 8) (some (([a.2.1]++[a.2.2]),([a.1]++[a.2.2])))) (some (([a.2.1]++[a.2.2]),[a.1])))) (((idx b 2).bind λatz=>cond ((atz.toNat:Int)==119) (some (decide (a.2.2>=0))) ((idx b 2).bind λatA=>cond ((atA.toNat:Int)==103) (some (decide (a.2.2>=0))) (some false))).bind λX=>cond X (aH (room (1+1) 8) (some ([a.2.1],([a.1]++[a.2.2])))) (some ([a.2.1],[a.1])))))) (((idx b 1).bind λatC=>cond ((atC.toNat:Int)==119) (some (decide (a.2.1>=0))) ((idx b 1).bind λatD=>cond ((atD.toNat:Int)==103) (some (decide (a.2.1>=0))) (some false))).bind λY=>cond Y (aH (room (1+1) 8) (((idx b 2).bind λatE=>cond ((atE.toNat:Int)==114) (some (decide (a.2.2>=0))) ((idx b 2).bind λatF=>cond ((atF.toNat:Int)==101) (some (decide (a.2.2>=0))) (some false))).bind λZ=>cond Z (aH (room 1 8) (((idx b 2).bind λc131=>cond ((c131.toNat:Int)==119) (some (decide (a.2.2>=0))) ((idx b 2).bind λatG=>cond ((atG.toNat:Int)==103) (some (decide (a.2.2>=0))) (some false))).bind λa0=>cond a0 (aH (room (2+1) 8) (some ([a.2.2],(([a.1]++[a.2.1])++[a.2.2])))) (some ([a.2.2],([a.1]++[a.2.1]))))) (((idx b 2).bind λatH=>cond ((atH.toNat:Int)==119) (some (decide (a.2.2>=0))) ((idx b 2).bind λatI=>cond ((atI.toNat:Int)==103) (some (decide (a.2.2>=0))) (some false))).bind λa1=>cond a1 (aH (room (2+1) 8) (some ([],(([a.1]++[a.2.1])++[a.2.2])))) (some ([],([a.1]++[a.2.1])))))) (((idx b 2).bind λatJ=>cond ((atJ.toNat:Int)==114) (some (decide (a.2.2>=0))) ((idx b 2).bind λc138=>cond ((c138.toNat:Int)==101) (some (decide (a.2.2>=0))) (some false))).bind λa2=>cond a2 (aH (room 1 8) (((idx b 2).bind λatK=>cond ((atK.toNat:Int)==119) (some (decide (a.2.2>=0))) ((idx b 2).bind λc141=>cond ((c141.toNat:Int)==103) (some (decide (a.2.2>=0))) (some false))).bind λa3=>cond a3 (aH (room (1+1) 8) (some ([a.2.2],([a.1]++[a.2.2])))) (some ([a.2.2],[a.1])))) (((idx b 2).bind λc143=>cond ((c143.toNat:Int)==119) (some (decide (a.2.2>=0))) ((idx b 2).bind λatL=>cond ((atL.toNat:Int)==103) (some (decide (a.2.2>=0))) (some false))).bind λa4=>cond a4 (aH (room (1+1) 8) (some ([],([a.1]++[a.2.2])))) (some ([],[a.1]))))))) (((idx b 1).bind λc146=>cond ((c146.toNat:Int)==114) (some (decide (a.2.1>=0))) ((idx b 1).bind λatM=>cond ((atM.toNat:Int)==101) (some (decide (a.2.1>=0))) (some false))).bind λa5=>cond a5 (aH (room 1 8) (((idx b 1).bind λatN=>cond ((atN.toNat:Int)==119) (some (decide (a.2.1>=0))) ((idx b 1).bind λatO=>cond ((atO.toNat:Int)==103) (some (decide (a.2.1>=0))) (some false))).bind λa6=>cond a6 (aH (room 1 8) (((idx b 2).bind λc152=>cond ((c152.toNat:Int)==114) (some (decide (a.2.2>=0))) ((idx b 2).bind λatP=>cond ((atP.toNat:Int)==101) (some (decide (a.2.2>=0))) (some false))).bind λa7=>cond a7 (aH (room (1+1) 8) (((idx b 2).bind λatQ=>cond ((atQ.toNat:Int)==119) (some (decide (a.2.2>=0))) ((idx b 2).bind λc156=>cond ((c156.toNat:Int)==103) (some (decide (a.2.2>=0))) (some false))).bind λa8=>cond a8 (aH (room (1+1) 8) (some (([a.2.1]++[a.2.2]),([a.2.1]++[a.2.2])))) (some (([a.2.1]++[a.2.2]),[a.2.1])))) (((idx b 2).bind λatS=>cond ((atS.toNat:Int)==119) (some (decide (a.2.2>=0))) ((idx b 2).bind λc159=>cond ((c159.toNat:Int)==103) (some (decide (a.2.2>=0))) (some false))).bind λa9=>cond a9 (aH (room (1+1) 8) (some ([a.2.1],([a.2.1]++[a.2.2])))) (some ([a.2.1],[a.2.1]))))) (((idx b 2).bind λatT=>cond ((atT.toNat:Int)==114) (some (decide (a.2.2>=0))) ((idx b 2).bind λc162=>cond ((c162.toNat:Int)==101) (some (decide (a.2.2>=0))) (some false))).bind λb0=>cond b0 (aH (room (1+1) 8) (((idx b 2).bind λc164=>cond ((c164.toNat:Int)==119) (some (decide (a.2.2>=0))) ((idx b 2).bind λatU=>cond ((atU.toNat:Int)==103) (some (decide (a.2.2>=0))) (some false))).bind λb1=>cond b1 (aH (room 1 8) (some (([a.2.1]++[a.2.2]),[a.2.2]))) (some (([a.2.1]++[a.2.2]),[])))) (((idx b 2).bind λc167=>cond ((c167.toNat:Int)==119) (some (decide (a.2.2>=0))) ((idx b 2).bind λc168=>cond ((c168.toNat:Int)==103) (some (decide (a.2.2>=0))) (some false))).bind λb2=>cond b2 (aH (room 1 8) (some ([a.2.1],[a.2.2]))) (some ([a.2.1],[])))))) (((idx b 1).bind λatV=>cond ((atV.toNat:Int)==119) (some (decide (a.2.1>=0))) ((idx b 1).bind λc171=>cond ((c171.toNat:Int)==103) (some (decide (a.2.1>=0))) (some false))).bind λb3=>cond b3 (aH (room 1 8) (((idx b 2).bind λc173=>cond ((c173.toNat:Int)==114) (some (decide (a.2.2>=0))) ((idx b 2).bind λatW=>cond ((atW.toNat:Int)==101) (some (decide (a.2.2>=0))) (some false))).bind λb4=>cond b4 (aH (room 1 8) (((idx b 2).bind λatX=>cond ((atX.toNat:Int)==119) (some (decide (a.2.2>=0))) ((idx b 2).bind λatY=>cond ((atY.toNat:Int)==103) (some (decide (a.2.2>=0))) (some false))).bind λb5=>cond b5 (aH (room (1+1) 8) (some ([a.2.2],([a.2.1]++[a.2.2])))) (some ([a.2.2],[a.2.1])))) (((idx b 2).bind λatZ=>cond ((atZ.toNat:Int)==119) (some (decide (a.2.2>=0))) ((idx b 2).bind λat0=>cond ((at0.toNat:Int)==103) (some (decide (a.2.2>=0))) (some false))).bind λb6=>cond b6 (aH (room (1+1) 8) (some ([],([a.2.1]++[a.2.2])))) (some ([],[a.2.1]))))) (((idx b 2).bind λc182=>cond ((c182.toNat:Int)==114) (some (decide (a.2.2>=0))) ((idx b 2).bind λc183=>cond ((c183.toNat:Int)==101) (some (decide (a.2.2>=0))) (some false))).bind λb7=>cond b7 (aH (room 1 8) (((idx b 2).bind λat1=>cond ((at1.toNat:Int)==119) (some (decide (a.2.2>=0))) ((idx b 2).bind λat2=>cond ((at2.toNat:Int)==103) (some (decide (a.2.2>=0))) (some false))).bind λb8=>cond b8 (aH (room 1 8) (some ([a.2.2],[a.2.2]))) (some ([a.2.2],[])))) (((idx b 2).bind λat3=>cond ((at3.toNat:Int)==119) (some (decide (a.2.2>=0))) ((idx b 2).bind λat4=>cond ((at4.toNat:Int)==103) (some (decide (a.2.2>=0))) (some false))).bind λb9=>cond b9 (aH (room 1 8) (some ([],[a.2.2]))) (some ([],[])))))))
def am3:ai:=(am0 N).put 225 am2 (Nf N)
def am4:az bE (am3 N):=(am1 N).pl (by kernel_rfl)
def am5:bH:=⟨[.agg (bq bt)],[tmf [.I]],0,[(0,7,9,.bool)],[],[],[]⟩
def Q0(N:Nat):iF->Option Int|(a,b,c,e)=>cond (a==25) c ((cond (a==26) (some true) (some (a==27))).bind λd=>cond d b (some (-1)))
def af6:ai:=(am3 N).put 269 am5 (Q0 N)
def am6:az bE (af6 N):=(am4 N).pl (by kernel_rfl)
def af7:bH:=⟨[.agg (cv bp),.I,.agg (bq bt)],[tmf [.bool]],0,[(0,14,6,.bool)],[],[(0,17,.I)],[]⟩
def We:ai:=(af6 N).on af7
def a54:aX:=tm [(1,.I),(3,.P 0 3 0),(5,.P 0 5 1),(9,.A .I 2),(10,.I)] [] [(0,3,.box 0 (cv bp)),(0,5,.box 1 (bq bt))] 1 [2] 3
def a55:aW:=[tmr [(6,.Q)],(.exit 0,tm [(3,.P 0 3 0),(5,.P 0 5 1)] [] [(0,3,.box 0 (cv bp)),(0,5,.box 1 (bq bt))] 1 [] 2)]
def aB0(N:Nat):Nat->Int×tmI×Int×bU iF->Option (Bool⊕(bU iF))|0,_=>none|k+1,(d,a,b,e,f,c,g,h,i,j)=>cond (b<a.length) ((idx a b).bind λl=>(idx c d).bind λm=>cond (l>=m.2.2.2.1.length) (some (Sum.inl false)) (aB0 N k (d,a,(au (b+1)),e,f,c,g,h,i,j))) (some (Sum.inr (e,f,c,g,h,i,j)))
def bq6:∀k,aB0 N k=tmq (We N) 5 255 a54 a55 k:=lpI (λ_=>rfl) λk=>by kernel_rfl
def at5:ai:=(We N).aa N 0 5 a54 a55
def Wf:bU (Int×iF)->Option Bool|(g,h,i,j,c,d,e,f)=>(Nf N (c,d,e,f)).bind λb=>aH (room (0+b.1.length) 8) (aH (room (([]++b.1).length+b.2.length) 8) ((aB0 N N (j,(([]++b.1)++b.2),0,g,h,i,c,d,e,f)).bind λl=>match l with|.inl m=>m|.inr a=>(Q0 N (a.2.2.2.1,a.2.2.2.2.1,a.2.2.2.2.2.1,a.2.2.2.2.2.2)).bind λn=>(cond (n<a.2.2.1.length) (cond (a.2.2.2.1!=2) (some true) (some (decide (a.2.2.2.2.2.1<a.2.1.length)))) (some false)).bind λo=>o))
def am7:ai:=(af6 N).put 255 af7 (Wf N)
def am8:az bE (am7 N):=(am6 N).pu (at5 N) (am6 N).o.l (funext λ⟨a,b,c,d,e,f,g,h⟩=>by rw[Wf,bq6 N N];kernel_rfl)
def am9:bH:=⟨[.agg (cv bp),.I,.I],[tmf [.I]],0,[(0,1,19,.bool)],[],[],[]⟩
def KI(N:Nat):bU (Int×Int)->Option Int|(h,i,b,c,a)=>(cond (a<0) (some true) ((idx b c).bind λd=>some (decide (a>=d.2.2.2.1.length)))).bind λe=>cond e (some (-1)) ((idx b c).bind λf=>(idx f.2.2.2.1 a).bind λg=>g.2)
def ana:ai:=(am7 N).put 270 am9 (KI N)
def anb:az bE (ana N):=(am8 N).pl (by kernel_rfl)
def anc:bH:=sg [.agg (cv bp),.I] [tmf [.B]]
def Ig(N:Nat):bU Int->Option Int|(b,d,e,a)=>cond (a<0) (some 0) ((idx b a).bind λc=>c.1)
def ane:ai:=(ana N).put 271 anc (Ig N)
def anf:az bE (ane N):=(anb N).pl (by kernel_rfl)
def ang:bH:=⟨[.agg (cv aR)],[tmf [.bool]],0,[(0,1,2,.bool)],[],[],[]⟩
def Q1(N:Nat):oo->Option Bool|(a,c,d,e)=>(cond (a==1) (some true) (cond (a==2) (some true) (some (a==4)))).bind λb=>b
def anh:ai:=(ane N).put 272 ang (Q1 N)
def ani:az bE (anh N):=(anf N).pl (by kernel_rfl)
def anj:bH:=⟨[.agg (cv bp),.I,.I],[tmf [.I]],0,[(0,1,25,.bool)],[],[],[]⟩
def Q2:bU (Int×Int)->Option Int|(a,d,e,b,c)=>((Ig N (a,d,e,b)).bind λf=>cond (f !=5) (some true) (cond (c<0) (some true) ((idx a b).bind λg=>some (decide (c>=g.2.2.2.length))))).bind λh=>cond h (some (-1)) ((idx a b).bind λi=>(idx i.2.2.2 c).bind λj=>j.2)
def ank:ai:=(anh N).put 273 anj (Q2 N)
def anl:az bE (ank N):=(ani N).pl (by kernel_rfl)
def anm:bH:=⟨[.agg (cv bp),.I,.B,.B],[tmf [.I]],0,[(0,2,24,.bool)],[],[],[]⟩
def KJ:bU (Int×Int×Int)->Option Int|(b,d,e,a,f,g)=>(Ig N (b,d,e,a)).bind λc=>(cond (a<0) (some true) (cond (c !=f) (some (c !=g)) (some false))).bind λh=>cond h (some (-1)) ((idx b a).bind λi=>i.2.1)
def ann:ai:=(ank N).put 274 anm (KJ N)
def ano:az bE (ann N):=(anl N).pl (by kernel_rfl)
def anp:bH:=⟨[.agg (cv bp),.I],[tmf [.bool]],0,[(0,2,4,.bool)],[],[],[]⟩
def Wg:bU Int->Option Bool|(c,i,d,e)=>(idx d e).bind λa=>(cond (a.2.2.1==(-1)) (cond (a.2.1==0) (some true) (cond (a.2.1==1) ((idx a.2.2.2.1 0).bind λf=>(idx c f.2).bind λb=>(Q1 N (b.1,b.2.1,b.2.2.1,b.2.2.2)).bind λg=>some g) (some false))) (some false)).bind λh=>h
def anq:ai:=(ann N).put 275 anp (Wg N)
def anr:az bE (anq N):=(ano N).pl (by kernel_rfl)
def ans:bH:=⟨[.agg (cv bp),.I,.agg (bq bt)],[tmf [.bool]],0,[(0,6,39,.bool),(0,14,48,.bool),(0,26,58,.bool),(0,24,58,.bool),(0,22,58,.bool),(0,29,6,.bool),(0,32,6,.bool),(0,35,6,.bool),(0,38,6,.bool),(0,56,6,.bool),(0,59,6,.bool),(0,62,6,.bool),(0,65,6,.bool),(0,68,6,.bool),(0,70,208,.bool),(0,76,6,.bool),(0,78,227,.bool),(0,81,6,.bool),(0,84,6,.bool)],[],[],[]⟩
def Wh:bU (Int×iF)->Option Bool|(c,e,b,i,a,j,n,p)=>(KI N (c,e,b,i,j)).bind λf=>(KI N (c,e,b,i,n)).bind λh=>(KI N (c,e,b,i,p)).bind λl=>(Ig N (c,e,b,f)).bind λd=>(Ig N (c,e,b,h)).bind λg=>(Ig N (c,e,b,l)).bind λo=>(cond (a==1) (some true) (some (a==32))).bind λq=>cond q (some (d==2)) (cond (a==2) (some (d==3)) ((cond (a==3) (some true) (some (a==23))).bind λr=>cond r (some (d==1)) (cond (a==5) (some (f==h)) ((cond (a==6) (some true) ((cond (a==7) (some true) ((cond (a==8) (some true) (some (a==9))).bind λs=>some s)).bind λt=>some t)).bind λu=>cond u ((cond (d==2) (cond (g==2) (some (o==2)) (some false)) (some false)).bind λv=>v) (cond (a==10) ((cond (d==1) (cond (g==2) (some (o==2)) (some false)) (some false)).bind λw=>w) (cond (a==11) ((cond (d==1) (cond (h==l) ((idx c h).bind λm=>(Q1 N (m.1,m.2.1,m.2.2.1,m.2.2.2)).bind λx=>some x) (some false)) (some false)).bind λy=>y) (cond (a==12) ((cond (d==1) (some (g==1)) (some false)).bind λz=>z) (cond (a==13) ((Q2 N (c,e,b,h,p)).bind λA=>some (A==f)) (cond (a==14) ((Q2 N (c,e,b,f,n)).bind λB=>some (B==l)) (cond (a==15) (some (d==4)) (cond (a==16) ((KJ N (c,e,b,h,4,4)).bind λC=>some (C==f)) (cond (a==17) ((KJ N (c,e,b,f,4,4)).bind λD=>some (D==h)) (cond (a==18) ((cond (d==7) (some (g==2)) (some false)).bind λE=>E) (cond (a==19) (((KJ N (c,e,b,h,7,6)).bind λG=>cond (G==f) (some (o==2)) (some false)).bind λH=>H) (cond (a==20) (((KJ N (c,e,b,f,7,6)).bind λI=>cond (I==l) (some (g==2)) (some false)).bind λJ=>J) (cond (a==21) ((cond (d==2) (cond (g==3) (some true) (cond (g==7) (some true) (some (g==6)))) (some false)).bind λK=>K) (cond (a==25) ((cond (j==(-1)) (some true) ((idx b n).bind λL=>some (L.2.2.1==f))).bind λM=>M) ((cond (a==26) (some true) (some (a==27))).bind λO=>cond O ((Wg N (c,e,b,j)).bind λP=>P) (cond (a==28) ((cond (d==2) (some true) (cond (d==1) (some true) (some (d==3)))).bind λQ=>Q) ((cond (a==29) (some true) (some (a==33))).bind λR=>cond R ((cond (d==1) (some (g==2)) (some false)).bind λS=>S) (cond (a==34) ((cond (j==(-1)) (some true) ((idx b i).bind λT=>some (T.2.2.1==f))).bind λU=>U) true)))))))))))))))))))))
def ant:ai:=(anq N).put 256 ans (Wh N)
def anu:az bE (ant N):=(anr N).pl (by kernel_rfl)
def anv:bH:=sg [.agg (cv bp),.I,.I,.Q] [tmf [.I]]
def Q3:bU (Int×Int×Bool)->Option Int|(d,e,b,c,f,g)=>(idx b c).bind λh=>(idx h.2.2.2.2.1 f).bind λa=>(Wf N (d,e,b,c,a.1,a.2.1,a.2.2.1,a.2.2.2)).bind λi=>cond (!i) (some 16) (cond (!g) (some 6) ((Wh N (d,e,b,c,a.1,a.2.1,a.2.2.1,a.2.2.2)).bind λj=>cond (!j) (some 30) (some 0)))
def af8:ai:=(ant N).put 222 anv (Q3 N)
def anw:az bE (af8 N):=(anu N).pl (by kernel_rfl)
def af9:bH:=⟨[.agg (cv bp),.I,.agg (bq bt)],[tmf [.D .I],tmf [.I]],0,[],[],[(0,44,.I)],[]⟩
def Wi:ai:=(af8 N).on af9
def a56:aX:=tm [(3,.P 0 3 0),(8,.A .I 1),(9,.I),(10,.I)] [] [(0,3,.box 0 (cv bp))] 1 [1] 2
def a57:aW:=[(.exit 0,tmv [(8,.A .I 0)] 0 1)]
def aB1(N:Nat):Nat->tmI×Int×Int×dz->Option tmI|0,_=>none|k+1,(a,b,c,e,f,d)=>(idx d b).bind λg=>cond (c<g.2.1) ((idx d b).bind λh=>(idx h.2.2.2.1 c).bind λi=>aH (room (a.length+1) 8) (aB1 N k ((a++[i.2]),b,(au (c+1)),e,f,d))) a
def bq7:∀k,aB1 N k=tmq (Wi N) 10 276 a56 a57 k:=lpI (λ_=>rfl) λk=>by kernel_rfl
def at6:ai:=(Wi N).aa N 0 10 a56 a57
def Wm:bU (Int×iF)->Option (tmI×Int)|(a,b,c,g,d,e,h,i)=>cond (d==24) ((KI N (a,b,c,g,e)).bind λj=>some ([],j)) ((Q0 N (d,e,h,i)).bind λf=>cond (f>=0) ((aB1 N N ([],f,0,a,b,c)).bind λl=>some (l,(-1))) (some ([],(-1))))
def aga:ai:=(af8 N).put 276 af9 (Wm N)
def anx:az bE (aga N):=(anw N).pu (at6 N) (anw N).o.l (funext λ⟨a,b,c,d,e,f,g,h⟩=>by rw[Wm,bq7 N N];kernel_rfl)
def agb:bH:=sg [.c (.sl .I .aY),.c (.sl .I .aY)] [tmf [.bool]]
def Wn:ai:=(aga N).on agb
def a58:aX:=tmn [(0,.c (.sl .I .aY)),(1,.c (.sl .I .aY)),(5,.I)]
def a59:aW:=[tmr [(4,.Q)],tmx]
def aB2(N:Nat):Nat->tmI×tmI×Int->Option (Bool⊕Unit)|0,_=>none|k+1,(b,c,a)=>cond (a<b.length) ((idx b a).bind λd=>(idx c a).bind λe=>cond (d !=e) (some (Sum.inl false)) (aB2 N k (b,c,(au (a+1))))) (some (Sum.inr ()))
def bq8:∀k,aB2 N k=tmq (Wn N) 6 258 a58 a59 k:=lpI (λ_=>rfl) λk=>by kernel_rfl
def at7:ai:=(Wn N).aa N 0 6 a58 a59
def Q4:tmI×tmI->Option Bool|(a,b)=>cond ((a.length:Int)!=(b.length:Int)) false ((aB2 N N (a,b,0)).bind λc=>match c with|.inl d=>d|.inr e=>true)
def anz:ai:=(aga N).put 258 agb (Q4 N)
def anA:az bE (anz N):=(anx N).pu (at7 N) (anx N).o.l (funext λ⟨a,b⟩=>by rw[Q4,bq8 N N];kernel_rfl)
def anB:bH:=sg [.I] [tmf [.I]]
def KK:Int->Option Int|a=>(Na N (a,8)).bind λb=>b
def agc:ai:=(anz N).put 100 anB (KK N)
def anC:az bE (agc N):=(anA N).pl (by kernel_rfl)
def agd:bH:=sg [.agg (cv bp),.c (.sl .I .aY)] [tmf [.I]]
def Wo:ai:=(agc N).on agd
def a60:aX:=tmn [(1,.c (.sl .I .aY)),(5,.D .I),(7,.I),(8,.I)]
def a61:aW:=[(.exit 0,tmn [(7,.I)])]
def aB3:Nat->tmI×tmI×Int×Int->Option Int|0,_=>none|k+1,(a,c,d,b)=>cond (b<a.length) ((idx a b).bind λe=>(idx c e).bind λf=>(KK N f).bind λg=>aB3 k (a,c,(au (d+g)),(au (b+1)))) d
def bq9:∀k,aB3 N k=tmq (Wo N) 5 230 a60 a61 k:=lpI (λ_=>rfl) λk=>by kernel_rfl
def at8:ai:=(Wo N).aa N 0 5 a60 a61
def Ng:bU tmI->Option Int|(a,e,f,b)=>(ET N a).bind λc=>(aB3 N N (b,c.1,0,0)).bind λd=>d
def anD:ai:=(agc N).put 230 agd (Ng N)
def anE:az bE (anD N):=(anC N).pu (at8 N) (anC N).o.l (funext λ⟨a,b,c,d⟩=>by rw[Ng,bq9 N N];kernel_rfl)
def anF:bH:=⟨[.agg (cv bp),.I,.agg (bq bt),.c (.sl .I .aY)],[tmf [.D .I],tmf [.bool]],0,[(0,3,35,.bool)],[],[(0,36,.I),(0,45,.I)],[]⟩
def Wp:bU (Int×MY tmI)->Option (tmI×Bool)|(c,d,e,f,g,h,i,j,a)=>(Wm N (c,d,e,f,g,h,i,j)).bind λb=>(cond ((au ((a.length:Int)-(b.1.length:Int)))<0) (some true) (aH (decide (0<=(au ((a.length:Int)-(b.1.length:Int))))) (aH (decide ((Int.toNat (au ((a.length:Int)-(b.1.length:Int))))<=a.length)) ((Q4 N ((a.drop (Int.toNat (au ((a.length:Int)-(b.1.length:Int))))),b.1)).bind λl=>some (!l))))).bind λm=>cond m (some ([],false)) (aH (decide (0<=(au ((a.length:Int)-(b.1.length:Int))))) (aH (decide ((Int.toNat (au ((a.length:Int)-(b.1.length:Int))))<=a.length)) (aH (room (0+(a.take (Int.toNat (au ((a.length:Int)-(b.1.length:Int))))).length) 8) (cond (b.2>=0) (aH (room (([]++(a.take (Int.toNat (au ((a.length:Int)-(b.1.length:Int)))))).length+1) 8) ((Ng N (c,d,e,(([]++(a.take (Int.toNat (au ((a.length:Int)-(b.1.length:Int))))))++[b.2]))).bind λn=>some ((([]++(a.take (Int.toNat (au ((a.length:Int)-(b.1.length:Int))))))++[b.2]),(decide (n<=4096))))) ((Ng N (c,d,e,([]++(a.take (Int.toNat (au ((a.length:Int)-(b.1.length:Int)))))))).bind λo=>some (([]++(a.take (Int.toNat (au ((a.length:Int)-(b.1.length:Int)))))),(decide (o<=4096))))))))
def age:ai:=(anD N).put 257 anF (Wp N)
def anG:az bE (age N):=(anE N).pl (by kernel_rfl)
def agf:bH:=⟨[.agg (cv bp),.I],[tmf [.D (.sl .I)],tmf [.bool]],0,[(0,31,83,.bool)],[],[(0,24,(.sl .I)),(0,27,.bool)],[]⟩
def Wq:ai:=(age N).on agf
def a62:aX:=tm [(1,.I),(2,.P 0 2 0),(6,.D bt),(7,.R 0 24 1 (.sl .I)),(8,.R 0 27 2 .bool),(9,.Q),(10,.I),(11,.D .I),(13,.D .I),(14,.I)] [] [(0,2,.box 0 (cv bp)),(0,24,.row 1 (.sl .I)),(0,27,.row 2 .bool)] 1 [] 3
def a63:aW:=[tmr [(4,.N),(5,.Q)],(.exit 4,tm [(1,.I),(2,.P 0 2 0),(6,.D bt),(7,.R 0 24 1 (.sl .I)),(8,.R 0 27 2 .bool),(9,.Q),(10,.I)] [] [(0,2,.box 0 (cv bp)),(0,24,.row 1 (.sl .I)),(0,27,.row 2 .bool)] 1 [] 3)]
def IR:Nat->Int×List Instr×Bool×Int×tmI×tmI×Int×bU (List tmI×List Bool)->Option (Bool⊕(Int×List Instr×Bool×Int×bU (List tmI×List Bool)))|0,_=>none|k+1,(g,h,n,i,d,e,f,j,l,m,c,b)=>cond (f<e.length) ((idx e f).bind λa=>(aH (fM a b.length) ((b[a.toNat]?).bind λo=>cond o (aH (fM a c.length) ((c[a.toNat]?).bind λp=>(Q4 N (p,d)).bind λq=>some (!q))) (some false))).bind λr=>cond r (some (Sum.inl false)) (aH (fM a b.length) ((b[a.toNat]?).bind λs=>cond (!s) (aH (fM a c.length) ((c[a.toNat]?).bind λt=>aH (fM a b.length) ((b[a.toNat]?).bind λu=>IR k (g,h,true,i,d,e,(au (f+1)),j,l,m,(c.set a.toNat d),(b.set a.toNat true))))) (IR k (g,h,n,i,d,e,(au (f+1)),j,l,m,c,b))))) (some (Sum.inr (g,h,n,i,j,l,m,c,b)))
def br0:∀k,IR N k=tmq (Wq N) 26 223 a62 a63 k:=lpI (λ_=>rfl) λk=>by kernel_rfl
def Wt:ai:=(Wq N).aa N 0 26 a62 a63
def a64:aX:=tm [(1,.I),(2,.P 0 2 0),(6,.D bt),(7,.R 0 24 1 (.sl .I)),(8,.R 0 27 2 .bool),(9,.Q),(10,.I)] [] [(0,2,.box 0 (cv bp)),(0,24,.row 1 (.sl .I)),(0,27,.row 2 .bool)] 1 [] 3
def a65:aW:=[tmr [(4,.N),(5,.Q)],(.exit 2,tm [(1,.I),(2,.P 0 2 0),(6,.D bt),(7,.R 0 24 1 (.sl .I)),(8,.R 0 27 2 .bool),(9,.Q)] [] [(0,2,.box 0 (cv bp)),(0,24,.row 1 (.sl .I)),(0,27,.row 2 .bool)] 1 [] 3)]
def H2:Nat->Int×List Instr×Bool×Int×bU (List tmI×List Bool)->Option (Bool⊕(Int×List Instr×Bool×bU (List tmI×List Bool)))|0,_=>none|k+1,(f,c,l,a,g,h,i,d,e)=>cond (a<c.length) (aH (fM a e.length) ((e[a.toNat]?).bind λn=>cond (!n) (H2 k (f,c,l,(au (a+1)),g,h,i,d,e)) ((idx c a).bind λj=>aH (fM a d.length) ((d[a.toNat]?).bind λo=>(Wp N (g,h,i,f,j.1,j.2.1,j.2.2.1,j.2.2.2,o)).bind λm=>cond (!m.2) (some (Sum.inl false)) ((QY N (c,a)).bind λp=>(IR N N (f,c,l,a,m.1,p,0,g,h,i,d,e)).bind λq=>match q with|.inl r=>some (Sum.inl r)|.inr b=>H2 k (b.1,b.2.1,b.2.2.1,(au (b.2.2.2.1+1)),b.2.2.2.2.1,b.2.2.2.2.2.1,b.2.2.2.2.2.2.1,b.2.2.2.2.2.2.2.1,b.2.2.2.2.2.2.2.2)))))) (some (Sum.inr (f,c,l,g,h,i,d,e)))
def a66:∀k,H2 N k=tmq (Wt N) 13 223 a64 a65 k|0=>rfl|k+1=>funext λ⟨a,b,c,d,e,f,g,h,i⟩=>by rw[H2,a66 k,br0 N N];kernel_rfl
def Wu:ai:=(Wt N).aa N 0 13 a64 a65
def a67:aX:=tm [(1,.I),(2,.P 0 2 0),(6,.D bt),(7,.R 0 24 1 (.sl .I)),(8,.R 0 27 2 .bool),(9,.Q)] [] [(0,2,.box 0 (cv bp)),(0,24,.row 1 (.sl .I)),(0,27,.row 2 .bool)] 1 [] 3
def a68:aW:=[tmr [(4,.N),(5,.Q)],(.exit 0,tm [(6,.D bt),(7,.R 0 24 0 (.sl .I))] [] [(0,24,.row 0 (.sl .I))] 1 [] 1)]
def ah0:Nat->Int×List Instr×Bool×bU (List tmI×List Bool)->Option (Bool⊕(List Instr×List tmI))|0,_=>none|k+1,(d,b,e,f,g,h,c,i)=>cond e ((H2 N N (d,b,false,0,f,g,h,c,i)).bind λj=>match j with|.inl l=>some (Sum.inl l)|.inr a=>ah0 k (a.1,a.2.1,a.2.2.1,a.2.2.2.1,a.2.2.2.2.1,a.2.2.2.2.2.1,a.2.2.2.2.2.2.1,a.2.2.2.2.2.2.2)) (some (Sum.inr (b,c)))
def a69:∀k,ah0 N k=tmq (Wu N) 6 223 a67 a68 k|0=>rfl|k+1=>funext λ⟨a,b,c,d,e,f,g,h⟩=>by rw[ah0,a69 k,a66 N N];kernel_rfl
def at9:ai:=(Wu N).aa N 0 6 a67 a68
def Q5:bU Int->Option (List tmI×Bool)|(e,f,c,d)=>(idx c d).bind λa=>aH (decide (0<=(a.2.2.2.2.1.length:Int))) (aH (decide (0<=(a.2.2.2.2.1.length:Int))) (aH (decide ((Int.toNat (a.2.2.2.2.1.length:Int))<=(Int.toNat (a.2.2.2.2.1.length:Int)))&&room (Int.toNat (a.2.2.2.2.1.length:Int)) 24) (aH (decide (0<=(a.2.2.2.2.1.length:Int))) (aH (decide (0<=(a.2.2.2.2.1.length:Int))) (aH (decide ((Int.toNat (a.2.2.2.2.1.length:Int))<=(Int.toNat (a.2.2.2.2.1.length:Int)))&&room (Int.toNat (a.2.2.2.2.1.length:Int)) 1) (aH (fM 0 (List.replicate (Int.toNat (a.2.2.2.2.1.length:Int)) false).length) (((List.replicate (Int.toNat (a.2.2.2.2.1.length:Int)) false)[(Int.toNat 0)]?).bind λj=>(ah0 N N (d,a.2.2.2.2.1,true,e,f,c,(List.replicate (Int.toNat (a.2.2.2.2.1.length:Int)) []),((List.replicate (Int.toNat (a.2.2.2.2.1.length:Int)) false).set (Int.toNat 0) true))).bind λg=>match g with|.inl h=>some ([],h)|.inr b=>aH (fM (au ((b.1.length:Int)-1)) b.2.length) ((b.2[(Int.toNat (au ((b.1.length:Int)-1)))]?).bind λi=>some (b.2,((i.length:Int)==0))))))))))
def anH:ai:=(age N).put 223 agf (Q5 N)
def anI:az bE (anH N):=(anG N).pu (at9 N) (anG N).o.l.l.l (funext λ⟨a,b,c,d⟩=>by rw[Q5,a69 N N];kernel_rfl)
def anJ:bH:=sg [.I] [tmf [.U]]
def Q6(N:Nat):Int->Option Int|a=>aH (!(a<0)) (some (aK ((aK (1*(2^min a.toNat 64)))-1)))
def agh:ai:=(anH N).put 259 anJ (Q6 N)
def anK:az bE (agh N):=(anI N).pl (by kernel_rfl)
def agi:bH:=sg [.agg (bq bt)] [tmf [.U]]
def Wv:ai:=(agh N).on agi
def a70:aX:=tmn [(4,.D .I),(5,.U),(6,.I)]
def a71:aW:=[(.exit 0,tmn [(5,.U)])]
def aB4(N:Nat):Nat->tmI×Int×Int->Option Int|0,_=>none|k+1,(a,c,b)=>cond (b<a.length) ((idx a b).bind λd=>aH (!(d<0)) (aB4 N k (a,(BD .u64 c (aK (1*(2^min d.toNat 64)))),(au (b+1))))) c
def br1:∀k,aB4 N k=tmq (Wv N) 5 260 a70 a71 k:=lpI (λ_=>rfl) λk=>by kernel_rfl
def aua:ai:=(Wv N).aa N 0 5 a70 a71
def Ww:iF->Option Int|(a,b,c,d)=>(Nf N (a,b,c,d)).bind λe=>(aB4 N N (e.2,0,0)).bind λf=>f
def agj:ai:=(agh N).put 260 agi (Ww N)
def anL:az bE (agj N):=(anK N).pu (aua N) (anK N).o.l (funext λ⟨a,b,c,d⟩=>by rw[Ww,br1 N N];kernel_rfl)
def agk:bH:=⟨[.c (.sl bt .aY),.I,.I],[tmf [.D .U]],0,[(0,29,55,.bool),(0,44,109,.bool)],[],[(0,20,.U)],[]⟩
def Wx:ai:=(agj N).on agk
def a72:aX:=tm [(0,.c (.sl bt .aY)),(1,.I),(2,.I),(7,.D .bool),(8,.R 0 20 0 .U),(9,.I)] [] [(0,20,.row 0 .U)] 1 [] 1
def a73:aW:=[(.exit 0,tm [(0,.c (.sl bt .aY)),(1,.I),(7,.D .bool),(8,.R 0 20 0 .U)] [] [(0,20,.row 0 .U)] 1 [] 1)]
def aB5:Nat->List Instr×Int×Int×List Bool×Int×tmI->Option (List Instr×Int×List Bool×tmI)|0,_=>none|k+1,(c,d,e,f,a,b)=>cond (a<c.length) ((Q6 N e).bind λg=>aH (fM a b.length) ((b[a.toNat]?).bind λh=>aB5 k (c,d,e,f,(au (a+1)),(b.set a.toNat g)))) (c,d,f,b)
def br2:∀k,aB5 N k=tmq (Wx N) 5 224 a72 a73 k:=lpI (λ_=>rfl) λk=>by kernel_rfl
def Wy:ai:=(Wx N).aa N 0 5 a72 a73
def a74:aX:=tm [(0,.c (.sl bt .aY)),(7,.D .bool),(8,.R 0 20 0 .U),(10,.Q),(11,.I),(12,.D .I),(13,.I)] [] [(0,20,.row 0 .U)] 1 [] 1
def a75:aW:=[(.exit 6,tm [(0,.c (.sl bt .aY)),(7,.D .bool),(8,.R 0 20 0 .U),(10,.Q),(11,.I)] [] [(0,20,.row 0 .U)] 1 [] 1)]
def No:Nat->List Instr×List Bool×Bool×Int×tmI×Int×tmI->Option (List Instr×List Bool×Bool×Int×tmI)|0,_=>none|k+1,(e,f,i,b,c,d,a)=>(cond (d<c.length) ((idx f b).bind λp=>some p) (some false)).bind λq=>cond q ((idx c d).bind λj=>aH (fM j a.length) ((a[j.toNat]?).bind λl=>aH (fM b a.length) ((a[b.toNat]?).bind λm=>(idx e b).bind λg=>(Ww N (g.1,g.2.1,g.2.2.1,g.2.2.2)).bind λn=>(idx c d).bind λo=>aH (fM o a.length) ((a[o.toNat]?).bind λr=>cond ((tZ .u64 l (BD .u64 m n))!=r) ((idx c d).bind λh=>aH (fM h a.length) ((a[h.toNat]?).bind λs=>No k (e,f,true,b,c,(au (d+1)),(a.set h.toNat (tZ .u64 l (BD .u64 m n)))))) (No k (e,f,i,b,c,(au (d+1)),a)))))) (e,f,i,b,a)
def br3:∀k,No N k=tmq (Wy N) 28 224 a74 a75 k:=lpI (λ_=>rfl) λk=>by kernel_rfl
def Wz:ai:=(Wy N).aa N 0 28 a74 a75
def a76:aX:=tm [(0,.c (.sl bt .aY)),(7,.D .bool),(8,.R 0 20 0 .U),(10,.Q),(11,.I)] [] [(0,20,.row 0 .U)] 1 [] 1
def a77:aW:=[(.exit 4,tm [(0,.c (.sl bt .aY)),(7,.D .bool),(8,.R 0 20 0 .U),(10,.Q)] [] [(0,20,.row 0 .U)] 1 [] 1)]
def ah1:Nat->List Instr×List Bool×Bool×Int×tmI->Option (List Instr×List Bool×Bool×tmI)|0,_=>none|k+1,(b,d,e,c,f)=>cond (c<b.length) ((QY N (b,c)).bind λg=>(No N N (b,d,e,c,g,0,f)).bind λa=>ah1 k (a.1,a.2.1,a.2.2.1,(au (a.2.2.2.1+1)),a.2.2.2.2)) (b,d,e,f)
def a78:∀k,ah1 N k=tmq (Wz N) 21 224 a76 a77 k|0=>rfl|k+1=>funext λ⟨a,b,c,d,e⟩=>by rw[ah1,a78 k,br3 N N];kernel_rfl
def WA:ai:=(Wz N).aa N 0 21 a76 a77
def a79:aX:=tm [(0,.c (.sl bt .aY)),(7,.D .bool),(8,.R 0 20 0 .U),(10,.Q)] [] [(0,20,.row 0 .U)] 1 [] 1
def a80:aW:=[(.exit 2,tm [(0,.c (.sl bt .aY)),(7,.D .bool),(8,.R 0 20 0 .U)] [] [(0,20,.row 0 .U)] 1 [] 1)]
def au6:Nat->List Instr×List Bool×Bool×tmI->Option (List Instr×List Bool×tmI)|0,_=>none|k+1,(b,c,e,d)=>cond e ((ah1 N N (b,c,false,0,d)).bind λa=>au6 k (a.1,a.2.1,a.2.2.1,a.2.2.2)) (b,c,d)
def a81:∀k,au6 N k=tmq (WA N) 14 224 a79 a80 k|0=>rfl|k+1=>funext λ⟨a,b,c,d⟩=>by rw[au6,a81 k,a78 N N];kernel_rfl
def WB:ai:=(WA N).aa N 0 14 a79 a80
def a82:aX:=tm [(0,.c (.sl bt .aY)),(7,.D .bool),(8,.R 0 20 0 .U),(15,.I)] [] [(0,20,.row 0 .U)] 1 [] 1
def a83:aW:=[(.exit 8,tm [(8,.R 0 20 0 .U)] [] [(0,20,.row 0 .U)] 1 [] 1)]
def au9(N:Nat):Nat->List Instr×List Bool×Int×tmI->Option tmI|0,_=>none|k+1,(c,d,a,b)=>cond (a<c.length) (((idx d a).bind λe=>cond (!e) (some true) (some (a==(au ((c.length:Int)-1))))).bind λf=>cond f (aH (fM a b.length) ((b[a.toNat]?).bind λg=>au9 N k (c,d,(au (a+1)),(b.set a.toNat 0)))) (au9 N k (c,d,(au (a+1)),b))) b
def br4:∀k,au9 N k=tmq (WB N) 40 224 a82 a83 k:=lpI (λ_=>rfl) λk=>by kernel_rfl
def aub:ai:=(WB N).aa N 0 40 a82 a83
def Nh:List Instr×Int×Int->Option tmI|(a,d,e)=>(QZ N a).bind λf=>aH (decide (0<=(a.length:Int))) (aH (decide (0<=(a.length:Int))) (aH (decide ((Int.toNat (a.length:Int))<=(Int.toNat (a.length:Int)))&&room (Int.toNat (a.length:Int)) 8) ((aB5 N N (a,d,e,f,0,(List.replicate (Int.toNat (a.length:Int)) (0:Int)))).bind λb=>(Q6 N b.2.1).bind λg=>aH (fM 0 b.2.2.2.length) ((b.2.2.2[(Int.toNat 0)]?).bind λi=>(au6 N N (b.1,b.2.2.1,true,(b.2.2.2.set (Int.toNat 0) g))).bind λc=>(au9 N N (c.1,c.2.1,0,c.2.2)).bind λh=>h))))
def agl:ai:=(agj N).put 224 agk (Nh N)
def anM:az bE (agl N):=(anL N).pu (aub N) (anL N).o.l.l.l.l.l (funext λ⟨a,b,c⟩=>by rw[Nh,br2 N N,a81 N N,br4 N N];kernel_rfl)
def agm:bH:=⟨[.agg (cv bp),.I],[tmf [.I],tmf [.I]],0,[(0,5,38,.bool),(0,15,10,.I)],[],[],[]⟩
def WE:ai:=(agl N).on agm
def a84:aX:=tm [(1,.I),(2,.P 0 2 0),(6,.P 0 6 1),(7,.D .bool),(8,.I),(9,.I)] [] [(0,2,.box 0 (cv bp)),(0,6,.box 1 (bq dV))] 1 [] 2
def a85:aW:=[tmr [(4,.I),(5,.I)],(.exit 0,tm [(1,.I),(2,.P 0 2 0),(6,.P 0 6 1)] [] [(0,2,.box 0 (cv bp)),(0,6,.box 1 (bq dV))] 1 [] 2)]
def aB6:Nat->Int×List Bool×Int×Int×dJ->Option ((Int×Int)⊕(Int×dJ))|0,_=>none|k+1,(b,g,h,a,c,d,e,i,j,l,m,f,n,o)=>cond (a<f.length) (((idx g a).bind λq=>cond q ((Q3 N (c,d,e,b,a,true)).bind λr=>some r) ((Q3 N (c,d,e,b,a,(a==h))).bind λs=>some s)).bind λp=>cond (p !=0) (some (Sum.inl (a,p))) (aB6 k (b,g,h,(au (a+1)),c,d,e,i,j,l,m,f,n,o))) (some (Sum.inr (b,c,d,e,i,j,l,m,f,n,o)))
def br5:∀k,aB6 N k=tmq (WE N) 11 173 a84 a85 k:=lpI (λ_=>rfl) λk=>by kernel_rfl
def WG:ai:=(WE N).aa N 0 11 a84 a85
def a86:aX:=tm [(6,.P 0 6 0),(13,.D .U),(14,.I),(15,.D .I),(17,.I)] [] [(0,6,.box 0 (bq dV))] 1 [] 1
def a87:aW:=[tmr [(4,.I),(5,.I)],(.exit 4,tm [(6,.P 0 6 0),(13,.D .U),(14,.I)] [] [(0,6,.box 0 (bq dV))] 1 [] 1)]
def av0(N:Nat):Nat->tmI×Int×tmI×Int×iw->Option ((Int×Int)⊕(tmI×Int×iw))|0,_=>none|k+1,(b,a,c,d,e,f,g,h,i,j,l)=>cond (d<c.length) ((idx b a).bind λn=>(idx c d).bind λm=>aH (!(m<0)) (cond ((Int.tmod (Int.fdiv n (2^min m.toNat 64)) 2)==0) (some (Sum.inl (a,38))) (av0 N k (b,a,c,(au (d+1)),e,f,g,h,i,j,l)))) (some (Sum.inr (b,a,e,f,g,h,i,j,l)))
def br6:∀k,av0 N k=tmq (WG N) 34 173 a86 a87 k:=lpI (λ_=>rfl) λk=>by kernel_rfl
def WJ:ai:=(WG N).aa N 0 34 a86 a87
def a88:aX:=tm [(6,.P 0 6 0),(13,.D .U),(14,.I)] [] [(0,6,.box 0 (bq dV))] 1 [] 1
def a89:aW:=[tmr [(4,.I),(5,.I)],(.exit 2,tmz)]
def av1:Nat->tmI×Int×iw->Option ((Int×Int)⊕Unit)|0,_=>none|k+1,(f,c,g,h,i,j,d,l,m)=>cond (c<d.length) ((idx d c).bind λb=>(Nf N (b.1,b.2.1,b.2.2.1,b.2.2.2)).bind λn=>(av0 N N (f,c,n.1,0,g,h,i,j,d,l,m)).bind λo=>match o with|.inl e=>some (Sum.inl (e.1,e.2))|.inr a=>av1 k (a.1,(au (a.2.1+1)),a.2.2.1,a.2.2.2.1,a.2.2.2.2.1,a.2.2.2.2.2.1,a.2.2.2.2.2.2.1,a.2.2.2.2.2.2.2.1,a.2.2.2.2.2.2.2.2)) (some (Sum.inr ()))
def a90:∀k,av1 N k=tmq (WJ N) 27 173 a88 a89 k|0=>rfl|k+1=>funext λ⟨a,b,c,d,e,f,g,h,i⟩=>by rw[av1,a90 k,br6 N N];kernel_rfl
def auc:ai:=(WJ N).aa N 0 27 a88 a89
def WK:bU Int->Option (Int×Int)|(g,h,d,c)=>(idx d c).bind λb=>(Wa N b.2.2.2.2.1).bind λi=>cond (i !=0) (some ((-1),12)) ((cond (c==0) (cond (b.2.1!=0) (some true) (some (b.2.2.1!=(-1)))) (some false)).bind λj=>cond j (some ((-1),30)) ((QZ N b.2.2.2.2.1).bind λl=>(aB6 N N (c,l,(au ((b.2.2.2.2.1.length:Int)-1)),0,g,h,d,b.1,b.2.1,b.2.2.1,b.2.2.2.1,b.2.2.2.2.1,b.2.2.2.2.2.1,b.2.2.2.2.2.2)).bind λm=>match m with|.inl e=>(e.1,e.2)|.inr a=>(Q5 N (a.2.1,a.2.2.1,a.2.2.2.1,a.1)).bind λn=>cond (!n.2) (some ((-1),36)) ((Nh N (a.2.2.2.2.2.2.2.2.1,a.2.2.2.2.2.1,(a.2.2.2.2.2.2.2.1.length:Int))).bind λo=>(av1 N N (o,0,a.2.2.2.2.1,a.2.2.2.2.2.1,a.2.2.2.2.2.2.1,a.2.2.2.2.2.2.2.1,a.2.2.2.2.2.2.2.2.1,a.2.2.2.2.2.2.2.2.2.1,a.2.2.2.2.2.2.2.2.2.2)).bind λp=>match p with|.inl f=>(f.1,f.2)|.inr q=>some (0,0))))
def agn:ai:=(agl N).put 173 agm (WK N)
def anN:az bE (agn N):=(anM N).pu (auc N) (anM N).o.l.l.l (funext λ⟨a,b,c,d⟩=>by rw[WK,br5 N N,a90 N N];kernel_rfl)
def ago:bH:=⟨[.c (.sl aR .aY)],[tmf [.D aR]],0,[],[],[(0,16,cS),(0,26,aR)],[]⟩
def WL:ai:=(agn N).on ago
def a91:aX:=tmv [(0,.c (.sl aR .aY)),(3,.A aR 0),(4,.I)] 0 1
def a92:aW:=[(.exit 0,tmv [(3,.A aR 0)] 0 1)]
def aB7(N:Nat):Nat->List aA×List aA×Int->Option (List aA)|0,_=>none|k+1,(a,c,b)=>cond (b<a.length) ((idx a b).bind λd=>(idx a b).bind λe=>aH (room (0+e.2.2.2.length) 24) (aH (room (c.length+1) 48) (aB7 N k (a,(c++[(d.1,d.2.1,d.2.2.1,([]++e.2.2.2))]),(au (b+1)))))) c
def br7:∀k,aB7 N k=tmq (WL N) 4 261 a91 a92 k:=lpI (λ_=>rfl) λk=>by kernel_rfl
def aud:ai:=(WL N).aa N 0 4 a91 a92
def WM:List aA->Option (List aA)|a=>(aB7 N N (a,[],0)).bind λb=>b
def agp:ai:=(agn N).put 261 ago (WM N)
def anO:az bE (agp N):=(anN N).pu (aud N) (anN N).o.l (funext λa=>by rw[WM,br7 N N];kernel_rfl)
def agq:bH:=⟨[.c (.sl .U .aY)],[tmf [.D iE]],0,[(0,8,24,.bool)],[],[(0,32,iE)],[]⟩
def WN:ai:=(agp N).on agq
def a93:aX:=tmv [(0,.c (.sl .U .aY)),(3,.A iE 0),(4,.I)] 0 1
def a94:aW:=[(.exit 0,tmv [(3,.A iE 0)] 0 1)]
def av2(N:Nat):Nat->tmI×List e8×Int->Option (List e8)|0,_=>none|k+1,(b,c,a)=>cond (a<b.length) ((cond (a==0) (some true) ((idx b a).bind λd=>(idx b (au (a-1))).bind λe=>some (d !=e))).bind λf=>cond f ((idx b a).bind λg=>aH (room (c.length+1) 16) (av2 N k (b,(c++[(a,g)]),(au (a+1))))) (av2 N k (b,c,(au (a+1))))) c
def br8:∀k,av2 N k=tmq (WN N) 4 231 a93 a94 k:=lpI (λ_=>rfl) λk=>by kernel_rfl
def aue:ai:=(WN N).aa N 0 4 a93 a94
def Q7:tmI->Option (List e8)|a=>(av2 N N (a,[],0)).bind λb=>b
def agr:ai:=(agp N).put 231 agq (Q7 N)
def anP:az bE (agr N):=(anO N).pu (aue N) (anO N).o.l (funext λa=>by rw[Q7,br8 N N];kernel_rfl)
def ags:bH:=⟨[.agg (cv bp),.I],[(true,(bq dV))],0,[],[],[(1011000,9,.str),(1011000,26,cS),(1011000,31,bt),(1011000,36,iE),(1011000,41,iE),(1011000,49,dV),(0,36,.U)],[]⟩
def WO:ai:=(agr N).on ags
def a95:aX:=tm [(1,.P 1 1 0),(2,.P 1 2 1),(3,.P 1 3 2),(4,.I)] [[(2,.P 0 2 3),(4,.P 0 4 4)]] [(1,1,.box 0 (cv bp)),(1,2,.box 1 [.nil true,.nil true,.nil true]),(1,3,.box 2 [.D aR,.A .str 5,.A dV 6]),(0,2,.box 3 (cv bp)),(0,4,.box 4 [.str,.I,.I,.nil true,.nil true,.nil true,.nil true])] 2 [5,6] 7
def a96:aW:=[(.exit 0,tm [(2,.P 1 2 0),(3,.P 1 3 1)] [[(2,.P 0 2 2),(4,.P 0 4 3)]] [(1,2,.box 0 [.nil true,.nil true,.nil true]),(1,3,.box 1 [.D aR,.A .str 4,.A dV 5]),(0,2,.box 2 (cv bp)),(0,4,.box 3 [.str,.I,.I,.nil true,.nil true,.nil true,.nil true])] 2 [4,5] 6)]
def aB8(N:Nat):Nat->Int×bU (bU (bU (List UInt8×Int×Int)))->Option (bU (bU (List UInt8×Int×Int)))|0,_=>none|k+1,(b,n,o,c,e,f,d,g,h,i,j,l,m)=>cond (b<c.length) ((idx c b).bind λa=>aH (room (0+a.2.2.2.1.length) 24) (aH (room (0+a.2.2.2.2.1.length) 32) (aH (room (0+a.2.2.2.2.2.1.length) 16) (aH (room (0+a.2.2.2.2.2.2.length) 16) (aH (room (d.length+1) 128) (aB8 N k ((au (b+1)),n,o,c,e,f,(d++[(a.1,a.2.1,a.2.2.1,([]++a.2.2.2.1),([]++a.2.2.2.2.1),([]++a.2.2.2.2.2.1),([]++a.2.2.2.2.2.2))]),g,h,i,j,l,m))))))) (e,f,d,g,h,i,j,l,m)
def br9:∀k,aB8 N k=lp (WO N) 1011000 4 (tq 229) 4 a95 a96 k:=lpI (λ_=>rfl) λk=>by kernel_rfl
def WQ:ai:=(WO N).aa N 1011000 4 a95 a96
def a97:aX:=tm [(2,.P 0 2 0),(4,.P 0 4 1),(5,.P 0 5 2),(6,.D (.sl .I)),(8,.A .U 3),(9,.I)] [] [(0,2,.box 0 (cv bp)),(0,4,.box 1 [.str,.I,.I,.nil true,.nil true,.nil true,.nil true]),(0,5,.box 2 (bq dV))] 1 [3] 4
def a98:aW:=[(.exit 0,tm [(4,.P 0 4 0),(5,.P 0 5 1),(8,.A .U 2)] [] [(0,4,.box 0 [.str,.I,.I,.nil true,.nil true,.nil true,.nil true]),(0,5,.box 1 (bq dV))] 1 [2] 3)]
def aB9:Nat->List tmI×tmI×Int×bU (List UInt8×Int×Int×iw)->Option (tmI×List UInt8×Int×Int×iw)|0,_=>none|k+1,(a,b,c,d,e,f,g,h,i,j,l,m,n,o,p,q)=>cond (c<a.length) ((idx a c).bind λr=>(Ng N (d,e,f,r)).bind λs=>aH (room (b.length+1) 8) (aB9 k (a,(b++[(aK s)]),(au (c+1)),d,e,f,g,h,i,j,l,m,n,o,p,q))) (b,g,h,i,j,l,m,n,o,p,q)
def bs0:∀k,aB9 N k=tmq (WQ N) 6 175 a97 a98 k:=lpI (λ_=>rfl) λk=>by kernel_rfl
def auf:ai:=(WQ N).aa N 0 6 a97 a98
def WR:bU Int->Option iw|(e,d,f,g)=>(WM N e).bind λh=>aH (room (0+d.length) 16) ((aB8 N N (0,e,d,f,h,([]++d),[],e,d,f,([]:List UInt8),0,0)).bind λa=>(idx a.2.2.1 g).bind λc=>(Q5 N (a.2.2.2.1,a.2.2.2.2.1,a.2.2.2.2.2.1,g)).bind λi=>(aB9 N N (i.1,[],0,a.2.2.2.1,a.2.2.2.2.1,a.2.2.2.2.2.1,a.2.2.2.2.2.2.1,a.2.2.2.2.2.2.2.1,a.2.2.2.2.2.2.2.2,c.1,c.2.1,c.2.2.1,c.2.2.2.1,c.2.2.2.2.1,c.2.2.2.2.2.1,c.2.2.2.2.2.2)).bind λb=>(Q7 N b.1).bind λj=>(Nh N (b.2.2.2.2.2.2.2.2.1,b.2.2.2.2.2.1,(b.2.2.2.2.2.2.2.1.length:Int))).bind λl=>(Q7 N l).bind λm=>(b.2.2.2.2.1,b.2.2.2.2.2.1,b.2.2.2.2.2.2.1,b.2.2.2.2.2.2.2.1,b.2.2.2.2.2.2.2.2.1,j,m))
def agt:ai:=(agr N).put 175 ags (WR N)
def anQ:az bE (agt N):=(anP N).pu (auf N) (anP N).o.l.l (funext λ⟨a,b,c,d⟩=>by rw[WR,br9 N N,bs0 N N];kernel_rfl)
def agu:bH:=sg [.c (.sl cS .aY),.c (.sl cS .aY)] [tmf [.bool]]
def WS:ai:=(agt N).on agu
def a99:aX:=tmn [(0,.c (.sl cS .aY)),(1,.c (.sl cS .aY)),(5,.I)]
def ba0:aW:=[tmr [(4,.Q)],tmx]
def aC0(N:Nat):Nat->List Field×List Field×Int->Option (Bool⊕Unit)|0,_=>none|k+1,(b,c,a)=>cond (a<b.length) ((idx b a).bind λd=>(idx c a).bind λe=>cond (!(d.1==e.1&&(d.2==e.2&&true))) (some (Sum.inl false)) (aC0 N k (b,c,(au (a+1))))) (some (Sum.inr ()))
def bs1:∀k,aC0 N k=tmq (WS N) 6 226 a99 ba0 k:=lpI (λ_=>rfl) λk=>by kernel_rfl
def aug:ai:=(WS N).aa N 0 6 a99 ba0
def WT:List Field×List Field->Option Bool|(a,b)=>cond ((a.length:Int)!=(b.length:Int)) false ((aC0 N N (a,b,0)).bind λc=>match c with|.inl d=>d|.inr e=>true)
def agv:ai:=(agt N).put 226 agu (WT N)
def anR:az bE (agv N):=(anQ N).pu (aug N) (anQ N).o.l (funext λ⟨a,b⟩=>by rw[WT,bs1 N N];kernel_rfl)
def agw:bH:=sg [.c (.sl bt .aY),.c (.sl bt .aY)] [tmf [.bool]]
def WU:ai:=(agv N).on agw
def ba1:aX:=tmn [(0,.c (.sl bt .aY)),(1,.c (.sl bt .aY)),(5,.I)]
def ba2:aW:=[tmr [(4,.Q)],tmx]
def aC1(N:Nat):Nat->List Instr×List Instr×Int->Option (Bool⊕Unit)|0,_=>none|k+1,(d,e,a)=>cond (a<d.length) ((idx d a).bind λb=>(idx e a).bind λc=>cond (!(b.1==c.1&&(b.2.1==c.2.1&&(b.2.2.1==c.2.2.1&&(b.2.2.2==c.2.2.2&&true))))) (some (Sum.inl false)) (aC1 N k (d,e,(au (a+1))))) (some (Sum.inr ()))
def bs2:∀k,aC1 N k=tmq (WU N) 6 227 ba1 ba2 k:=lpI (λ_=>rfl) λk=>by kernel_rfl
def auh:ai:=(WU N).aa N 0 6 ba1 ba2
def WV:List Instr×List Instr->Option Bool|(a,b)=>cond ((a.length:Int)!=(b.length:Int)) false ((aC1 N N (a,b,0)).bind λc=>match c with|.inl d=>d|.inr e=>true)
def agx:ai:=(agv N).put 227 agw (WV N)
def anS:az bE (agx N):=(anR N).pu (auh N) (anR N).o.l (funext λ⟨a,b⟩=>by rw[WV,bs2 N N];kernel_rfl)
def agy:bH:=sg [.c (.sl iE .aY),.c (.sl iE .aY)] [tmf [.bool]]
def WW:ai:=(agx N).on agy
def ba3:aX:=tmn [(0,.c (.sl iE .aY)),(1,.c (.sl iE .aY)),(5,.I)]
def ba4:aW:=[tmr [(4,.Q)],tmx]
def aC2(N:Nat):Nat->List e8×List e8×Int->Option (Bool⊕Unit)|0,_=>none|k+1,(b,c,a)=>cond (a<b.length) ((idx b a).bind λd=>(idx c a).bind λe=>cond (!(d.1==e.1&&(d.2==e.2&&true))) (some (Sum.inl false)) (aC2 N k (b,c,(au (a+1))))) (some (Sum.inr ()))
def bs3:∀k,aC2 N k=tmq (WW N) 6 228 ba3 ba4 k:=lpI (λ_=>rfl) λk=>by kernel_rfl
def aui:ai:=(WW N).aa N 0 6 ba3 ba4
def Q8:List e8×List e8->Option Bool|(a,b)=>cond ((a.length:Int)!=(b.length:Int)) false ((aC2 N N (a,b,0)).bind λc=>match c with|.inl d=>d|.inr e=>true)
def anT:ai:=(agx N).put 228 agy (Q8 N)
def anU:az bE (anT N):=(anS N).pu (aui N) (anS N).o.l (funext λ⟨a,b⟩=>by rw[Q8,bs3 N N];kernel_rfl)
def anV:bH:=⟨[.agg (cv dV),.agg (cv dV)],[tmf [.bool]],0,[(0,1,4,.bool)],[],[],[]⟩
def WX:ajx iw->Option Bool|(a,b,c,d,e,f,g,h,i,j,l,m,n,o)=>(cond (a==h) (cond (b==i) (cond (c==j) ((WT N (d,l)).bind λp=>cond p ((WV N (e,m)).bind λq=>cond q ((Q8 N (f,n)).bind λr=>cond r ((Q8 N (g,o)).bind λs=>some s) (some false)) (some false)) (some false)) (some false)) (some false)) (some false)).bind λt=>t
def anW:ai:=(anT N).put 174 anV (WX N)
def anX:az bE (anW N):=(anU N).pl (by kernel_rfl)
def anY:bH:=sg [.agg (cv bp),.I] [tmf [.I],tmf [.I]]
def WY:bU Int->Option (Int×Int)|(f,g,d,e)=>(WK N (f,g,d,e)).bind λc=>cond (c.2==0) ((WR N (f,g,d,e)).bind λa=>(idx d e).bind λb=>(WX N (a.1,a.2.1,a.2.2.1,a.2.2.2.1,a.2.2.2.2.1,a.2.2.2.2.2.1,a.2.2.2.2.2.2,b.1,b.2.1,b.2.2.1,b.2.2.2.1,b.2.2.2.2.1,b.2.2.2.2.2.1,b.2.2.2.2.2.2)).bind λh=>cond (!h) (some ((-1),32)) (c.1,c.2)) (c.1,c.2)
def agz:ai:=(anW N).put 132 anY (WY N)
def anZ:az bE (agz N):=(anX N).pl (by kernel_rfl)
def s93:bH:=sg [.agg (cv bp)] [tmf [.I],tmf [.I],tmf [.I]]
def acP:ai:=(agz N).on s93
def ba5:aX:=tm [(1,.P 0 1 0),(6,.I)] [] [(0,1,.box 0 (cv bp))] 1 [] 1
def ba6:aW:=[tmr [(2,.I),(3,.I),(4,.I)],tmx]
def aC3:Nat->Int×dz->Option ((Int×Int×Int)⊕Unit)|0,_=>none|k+1,(a,d,e,b)=>cond (a<b.length) ((WY N (d,e,b,a)).bind λc=>cond (c.2!=0) (some (Sum.inl (a,c.1,c.2))) (aC3 k ((au (a+1)),d,e,b))) (some (Sum.inr ()))
def bs4:∀k,aC3 N k=tmq (acP N) 7 93 ba5 ba6 k:=lpI (λ_=>rfl) λk=>by kernel_rfl
def axR:ai:=(acP N).aa N 0 7 ba5 ba6
def F93:dz->Option (Int×Int×Int)|(b,c,d)=>(V8 N (b,c,d)).bind λe=>cond (e !=0) (some (0,0,e)) ((aC3 N N (0,b,c,d)).bind λf=>match f with|.inl a=>(a.1,a.2.1,a.2.2)|.inr g=>some (0,0,0))
def G93:ai:=(agz N).put 93 s93 (F93 N)
def K93:az bE (G93 N):=(anZ N).pu (axR N) (anZ N).o.l (funext λ⟨a,b,c⟩=>by rw[F93,bs4 N N];kernel_rfl)
def s43:bH:=sg [.agg (cv bp)] [tmf [.I]]
def F43:dz->Option Int|(a,b,c)=>(F93 N (a,b,c)).bind λd=>d.2.2
def G43:ai:=(G93 N).put 43 s43 (F43 N)
def K43:az bE (G43 N):=(K93 N).pl (by kernel_rfl)
def an1:bH:=⟨[.agg (bq BF)],[tmf [.bool]],0,[(0,1,2,.bool)],[],[],[]⟩
def aaz(N:Nat):xZ->Option Bool|(a,b,c,d)=>(cond (a>=1) (cond (a<=5000) (cond (b>=0) (cond (b<=4096) (cond (c>=0) (cond (c<=16384) (cond (d>=1) (some (decide (d<=16))) (some false)) (some false)) (some false)) (some false)) (some false)) (some false)) (some false)).bind λe=>e
def agA:ai:=(G43 N).put 133 an1 (aaz N)
def an2:az bE (agA N):=(K43 N).pl (by kernel_rfl)
def s94:bH:=⟨[.agg (cv Ia)],[tmf [.I]],0,[(0,1,13,.bool),(0,10,34,.bool)],[],[],[]⟩
def acQ:ai:=(agA N).on s94
def ba7:aX:=tm [(1,.P 0 1 0),(3,.I)] [] [(0,1,.box 0 (cv Ia))] 1 [] 1
def ba8:aW:=[tmr [(2,.I)],tmx]
def aE2(N:Nat):Nat->Int×BG->Option (Int⊕Unit)|0,_=>none|k+1,(a,b,c,d,e,f)=>cond (a<b.length) (((idx b a).bind λg=>cond (g<0) (some true) ((idx b a).bind λh=>some (decide (h>65535)))).bind λi=>cond i (some (Sum.inl 8)) (aE2 N k ((au (a+1)),b,c,d,e,f))) (some (Sum.inr ()))
def bs5:∀k,aE2 N k=tmq (acQ N) 6 94 ba7 ba8 k:=lpI (λ_=>rfl) λk=>by kernel_rfl
def axX:ai:=(acQ N).aa N 0 6 ba7 ba8
def F94:BG->Option Int|(a,b,c,d,e)=>(cond ((a.length:Int)>2000) (some true) ((aaz N (b,c,d,e)).bind λf=>some (!f))).bind λg=>cond g (some 8) ((aE2 N N (0,a,b,c,d,e)).bind λh=>match h with|.inl i=>i|.inr j=>some 0)
def G94:ai:=(agA N).put 94 s94 (F94 N)
def K94:az bE (G94 N):=(an2 N).pu (axX N) (an2 N).o.l (funext λ⟨a,b,c,d,e⟩=>by rw[F94,bs5 N N];kernel_rfl)
def s44:bH:=sg [.agg (bq BF)] [tmf [.bool]]
def F44:xZ->Option Bool|(a,b,c,d)=>(F94 N ([],a,b,c,d)).bind λe=>some (e==0)
def G44:ai:=(G94 N).put 44 s44 (F44 N)
def K44:az bE (G44 N):=(K94 N).pl (by kernel_rfl)
def s45:bH:=⟨[.agg (cv aF)],[tmf [.bool]],0,[(0,1,2,.bool)],[],[],[]⟩
def F45(N:Nat):Int×tmI->Option Bool|(b,a)=>(cond (b==65536) (cond ((Int.tmod (a.length:Int) 8)==0) (some (decide ((a.length:Int)<=16384))) (some false)) (some false)).bind λc=>c
def G45:ai:=(G44 N).put 45 s45 (F45 N)
def K45:az bE (G45 N):=(K44 N).pl (by kernel_rfl)
def s48:bH:=sg [.I] [tmf [.U]]
def F48(N:Nat):Int->Option Int|a=>some (aK (au (16777216*(au (a+1)))))
def G48:ai:=(G45 N).put 48 s48 (F48 N)
def K48:az bE (G48 N):=(K45 N).pl (by kernel_rfl)
def an4:bH:=⟨[.U],[tmf [.bool]],0,[(0,1,2,.bool)],[],[],[]⟩
def WZ(N:Nat):Int->Option Bool|a=>(cond ((aK (Int.tdiv a 256))>=1) (some (decide ((aK (Int.tdiv a 256))<=32))) (some false)).bind λb=>b
def an5:ai:=(G48 N).put 134 an4 (WZ N)
def an6:az bE (an5 N):=(K48 N).pl (by kernel_rfl)
def an7:bH:=⟨[.U],[tmf [.bool]],0,[(0,1,2,.bool)],[],[],[]⟩
def Q9(N:Nat):Int->Option Bool|a=>(cond (a==0) (some true) (cond (a>=65536) (some ((Int.tmod a 8)==0)) (some false))).bind λb=>b
def an8:ai:=(an5 N).put 135 an7 (Q9 N)
def an9:az bE (an8 N):=(an6 N).pl (by kernel_rfl)
def s95:bH:=⟨[.I,.agg (bq kA)],[tmf [.bool]],0,[(0,12,4,.bool),(0,14,4,.bool)],[],[],[(0,2,[tmr [(4,.Q)],(.normal,tm [(0,.I),(3,.P 0 3 0)] [] [(0,3,.box 0 (bq kA))] 1 [] 1)])]⟩
def F95:Int×Ko->Option Bool|(d,b,e,f,g,h,c)=>(cond (b==1) (cond (c !=0) (some (Sum.inl false)) (some (Sum.inr (d,b,e,f,g,h,c)))) (cond (b==2) (some (Sum.inr (d,b,e,f,g,h,c))) (cond (b==3) ((cond (e==0) ((F48 N d).bind λi=>cond (f==i) (cond (g==0) (cond (h==0) (some (c==0)) (some false)) (some false)) (some false)) (some false)).bind λj=>some (Sum.inl j)) (some (Sum.inl false))))).bind λl=>match l with|.inl m=>m|.inr a=>((WZ N a.2.2.1).bind λn=>cond n ((F48 N a.1).bind λo=>cond (a.2.2.2.1>=(aK (o+24))) ((F48 N a.1).bind λp=>cond (a.2.2.2.1<=(aK (p+4096))) (cond ((Int.tmod a.2.2.2.1 8)==0) ((Q9 N a.2.2.2.2.1).bind λq=>cond q ((Q9 N a.2.2.2.2.2.1).bind λr=>some r) (some false)) (some false)) (some false)) (some false)) (some false)).bind λs=>s
def G95:ai:=(an8 N).put 95 s95 (F95 N)
def K95:az bE (G95 N):=(an9 N).pl (by kernel_rfl)
def s46:bH:=⟨[.c (.sl kA .aY)],[tmf [.I]],0,[(0,1,11,.bool)],[],[],[]⟩
def acS:ai:=(G95 N).on s46
def ba9:aX:=tmn [(0,.c (.sl kA .aY)),(3,.I)]
def bb0:aW:=[tmr [(2,.I)],tmx]
def aC4:Nat->List eY×Int->Option (Int⊕Unit)|0,_=>none|k+1,(c,b)=>cond (b<c.length) ((idx c b).bind λa=>(F95 N (b,a.1,a.2.1,a.2.2.1,a.2.2.2.1,a.2.2.2.2.1,a.2.2.2.2.2)).bind λd=>cond (!d) (some (Sum.inl 8)) (aC4 k (c,(au (b+1))))) (some (Sum.inr ()))
def bs6:∀k,aC4 N k=tmq (acS N) 6 46 ba9 bb0 k:=lpI (λ_=>rfl) λk=>by kernel_rfl
def ayc:ai:=(acS N).aa N 0 6 ba9 bb0
def F46:List eY->Option Int|a=>(cond ((a.length:Int)==0) (some true) (some (decide ((a.length:Int)>16)))).bind λb=>cond b (some 8) ((aC4 N N (a,0)).bind λc=>match c with|.inl d=>d|.inr e=>some 0)
def G46:ai:=(G95 N).put 46 s46 (F46 N)
def K46:az bE (G46 N):=(K95 N).pu (ayc N) (K95 N).o.l (funext λa=>by rw[F46,bs6 N N];kernel_rfl)
def s96:bH:=sg [] [(true,(bq aF))]
def F96(N:Nat):Unit->Option (Int×tmI)|()=>some (65536,[])
def G96:ai:=(G46 N).put 96 s96 (F96 N)
def K96:az bE (G96 N):=(K46 N).pl (funext λ()=>by rw[F96];kernel_rfl)
def aoc:bH:=⟨[.agg (cv aF),.I],[tmf [.I]],0,[(0,4,13,.bool)],[],[],[]⟩
def W0:Int×tmI×Int->Option Int|(b,c,a)=>(F45 N (b,c)).bind λd=>cond (!d) (some 8) ((cond (a<0) (some true) (some (decide (a>16384)))).bind λe=>cond e (some 2) (some 0))
def agB:ai:=(G96 N).put 176 aoc (W0 N)
def aod:az bE (agB N):=(K96 N).pl (by kernel_rfl)
def agC:bH:=sg [.I] [tmf [.I]]
def W1:ai:=(agB N).on agC
def bb1:aX:=tmn [(0,.I),(3,.I)]
def bb2:aW:=[(.exit 0,tmn [(3,.I)])]
def aC5(N:Nat):Nat->Int×Int->Option Int|0,_=>none|k+1,(b,a)=>cond ((au (8*a))<b) (aC5 N k (b,(au (a+1)))) a
def bs7:∀k,aC5 N k=tmq (W1 N) 3 232 bb1 bb2 k:=lpI (λ_=>rfl) λk=>by kernel_rfl
def aun:ai:=(W1 N).aa N 0 3 bb1 bb2
def Ra:Int->Option Int|a=>(aC5 N N (a,1)).bind λb=>some (au (8*b))
def aoe:ai:=(agB N).put 232 agC (Ra N)
def aof:az bE (aoe N):=(aod N).pu (aun N) (aod N).o.l (funext λa=>by rw[Ra,bs7 N N];kernel_rfl)
def aog:bH:=sg [.agg (cv aF),.I,.I] [tmf [.bool]]
def aaA:Int×tmI×Int×Int->Option Bool|(e,a,b,c)=>(Ra N b).bind λd=>some (decide ((au ((a.length:Int)+d))<=c))
def aoh:ai:=(aoe N).put 177 aog (aaA N)
def aoi:az bE (aoh N):=(aof N).pl (by kernel_rfl)
def aoj:bH:=⟨[.agg (cv aF)],[(true,(bq aF))],2,[],[],[(0,5,.B)],[]⟩
def W2(N:Nat):Int×tmI->Option (Int×tmI)|(b,a)=>aH (room (0+a.length) 1) (some (b,([]++a)))
def agD:ai:=(aoh N).put 233 aoj (W2 N)
def aok:az bE (agD N):=(aoi N).pl (by kernel_rfl)
def agE:bH:=⟨[.agg (cv aF),.I],[(true,(bq aF)),tmf [.U]],2,[],[],[(0,18,.B)],[]⟩
def W3:ai:=(agD N).on agE
def bb3:aX:=tm [(1,.I),(2,.P 0 2 0),(4,.P 0 4 1),(6,.P 0 6 2),(7,.I)] [] [(0,2,.box 0 (cv aF)),(0,4,.box 1 [.U,.nil true]),(0,6,.box 2 [.U,.ref 0 9 3 .B]),(0,9,.row 3 .B)] 1 [] 4
def bb4:aW:=[(.exit 0,tm [(2,.P 0 2 0),(4,.P 0 4 1),(6,.P 0 6 2)] [] [(0,2,.box 0 (cv aF)),(0,4,.box 1 [.U,.nil true]),(0,6,.box 2 [.U,.ref 0 9 3 .B]),(0,9,.row 3 .B)] 1 [] 4)]
def aC6:Nat->Int×Int×Int×tmI×Int×Int×tmI->Option (Int×tmI×Int×Int×tmI)|0,_=>none|k+1,(b,c,d,e,f,g,a)=>(Ra N b).bind λh=>cond (c<h) (aH (room (a.length+1) 1) (aC6 k (b,(au (c+1)),d,e,f,g,(a++[0])))) (d,e,f,g,a)
def bs8:∀k,aC6 N k=tmq (W3 N) 4 178 bb3 bb4 k:=lpI (λ_=>rfl) λk=>by kernel_rfl
def auo:ai:=(W3 N).aa N 0 4 bb3 bb4
def W4:Int×tmI×Int->Option (Int×tmI×Int)|(b,c,e)=>(W2 N (b,c)).bind λd=>(aC6 N N (e,0,b,c,0,d.1,d.2)).bind λa=>some (a.2.2.2.1,a.2.2.2.2,(aK (65536+(aK (a.2.1.length:Int)))))
def aol:ai:=(agD N).put 178 agE (W4 N)
def aom:az bE (aol N):=(aok N).pu (auo N) (aok N).o.l (funext λ⟨a,b,c⟩=>by rw[W4,bs8 N N];kernel_rfl)
def aon:bH:=⟨[.agg (cv aF),.I,.I],[(true,(bq aF)),tmf [.U],tmf [.I]],2,[(0,4,24,.bool)],[],[],[]⟩
def aaB:Int×tmI×Int×Int->Option (Int×tmI×Int×Int)|(a,b,c,d)=>(W0 N (a,b,d)).bind λf=>cond (f !=0) ((W0 N (a,b,d)).bind λg=>some (0,[],0,g)) ((cond (c<0) (some true) (some (decide (c>4096)))).bind λh=>cond h (some (0,[],0,2)) ((aaA N (a,b,c,d)).bind λi=>cond (!i) (some (0,[],0,18)) ((W4 N (a,b,c)).bind λe=>some (e.1,e.2.1,e.2.2,0))))
def agF:ai:=(aol N).put 136 aon (aaB N)
def aoo:az bE (agF N):=(aom N).pl (by kernel_rfl)
def s97:bH:=sg [.agg (cv aF),.c (.sl .B .aY),.I] [(true,(bq aF)),tmf [.U],tmf [.I]]
def acT:ai:=(agF N).on s97
def bb5:aX:=tm [(1,.c (.sl .B .aY)),(3,.P 0 3 0),(6,.P 0 6 1),(9,.P 0 9 2),(10,.U),(12,.I)] [] [(0,3,.box 0 (cv aF)),(0,6,.box 1 [.U,.nil true]),(0,9,.box 2 [.U,.ref 0 18 3 .B]),(0,18,.row 3 .B)] 1 [] 4
def bb6:aW:=[(.exit 0,tm [(6,.P 0 6 0),(9,.P 0 9 1),(10,.U)] [] [(0,6,.box 0 [.U,.nil true]),(0,9,.box 1 [.U,.ref 0 18 2 .B]),(0,18,.row 2 .B)] 1 [] 3)]
def aC7(N:Nat):Nat->tmI×Int×Int×Int×tmI×Int×Int×tmI->Option (Int×Int×Int×tmI)|0,_=>none|k+1,(d,e,a,h,b,f,g,c)=>cond (a<d.length) ((idx d a).bind λi=>aH (fM (au ((b.length:Int)+a)) c.length) ((c[(Int.toNat (au ((b.length:Int)+a)))]?).bind λj=>aC7 N k (d,e,(au (a+1)),h,b,f,g,(c.set (Int.toNat (au ((b.length:Int)+a))) i)))) (e,f,g,c)
def bs9:∀k,aC7 N k=tmq (acT N) 7 97 bb5 bb6 k:=lpI (λ_=>rfl) λk=>by kernel_rfl
def ayi:ai:=(acT N).aa N 0 7 bb5 bb6
def F97:Int×tmI×tmI×Int->Option (Int×tmI×Int×Int)|(c,d,e,f)=>(aaB N (c,d,(e.length:Int),f)).bind λa=>cond (a.2.2.2!=0) (some (0,[],0,a.2.2.2)) ((aC7 N N (e,a.2.2.1,0,c,d,0,a.1,a.2.1)).bind λb=>some (b.2.2.1,b.2.2.2,b.1,0))
def G97:ai:=(agF N).put 97 s97 (F97 N)
def K97:az bE (G97 N):=(aoo N).pu (ayi N) (aoo N).o.l (funext λ⟨a,b,c,d⟩=>by rw[F97,bs9 N N];kernel_rfl)
def s47:bH:=⟨[.c (.sl .str .aY),.I],[(true,(bq aF)),tmf [.D .U],tmf [.I]],0,[(0,1,19,.bool)],[],[(0,64,.U)],[]⟩
def acU:ai:=(G97 N).on s47
def bb7:aX:=tm [(0,.c (.sl .str .aY)),(1,.I),(4,.P 0 4 0),(7,.I)] [] [(0,4,.box 0 [.U,.nil true])] 1 [] 1
def bb8:aW:=[(.ret,tm [(4,.P 0 4 0),(5,.N),(6,.I)] [] [(0,4,.box 0 [.U,.nil true])] 1 [] 1),(.exit 0,tm [(0,.c (.sl .str .aY)),(1,.I),(4,.P 0 4 0)] [] [(0,4,.box 0 [.U,.nil true])] 1 [] 1)]
def aC8(N:Nat):Nat->List (List UInt8)×Int×Int×Int->Option ((Int×Int)⊕(List (List UInt8)×Int×Int))|0,_=>none|k+1,(a,c,b,d)=>cond (b<a.length) ((idx a b).bind λe=>cond ((e.length:Int)>64) (some (Sum.inl (2,0))) (aC8 N k (a,c,(au (b+1)),d))) (some (Sum.inr (a,c,d)))
def bt0:∀k,aC8 N k=tmq (acU N) 9 47 bb7 bb8 k:=lpI (λ_=>rfl) λk=>by kernel_rfl
def acV:ai:=(acU N).aa N 0 9 bb7 bb8
def bb9:aX:=tm [(0,.c (.sl .str .aY)),(1,.I),(4,.P 0 4 0),(8,.P 0 8 1),(9,.A .U 2),(10,.I)] [] [(0,4,.box 0 [.U,.nil true]),(0,8,.box 1 (bq aF))] 1 [2] 3
def bc0:aW:=[(.ret,tm [(4,.P 0 4 0),(5,.N),(6,.I)] [] [(0,4,.box 0 [.U,.nil true])] 1 [] 1),(.exit 2,tm [(4,.P 0 4 0),(8,.P 0 8 1),(9,.A .U 2)] [] [(0,4,.box 0 [.U,.nil true]),(0,8,.box 1 (bq aF))] 1 [2] 3)]
def ah3:Nat->List (List UInt8)×Int×tmI×Int×Int×Int×tmI->Option ((Int×Int)⊕(tmI×Int×Int×tmI))|0,_=>none|k+1,(b,e,c,d,f,g,h)=>cond (d<b.length) ((idx b d).bind λi=>(F97 N (g,h,(bP i),e)).bind λa=>cond (a.2.2.2!=0) (some (Sum.inl (a.2.2.2,0))) (aH (room (c.length+1) 8) (ah3 k (b,e,(c++[a.2.2.1]),(au (d+1)),f,a.1,a.2.1)))) (some (Sum.inr (c,f,g,h)))
def bt1:∀k,ah3 N k=tmq (acV N) 21 47 bb9 bc0 k:=lpI (λ_=>rfl) λk=>by kernel_rfl
def ayk:ai:=(acV N).aa N 0 21 bb9 bc0
def F47:List (List UInt8)×Int->Option (Int×tmI×tmI×Int)|(d,a)=>(cond (a<0) (some true) (some (decide (a>16384)))).bind λh=>cond h (some (0,[],[],2)) (cond ((d.length:Int)>32) (some (0,[],[],4)) ((aC8 N N (d,a,0,0)).bind λi=>match i with|.inl e=>some (e.2,[],[],e.1)|.inr b=>(F96 N ()).bind λf=>(ah3 N N (b.1,b.2.1,[],0,b.2.2,f.1,f.2)).bind λj=>match j with|.inl g=>some (g.2,[],[],g.1)|.inr c=>some (c.2.2.1,c.2.2.2,c.1,0)))
def G47:ai:=(G97 N).put 47 s47 (F47 N)
def K47:az bE (G47 N):=(K97 N).pu (ayk N) (K97 N).o.l.l (funext λ⟨a,b⟩=>by rw[F47,bt0 N N,bt1 N N];kernel_rfl)
def s49:bH:=⟨[.agg (cv aF)],[tmf [.bool]],0,[(0,9,2,.bool)],[],[],[]⟩
def acW:ai:=(G47 N).on s49
def bc1:aX:=tm [(1,.P 0 1 0),(3,.U)] [] [(0,1,.box 0 (cv aF))] 1 [] 1
def bc2:aW:=[tmr [(2,.Q)],tmx]
def av3(N:Nat):Nat->Int×Int×tmI->Option (Bool⊕Unit)|0,_=>none|k+1,(a,c,b)=>cond (a<=16) (cond (c==(aK (16777216*a))) ((cond ((Int.tmod (b.length:Int) 8)==0) (some (decide ((b.length:Int)<=4096))) (some false)).bind λd=>some (Sum.inl d)) (av3 N k ((aK (a+1)),c,b))) (some (Sum.inr ()))
def bt2:∀k,av3 N k=tmq (acW N) 3 49 bc1 bc2 k:=lpI (λ_=>rfl) λk=>by kernel_rfl
def aym:ai:=(acW N).aa N 0 3 bc1 bc2
def F49:Int×tmI->Option Bool|(a,b)=>(av3 N N (1,a,b)).bind λc=>match c with|.inl d=>d|.inr e=>false
def G49:ai:=(G47 N).put 49 s49 (F49 N)
def K49:az bE (G49 N):=(K47 N).pu (aym N) (K47 N).o.l (funext λ⟨a,b⟩=>by rw[F49,bt2 N N];kernel_rfl)
def s51:bH:=⟨[.agg (cv bp),.U],[tmf [.I],tmf [.I],tmf [.bool]],0,[(0,1,20,.bool)],[],[],[]⟩
def F51(N:Nat):bU Int->Option (Int×Int×Bool)|(e,f,b,a)=>(cond (a<256) (some true) (some (decide (a>=(aK (au (256*(au ((b.length:Int)+1))))))))).bind λc=>cond c (some (0,0,false)) ((idx b (au ((au (aK (Int.tdiv a 256)))-1))).bind λd=>cond ((au (Int.tmod a 256))>=(d.2.2.2.2.1.length:Int)) (some (0,0,false)) (some ((au ((au (aK (Int.tdiv a 256)))-1)),(au (Int.tmod a 256)),true)))
def G51:ai:=(G49 N).put 51 s51 (F51 N)
def K51:az bE (G51 N):=(K49 N).pl (by kernel_rfl)
def s99:bH:=sg [.c (.sl aR .aY),.c (.sl cS .aY)] [tmf [.D .I],tmf [.I],tmf [.I]]
def F99:List aA×List Field->Option (tmI×Int×Int)|(c,d)=>(ET N c).bind λb=>(Nb N (b.1,b.2,d)).bind λa=>(a.1,a.2.1,a.2.2)
def G99:ai:=(G51 N).put 99 s99 (F99 N)
def K99:az bE (G99 N):=(K51 N).pl (by kernel_rfl)
def s54:bH:=⟨[.agg (cv bp),.I],[tmf [.D .I],tmf [.I]],0,[],[],[(0,26,.I)],[]⟩
def acX:ai:=(G99 N).on s54
def bc3:aX:=tm [(6,.D .I),(7,.I),(9,.R 0 26 0 .I),(10,.I)] [] [(0,26,.row 0 .I)] 1 [] 1
def bc4:aW:=[(.exit 0,tm [(7,.I),(9,.R 0 26 0 .I)] [] [(0,26,.row 0 .I)] 1 [] 1)]
def av4(N:Nat):Nat->tmI×Int×Int×tmI->Option (Int×tmI)|0,_=>none|k+1,(c,d,a,b)=>cond (a<c.length) ((idx c a).bind λe=>aH (fM a b.length) ((b[a.toNat]?).bind λf=>av4 N k (c,d,(au (a+1)),(b.set a.toNat (au (24+e)))))) (d,b)
def bt3:∀k,av4 N k=tmq (acX N) 5 54 bc3 bc4 k:=lpI (λ_=>rfl) λk=>by kernel_rfl
def ayu:ai:=(acX N).aa N 0 5 bc3 bc4
def F54:bU Int->Option (tmI×Int)|(c,h,d,e)=>(idx d e).bind λf=>(F99 N (c,f.2.2.2.1)).bind λa=>aH (decide (0<=(a.1.length:Int))) (aH (decide (0<=(a.1.length:Int))) (aH (decide ((Int.toNat (a.1.length:Int))<=(Int.toNat (a.1.length:Int)))&&room (Int.toNat (a.1.length:Int)) 8) ((av4 N N (a.1,a.2.1,0,(List.replicate (Int.toNat (a.1.length:Int)) (0:Int)))).bind λb=>(KK N b.1).bind λg=>some (b.2,(au (24+g))))))
def G54:ai:=(G99 N).put 54 s54 (F54 N)
def K54:az bE (G54 N):=(K99 N).pu (ayu N) (K99 N).o.l (funext λ⟨a,b,c,d⟩=>by rw[F54,bt3 N N];kernel_rfl)
def s53:bH:=⟨[.c (.sl iE .aY),.I],[tmf [.U]],0,[(0,9,5,.U)],[],[],[]⟩
def acY:ai:=(G54 N).on s53
def bc5:aX:=tmn [(0,.c (.sl iE .aY)),(1,.I),(5,.U),(6,.I)]
def bc6:aW:=[(.exit 0,tmn [(5,.U)])]
def aC9(N:Nat):Nat->List e8×Int×Int×Int->Option Int|0,_=>none|k+1,(a,c,d,b)=>cond (b<a.length) ((idx a b).bind λe=>(cond (e.1<=c) ((idx a b).bind λf=>some f.2) (some d)).bind λg=>aC9 N k (a,c,g,(au (b+1)))) d
def bt4:∀k,aC9 N k=tmq (acY N) 4 53 bc5 bc6 k:=lpI (λ_=>rfl) λk=>by kernel_rfl
def ayw:ai:=(acY N).aa N 0 4 bc5 bc6
def F53:List e8×Int->Option Int|(a,b)=>(aC9 N N (a,b,0,0)).bind λc=>c
def G53:ai:=(G54 N).put 53 s53 (F53 N)
def K53:az bE (G53 N):=(K54 N).pu (ayw N) (K54 N).o.l (funext λ⟨a,b⟩=>by rw[F53,bt4 N N];kernel_rfl)
def s52:bH:=sg [.agg (cv bp),.I,.I] [tmf [.I]]
def F52:bU (Int×Int)->Option Int|(d,e,a,b,f)=>(F54 N (d,e,a,b)).bind λg=>(idx a b).bind λh=>(F53 N (h.2.2.2.2.2.1,f)).bind λc=>cond (c>4096) (some 4097) (some (au (g.2+(au c))))
def G52:ai:=(G53 N).put 52 s52 (F52 N)
def K52:az bE (G52 N):=(K53 N).pl (by kernel_rfl)
def aor:bH:=⟨[.agg (cv aF),.U,.I],[tmf [.bool]],0,[(0,1,12,.bool),(0,4,6,.bool)],[],[],[]⟩
def DH(N:Nat):Int×tmI×Int×Int->Option Bool|(b,d,a,c)=>(cond (c>20000) (some true) (some (decide (a>2199023255552)))).bind λe=>cond e false ((cond (a>=b) (some (decide ((aK (a+(aK c)))<=(aK (b+(aK (d.length:Int))))))) (some false)).bind λf=>f)
def agG:ai:=(G52 N).put 106 aor (DH N)
def aos:az bE (agG N):=(K52 N).pl (by kernel_rfl)
def agH:bH:=sg [.agg (cv aF),.U,.I] [tmf [.U]]
def W5:ai:=(agG N).on agH
def bc7:aX:=tm [(1,.U),(2,.I),(3,.P 0 3 0),(7,.U),(8,.U),(9,.I)] [] [(0,3,.box 0 (cv aF))] 1 [] 1
def bc8:aW:=[(.exit 0,tmn [(7,.U)])]
def H0(N:Nat):Nat->Int×Int×Int×Int×Int×Int×tmI->Option Int|0,_=>none|k+1,(b,c,d,e,a,f,g)=>cond (a<c) ((idx g (aK ((aK (b-f))+(aK a)))).bind λh=>H0 N k (b,c,(aK (d+(aK (e*(aK h))))),(aK (e*256)),(au (a+1)),f,g)) d
def bt5:∀k,H0 N k=tmq (W5 N) 4 137 bc7 bc8 k:=lpI (λ_=>rfl) λk=>by kernel_rfl
def auz:ai:=(W5 N).aa N 0 4 bc7 bc8
def DI:Int×tmI×Int×Int->Option Int|(a,b,c,d)=>(H0 N N (c,d,0,1,0,a,b)).bind λe=>e
def aot:ai:=(agG N).put 137 agH (DI N)
def aou:az bE (aot N):=(aos N).pu (auz N) (aos N).o.l (funext λ⟨a,b,c,d⟩=>by rw[DI,bt5 N N];kernel_rfl)
def aov:bH:=⟨[.U,.U],[tmf [.bool]],0,[(0,1,4,.bool)],[],[],[]⟩
def W6(N:Nat):Int×Int->Option Bool|(a,b)=>(cond (a==0) (cond (b==0) (some true) (cond (a==2) (some (decide (b>0))) (cond (a==3) (some (decide (b>0))) (some false)))) (cond (a==1) (cond (b==0) (some true) (cond (a==2) (some (decide (b>0))) (cond (a==3) (some (decide (b>0))) (some false)))) (cond (a==2) (some (decide (b>0))) (cond (a==3) (some (decide (b>0))) (some false))))).bind λc=>c
def aow:ai:=(aot N).put 138 aov (W6 N)
def aox:az bE (aow N):=(aou N).pl (by kernel_rfl)
def s98:bH:=⟨[.agg (cv aF),.U],[tmf [.U],tmf [.U],tmf [.U],tmf [.I]],0,[(0,4,22,.bool)],[],[],[]⟩
def F98:Int×tmI×Int->Option (Int×Int×Int×Int)|(a,b,c)=>(F49 N (a,b)).bind λf=>cond (!f) (some (0,0,0,8)) ((cond ((Int.tmod c 8)!=0) (some true) ((DH N (a,b,c,24)).bind λg=>some (!g))).bind λh=>cond h (some (0,0,0,16)) ((DI N (a,b,c,8)).bind λi=>(DI N (a,b,(aK (c+8)),8)).bind λd=>(DI N (a,b,(aK (c+16)),8)).bind λe=>(W6 N (d,e)).bind λj=>cond (!j) (some (0,0,0,12)) (some (i,d,e,0))))
def G98:ai:=(aow N).put 98 s98 (F98 N)
def K98:az bE (G98 N):=(aox N).pl (by kernel_rfl)
def s50:bH:=⟨[.agg (cv aF),.agg (cv bp),.U],[tmf [.D AH],tmf [.I]],0,[(0,11,49,.bool),(0,16,95,.bool),(0,25,10,.I)],[],[(0,105,AH)],[]⟩
def acZ:ai:=(G98 N).on s50
def bc9:aX:=tm [(2,.U),(3,.P 0 3 0),(4,.P 0 4 1),(8,.A AH 2),(9,.U),(10,.I)] [] [(0,3,.box 0 (cv aF)),(0,4,.box 1 (cv bp))] 1 [2] 3
def bd0:aW:=[(.ret,tmv [(6,.A AH 0),(7,.I)] 0 1)]
def aD0:Nat->Int×List Km×Int×Int×Int×tmI×dz->Option (List Km×Int)|0,_=>none|k+1,(m,f,c,j,e,l,g,h,i)=>(F51 N (g,h,i,m)).bind λd=>cond (!d.2.2) (some ([],6)) ((F52 N (g,h,i,d.1,d.2.1)).bind λb=>(cond ((aK b)>4096) (some true) (some (decide ((aK b)>(aK (c-e)))))).bind λn=>cond n (some ([],16)) ((F98 N (e,l,(aK (c-(aK b))))).bind λa=>(cond (a.2.2.2!=0) (some true) (cond (a.1==0) (cond ((aK (c-(aK b)))!=e) (some true) (cond (a.1!=0) (cond ((aK (c-(aK b)))==e) (some true) (cond (a.2.1==0) (cond (a.1!=0) (some ((Int.tmod a.1 256)==0)) (some false)) (some false))) (cond (a.2.1==0) (cond (a.1!=0) (some ((Int.tmod a.1 256)==0)) (some false)) (some false)))) (cond (a.1!=0) (cond ((aK (c-(aK b)))==e) (some true) (cond (a.2.1==0) (cond (a.1!=0) (some ((Int.tmod a.1 256)==0)) (some false)) (some false))) (cond (a.2.1==0) (cond (a.1!=0) (some ((Int.tmod a.1 256)==0)) (some false)) (some false))))).bind λo=>cond o (some ([],12)) (aH (room (f.length+1) 40) (cond (a.1==0) (some ((f++[((aK (c-(aK b))),d.1,(au (d.2.1-j)),a.2.1,a.2.2.1)]),0)) ((cond (a.2.1==0) (some 1) (some 0)).bind λp=>aD0 k (a.1,(f++[((aK (c-(aK b))),d.1,(au (d.2.1-j)),a.2.1,a.2.2.1)]),(aK (c-(aK b))),p,e,l,g,h,i))))))
def bt6:∀k,aD0 N k=tmq (acZ N) 4 50 bc9 bd0 k:=lpI (λ_=>rfl) λk=>by kernel_rfl
def ayE:ai:=(acZ N).aa N 0 4 bc9 bd0
def Y2:Int×tmI×bU Int->Option (List Km×Int)|(a,b,d,e,f,g)=>(aD0 N N (g,[],(aK (a+(aK (b.length:Int)))),0,a,b,d,e,f)).bind λc=>(c.1,c.2)
def G50:ai:=(G98 N).put 50 s50 (Y2 N)
def K50:az bE (G50 N):=(K98 N).pu (ayE N) (K98 N).o.l (funext λ⟨a,b,c,d,e,f⟩=>by rw[Y2,bt6 N N];kernel_rfl)
def s15:bH:=⟨[.agg (cv fF)],[tmf [.I]],0,[(0,1,33,.bool),(0,4,71,.bool),(0,18,156,.bool)],[],[],[]⟩
def ac1:ai:=(G50 N).on s15
def bd1:aX:=tm [(1,.P 0 1 0),(6,.I)] [] [(0,1,.box 0 (cv fF))] 1 [] 1
def bd2:aW:=[tmr [(2,.I)],tmx]
def ah4:Nat->Int×pH->Option (Int⊕Unit)|0,_=>none|k+1,(b,d,e,f,j,g,l,m,n,o,c,h,p)=>cond (b<c.length) ((idx c b).bind λa=>(idx h b).bind λi=>((F48 N b).bind λq=>cond (a.1!=q) (some true) ((F49 N (a.1,a.2)).bind λr=>cond (!r) (some true) (cond ((aK (a.1+(aK (a.2.length:Int))))!=i.2.2.1) (some true) (some (decide ((a.2.length:Int)>g)))))).bind λs=>cond s (some (Sum.inl 8)) (cond (i.1==3) (ah4 k ((au (b+1)),d,e,f,j,g,l,m,n,o,c,h,p)) ((Y2 N (a.1,a.2,d,e,f,i.2.1)).bind λt=>cond (t.2!=0) (some (Sum.inl 8)) (ah4 k ((au (b+1)),d,e,f,j,g,l,m,n,o,c,h,p))))) (some (Sum.inr ()))
def bt7:∀k,ah4 N k=tmq (ac1 N) 13 15 bd1 bd2 k:=lpI (λ_=>rfl) λk=>by kernel_rfl
def ayG:ai:=(ac1 N).aa N 0 13 bd1 bd2
def F15:pH->Option Int|(i,e,j,f,l,c,g,m,a,n,d,h)=>((F43 N (i,e,j)).bind λo=>cond (o !=0) (some true) ((F44 N (f,l,c,g)).bind λp=>cond (!p) (some true) (cond (h<0) (some true) (some (decide (h>f)))))).bind λq=>cond q (some 8) (((F45 N (m,a)).bind λr=>cond (!r) (some true) (cond ((a.length:Int)>c) (some true) ((F46 N d).bind λs=>cond (s !=0) (some true) (cond ((d.length:Int)>g) (some true) (some ((n.length:Int)!=(d.length:Int))))))).bind λt=>cond t (some 8) ((F47 N (e,c)).bind λb=>cond (b.2.2.2!=0) (some 8) (cond ((b.2.1.length:Int)>(a.length:Int)) (some 8) (aH (decide (0<=(b.2.1.length:Int))) (aH (decide ((Int.toNat (b.2.1.length:Int))<=a.length)) (cond (!((b.2.1.map λ(n:Int)=>UInt8.ofNat n.toNat)==((a.take (Int.toNat (b.2.1.length:Int))).map λ(n:Int)=>UInt8.ofNat n.toNat))) (some 8) ((ah4 N N (0,i,e,j,f,l,c,g,m,a,n,d,h)).bind λu=>match u with|.inl v=>v|.inr w=>some 0)))))))
def G15:ai:=(G50 N).put 15 s15 (F15 N)
def K15:az bE (G15 N):=(K50 N).pu (ayG N) (K50 N).o.l (funext λ⟨a,b,c,d,e,f,g,h,i,j,l,m⟩=>by rw[F15,bt7 N N];kernel_rfl)
def s16:bH:=sg [.agg (cv fF),.I] [tmf [.I],tmf [.I],tmf [.U]]
def F16:pI Int->Option (Int×Int×Int)|(b,c,d,j,l,m,n,o,p,q,e,r,f)=>(idx e f).bind λg=>(F51 N (b,c,d,g.2.1)).bind λa=>(idx e f).bind λh=>(F52 N (b,c,d,a.1,a.2.1)).bind λi=>some (a.1,a.2.1,(aK (h.2.2.1-(aK i))))
def G16:ai:=(G15 N).put 16 s16 (F16 N)
def K16:az bE (G16 N):=(K15 N).pl (by kernel_rfl)
def s17:bH:=sg [.agg (cv bp),.I,.I,.I] [tmf [.bool]]
def F17:bU (Int×Int×Int)->Option Bool|(g,h,b,c,d,a)=>(idx b c).bind λe=>(F53 N (e.2.2.2.2.2.2,d)).bind λf=>aH (!(a<0)) (some ((Int.tmod (Int.fdiv f (2^min a.toNat 64)) 2)==1))
def G17:ai:=(G16 N).put 17 s17 (F17 N)
def K17:az bE (G17 N):=(K16 N).pl (by kernel_rfl)
def s18:bH:=sg [.agg (cv fF),.I,.I] [tmf [.U],tmf [.I]]
def F18:pI (Int×Int)->Option (Int×Int)|(c,d,a,f,g,h,i,j,l,m,n,o,p,e)=>(F16 N (c,d,a,f,g,h,i,j,l,m,n,o,p)).bind λb=>(F54 N (c,d,a,b.1)).bind λq=>(idx q.1 e).bind λr=>(idx a b.1).bind λs=>(idx s.2.2.2.1 e).bind λt=>some ((aK (b.2.2+(aK r))),t.2)
def G18:ai:=(G17 N).put 18 s18 (F18 N)
def K18:az bE (G18 N):=(K17 N).pl (by kernel_rfl)
def s20:bH:=⟨[.agg (bq fF)],[tmf [.D aF]],0,[],[],[(0,5,aF)],[]⟩
def F20(N:Nat):pH->Option (List Region)|(d,e,f,g,h,i,j,b,c,a,l,m)=>aH (room (1+a.length) 32) (some ([(b,c)]++a))
def G20:ai:=(G18 N).put 20 s20 (F20 N)
def K20:az bE (G20 N):=(K18 N).pl (by kernel_rfl)
def aoz:bH:=⟨[.c (.sl aR .aY),.I,.I],[tmf [.I]],0,[(0,4,27,.bool)],[],[],[]⟩
def aaC:List aA×Int×Int->Option Int|(a,b,c)=>(QT N a).bind λd=>cond (d !=0) (some 8) ((cond (b<0) (some true) (cond (b>=a.length) (some true) (cond (c<0) (some true) (some (decide (c>=a.length)))))).bind λe=>cond e (some 2) (some 0))
def aoA:ai:=(G20 N).put 143 aoz (aaC N)
def aoB:az bE (aoA N):=(K20 N).pl (by kernel_rfl)
def aoC:bH:=sg [.c (.sl aR .aY),.I] [tmf [.I]]
def aaD:List aA×Int->Option Int|(b,a)=>(aaC N (b,a,a)).bind λc=>cond (c !=0) c ((ET N b).bind λd=>(idx d.1 a).bind λe=>cond (e>256) (some 16) (some 0))
def aoD:ai:=(aoA N).put 104 aoC (aaD N)
def aoE:az bE (aoD N):=(aoB N).pl (by kernel_rfl)
def s57:bH:=sg [.c (.sl aR .aY),.I] [tmf [.I],tmf [.I],tmf [.I]]
def F57:List aA×Int->Option (Int×Int×Int)|(b,a)=>(aaD N (b,a)).bind λc=>cond (c !=0) (some (0,0,c)) ((ET N b).bind λd=>(idx d.1 a).bind λe=>(idx d.2 a).bind λf=>some (e,f,0))
def G57:ai:=(aoD N).put 57 s57 (F57 N)
def K57:az bE (G57 N):=(aoE N).pl (by kernel_rfl)
def aoF:bH:=⟨[.agg (cv aR)],[tmf [.D .I]],0,[(0,2,13,.bool)],[],[(0,17,.I)],[]⟩
def W7:oo->Option tmI|(a,c,d,e)=>(QS N (a,c,d,e)).bind λb=>(cond (a==4) (some true) (some (a==7))).bind λf=>cond f (aH (room (b.length+1) 8) (some (b++[c]))) b
def agK:ai:=(G57 N).put 141 aoF (W7 N)
def aoG:az bE (agK N):=(K57 N).pl (by kernel_rfl)
def agL:bH:=⟨[.c (.sl aR .aY),.I],[tmf [.D .I]],0,[(0,19,44,.bool)],[],[(0,14,.bool),(0,65,.I)],[]⟩
def W8:ai:=(agK N).on agL
def bd3:aX:=tm [(0,.c (.sl aR .aY)),(5,.R 0 14 0 .bool),(6,.I),(7,.I),(8,.D .I),(9,.I)] [] [(0,14,.row 0 .bool)] 1 [] 1
def bd4:aW:=[(.exit 4,tm [(0,.c (.sl aR .aY)),(5,.R 0 14 0 .bool),(6,.I),(7,.I)] [] [(0,14,.row 0 .bool)] 1 [] 1)]
def aD1(N:Nat):Nat->List aA×Int×Int×tmI×Int×List Bool->Option (List aA×Int×Int×List Bool)|0,_=>none|k+1,(f,g,b,c,d,a)=>(cond (d<c.length) (aH (fM b a.length) ((a[b.toNat]?).bind λh=>some h)) (some false)).bind λi=>cond i ((idx c d).bind λe=>aH (fM e a.length) ((a[e.toNat]?).bind λj=>aD1 N k (f,g,b,c,(au (d+1)),(a.set e.toNat true)))) (f,g,b,a)
def bt8:∀k,aD1 N k=tmq (W8 N) 18 101 bd3 bd4 k:=lpI (λ_=>rfl) λk=>by kernel_rfl
def W9:ai:=(W8 N).aa N 0 18 bd3 bd4
def bd5:aX:=tm [(0,.c (.sl aR .aY)),(5,.R 0 14 0 .bool),(6,.I),(7,.I)] [] [(0,14,.row 0 .bool)] 1 [] 1
def bd6:aW:=[(.exit 2,tm [(0,.c (.sl aR .aY)),(5,.R 0 14 0 .bool),(6,.I)] [] [(0,14,.row 0 .bool)] 1 [] 1)]
def av6:Nat->List aA×Int×Int×List Bool->Option (List aA×Int×List Bool)|0,_=>none|k+1,(a,e,d,f)=>cond (d<a.length) ((idx a d).bind λb=>(W7 N (b.1,b.2.1,b.2.2.1,b.2.2.2)).bind λg=>(aD1 N N (a,e,d,g,0,f)).bind λc=>av6 k (c.1,c.2.1,(au (c.2.2.1+1)),c.2.2.2)) (a,e,f)
def bd7:∀k,av6 N k=tmq (W9 N) 11 101 bd5 bd6 k|0=>rfl|k+1=>funext λ⟨a,b,c,d⟩=>by rw[av6,bd7 k,bt8 N N];kernel_rfl
def Xa:ai:=(W9 N).aa N 0 11 bd5 bd6
def bd8:aX:=tm [(0,.c (.sl aR .aY)),(5,.R 0 14 0 .bool),(6,.I)] [] [(0,14,.row 0 .bool)] 1 [] 1
def bd9:aW:=[(.exit 0,tm [(0,.c (.sl aR .aY)),(5,.R 0 14 0 .bool)] [] [(0,14,.row 0 .bool)] 1 [] 1)]
def av7:Nat->List aA×Int×List Bool->Option (List aA×List Bool)|0,_=>none|k+1,(a,c,d)=>cond (c<a.length) ((av6 N N (a,c,0,d)).bind λb=>av7 k (b.1,(au (b.2.1+1)),b.2.2)) (a,d)
def be0:∀k,av7 N k=tmq (Xa N) 5 101 bd8 bd9 k|0=>rfl|k+1=>funext λ⟨a,b,c⟩=>by rw[av7,be0 k,bd7 N N];kernel_rfl
def Xb:ai:=(Xa N).aa N 0 5 bd8 bd9
def be1:aX:=tm [(0,.c (.sl aR .aY)),(5,.R 0 14 0 .bool),(10,.A .I 1),(11,.I)] [] [(0,14,.row 0 .bool)] 1 [1] 2
def be2:aW:=[(.exit 6,tmv [(10,.A .I 0)] 0 1)]
def av8(N:Nat):Nat->List aA×tmI×Int×List Bool->Option tmI|0,_=>none|k+1,(d,b,a,c)=>cond (a<d.length) (aH (fM a c.length) ((c[a.toNat]?).bind λe=>cond e (aH (room (b.length+1) 8) (av8 N k (d,(b++[a]),(au (a+1)),c))) (av8 N k (d,b,(au (a+1)),c)))) b
def bt9:∀k,av8 N k=tmq (Xb N) 29 101 be1 be2 k:=lpI (λ_=>rfl) λk=>by kernel_rfl
def auE:ai:=(Xb N).aa N 0 29 be1 be2
def Xe:List aA×Int->Option tmI|(a,b)=>aH (decide (0<=(a.length:Int))) (aH (decide (0<=(a.length:Int))) (aH (decide ((Int.toNat (a.length:Int))<=(Int.toNat (a.length:Int)))&&room (Int.toNat (a.length:Int)) 1) (aH (fM b (List.replicate (Int.toNat (a.length:Int)) false).length) (((List.replicate (Int.toNat (a.length:Int)) false)[b.toNat]?).bind λe=>(av7 N N (a,0,((List.replicate (Int.toNat (a.length:Int)) false).set b.toNat true))).bind λc=>(av8 N N (c.1,[],0,c.2)).bind λd=>d))))
def agM:ai:=(agK N).put 101 agL (Xe N)
def aoH:az bE (agM N):=(aoG N).pu (auE N) (aoG N).o.l.l.l.l (funext λ⟨a,b⟩=>by rw[Xe,be0 N N,bt9 N N];kernel_rfl)
def s55:bH:=sg [.c (.sl aR .aY),.I] [tmf [.I]]
def ac3:ai:=(agM N).on s55
def be3:aX:=tmn [(0,.c (.sl aR .aY)),(8,.D .I),(9,.I)]
def be4:aW:=[tmr [(4,.I)],tmx]
def aD2:Nat->List aA×tmI×Int->Option (Int⊕Unit)|0,_=>none|k+1,(c,a,b)=>cond (b<a.length) ((idx a b).bind λe=>(F57 N (c,e)).bind λd=>cond (d.2.2!=0) (some (Sum.inl d.2.2)) (aD2 k (c,a,(au (b+1))))) (some (Sum.inr ()))
def bu0:∀k,aD2 N k=tmq (ac3 N) 8 55 be3 be4 k:=lpI (λ_=>rfl) λk=>by kernel_rfl
def ayY:ai:=(ac3 N).aa N 0 8 be3 be4
def F55:List aA×Int->Option Int|(a,b)=>(F57 N (a,b)).bind λc=>cond (c.2.2!=0) c.2.2 ((Xe N (a,b)).bind λd=>(aD2 N N (a,d,0)).bind λe=>match e with|.inl f=>f|.inr g=>some 0)
def G55:ai:=(agM N).put 55 s55 (F55 N)
def K55:az bE (G55 N):=(aoH N).pu (ayY N) (aoH N).o.l (funext λ⟨a,b⟩=>by rw[F55,bu0 N N];kernel_rfl)
def aoI:bH:=⟨[.U],[tmf [.bool]],0,[(0,1,2,.bool)],[],[],[]⟩
def aaE(N:Nat):Int->Option Bool|a=>(cond ((Int.tmod a 8)==0) (cond (a>0) (some (decide (a<=1099511627776))) (some false)) (some false)).bind λb=>b
def aoJ:ai:=(G55 N).put 142 aoI (aaE N)
def aoK:az bE (aoJ N):=(K55 N).pl (by kernel_rfl)
def aoL:bH:=⟨[.agg (cv aF)],[tmf [.I]],0,[(0,1,12,.bool)],[],[],[]⟩
def Xf:Int×tmI->Option Int|(a,b)=>((aaE N a).bind λc=>cond (!c) (some true) (some (decide ((b.length:Int)>20000)))).bind λd=>cond d (some 8) (some 0)
def agN:ai:=(aoJ N).put 102 aoL (Xf N)
def aoM:az bE (agN N):=(aoK N).pl (by kernel_rfl)
def agO:bH:=sg [.agg (cv aF),.agg (cv aF)] [tmf [.bool]]
def Xg:ai:=(agN N).on agO
def be5:aX:=tm [(2,.P 0 2 0),(3,.P 0 3 1),(5,.I)] [] [(0,2,.box 0 (cv aF)),(0,3,.box 1 (cv aF))] 1 [] 2
def be6:aW:=[tmr [(4,.Q)],tmx]
def aD3:Nat->Int×Int×tmI×Int×tmI->Option (Bool⊕Unit)|0,_=>none|k+1,(a,b,c,d,e)=>cond (a<c.length) ((DH N (d,e,(aK (b+(aK a))),1)).bind λf=>cond f (some (Sum.inl true)) (aD3 k ((au (a+1)),b,c,d,e))) (some (Sum.inr ()))
def bu1:∀k,aD3 N k=tmq (Xg N) 3 103 be5 be6 k:=lpI (λ_=>rfl) λk=>by kernel_rfl
def auG:ai:=(Xg N).aa N 0 3 be5 be6
def Xh:Int×tmI×Int×tmI->Option Bool|(a,b,c,d)=>(aD3 N N (0,a,b,c,d)).bind λe=>match e with|.inl f=>f|.inr g=>false
def agP:ai:=(agN N).put 103 agO (Xh N)
def aoN:az bE (agP N):=(aoM N).pu (auG N) (aoM N).o.l (funext λ⟨a,b,c,d⟩=>by rw[Xh,bu1 N N];kernel_rfl)
def s56:bH:=sg [.c (.sl aF .aY)] [tmf [.I]]
def ac4:ai:=(agP N).on s56
def be7:aX:=tmn [(0,.c (.sl aF .aY)),(3,.I)]
def be8:aW:=[tmr [(2,.I)],(.exit 0,tmn [(0,.c (.sl aF .aY))])]
def aD4:Nat->List Region×Int->Option (Int⊕(List Region))|0,_=>none|k+1,(a,b)=>cond (b<a.length) ((idx a b).bind λc=>(Xf N (c.1,c.2)).bind λd=>cond (d !=0) (some (Sum.inl 8)) (aD4 k (a,(au (b+1))))) (some (Sum.inr a))
def bu2:∀k,aD4 N k=tmq (ac4 N) 6 56 be7 be8 k:=lpI (λ_=>rfl) λk=>by kernel_rfl
def ac5:ai:=(ac4 N).aa N 0 6 be7 be8
def be9:aX:=tmn [(0,.c (.sl aF .aY)),(4,.I),(5,.I)]
def bf0:aW:=[tmr [(2,.I)],(.exit 4,tmn [(0,.c (.sl aF .aY)),(4,.I)])]
def aD5:Nat->List Region×Int×Int->Option (Int⊕(List Region×Int))|0,_=>none|k+1,(a,b,c)=>cond (c<b) ((idx a b).bind λd=>(idx a c).bind λe=>(Xh N (d.1,d.2,e.1,e.2)).bind λf=>cond f (some (Sum.inl 14)) (aD5 k (a,b,(au (c+1))))) (some (Sum.inr (a,b)))
def bu3:∀k,aD5 N k=tmq (ac5 N) 22 56 be9 bf0 k:=lpI (λ_=>rfl) λk=>by kernel_rfl
def ac6:ai:=(ac5 N).aa N 0 22 be9 bf0
def bf1:aX:=tmn [(0,.c (.sl aF .aY)),(4,.I)]
def bf2:aW:=[tmr [(2,.I)],(.exit 2,tmz)]
def av9:Nat->List Region×Int->Option (Int⊕Unit)|0,_=>none|k+1,(a,b)=>cond (b<a.length) ((aD5 N N (a,b,0)).bind λd=>match d with|.inl e=>some (Sum.inl e)|.inr c=>av9 k (c.1,(au (c.2+1)))) (some (Sum.inr ()))
def bf3:∀k,av9 N k=tmq (ac6 N) 16 56 bf1 bf2 k|0=>rfl|k+1=>funext λ⟨a,b⟩=>by rw[av9,bf3 k,bu3 N N];kernel_rfl
def ay1:ai:=(ac6 N).aa N 0 16 bf1 bf2
def F56:List Region->Option Int|a=>cond ((a.length:Int)>17) (some 4) ((aD4 N N (a,0)).bind λb=>match b with|.inl c=>c|.inr d=>(av9 N N (d,0)).bind λe=>match e with|.inl f=>f|.inr g=>some 0)
def G56:ai:=(agP N).put 56 s56 (F56 N)
def K56:az bE (G56 N):=(aoN N).pu (ay1 N) (aoN N).o.l.l.l (funext λa=>by rw[F56,bu2 N N,bf3 N N];kernel_rfl)
def s58:bH:=sg [.c (.sl aF .aY),.U,.I] [tmf [.bool]]
def ac7:ai:=(G56 N).on s58
def bf4:aX:=tmn [(0,.c (.sl aF .aY)),(1,.U),(2,.I),(7,.I)]
def bf5:aW:=[tmr [(6,.Q)],tmx]
def aD6:Nat->List Region×Int×Int×Int->Option (Bool⊕Unit)|0,_=>none|k+1,(a,c,d,b)=>cond (b<a.length) ((idx a b).bind λe=>(DH N (e.1,e.2,c,d)).bind λf=>cond f (some (Sum.inl true)) (aD6 k (a,c,d,(au (b+1))))) (some (Sum.inr ()))
def bu4:∀k,aD6 N k=tmq (ac7 N) 3 58 bf4 bf5 k:=lpI (λ_=>rfl) λk=>by kernel_rfl
def ay3:ai:=(ac7 N).aa N 0 3 bf4 bf5
def F58:List Region×Int×Int->Option Bool|(a,b,c)=>(aD6 N N (a,b,c,0)).bind λd=>match d with|.inl e=>e|.inr f=>false
def G58:ai:=(G56 N).put 58 s58 (F58 N)
def K58:az bE (G58 N):=(K56 N).pu (ay3 N) (K56 N).o.l (funext λ⟨a,b,c⟩=>by rw[F58,bu4 N N];kernel_rfl)
def agQ:bH:=sg [.c (.sl aF .aY),.U] [tmf [.U]]
def Xi:ai:=(G58 N).on agQ
def bf6:aX:=tmn [(0,.c (.sl aF .aY)),(1,.U),(5,.I)]
def bf7:aW:=[tmr [(4,.U)],tmx]
def aD7:Nat->List Region×Int×Int->Option (Int⊕Unit)|0,_=>none|k+1,(a,c,b)=>cond (b<a.length) ((idx a b).bind λd=>(DH N (d.1,d.2,c,8)).bind λf=>cond f ((idx a b).bind λe=>(DI N (e.1,e.2,c,8)).bind λg=>some (Sum.inl g)) (aD7 k (a,c,(au (b+1))))) (some (Sum.inr ()))
def bu5:∀k,aD7 N k=tmq (Xi N) 3 144 bf6 bf7 k:=lpI (λ_=>rfl) λk=>by kernel_rfl
def auL:ai:=(Xi N).aa N 0 3 bf6 bf7
def DJ:List Region×Int->Option Int|(a,b)=>(aD7 N N (a,b,0)).bind λc=>match c with|.inl d=>d|.inr e=>some 0
def aoP:ai:=(G58 N).put 144 agQ (DJ N)
def aoQ:az bE (aoP N):=(K58 N).pu (auL N) (K58 N).o.l (funext λ⟨a,b⟩=>by rw[DJ,bu5 N N];kernel_rfl)
def aoR:bH:=sg [.c (.sl aR .aY),.I] [tmf [.I]]
def Xj:List aA×Int->Option Int|(a,b)=>(ET N a).bind λc=>(idx c.1 b).bind λd=>d
def aoS:ai:=(aoP N).put 181 aoR (Xj N)
def aoT:az bE (aoS N):=(aoQ N).pl (by kernel_rfl)
def aoU:bH:=sg [.c (.sl aR .aY),.I] [tmf [.I]]
def Rb:List aA×Int->Option Int|(a,b)=>(Xj N (a,b)).bind λc=>c
def agR:ai:=(aoS N).put 149 aoU (Rb N)
def aoV:az bE (agR N):=(aoT N).pl (by kernel_rfl)
def agS:bH:=sg [.c (.sl aF .aY),.U,.I] [(true,(bq aF)),tmf [.bool]]
def Xk:ai:=(agR N).on agS
def bf8:aX:=tm [(0,.c (.sl aF .aY)),(1,.U),(2,.I),(6,.P 0 6 0),(8,.I)] [] [(0,6,.box 0 [.U,.nil true])] 1 [] 1
def bf9:aW:=[(.ret,tm [(6,.P 0 6 0),(7,.Q)] [] [(0,6,.box 0 (bq aF))] 1 [] 1),(.exit 0,tm [(6,.P 0 6 0)] [] [(0,6,.box 0 [.U,.nil true])] 1 [] 1)]
def aD8:Nat->List Region×Int×Int×Int×Int->Option ((Bool×Int×tmI)⊕Int)|0,_=>none|k+1,(a,c,d,b,e)=>cond (b<a.length) ((idx a b).bind λf=>(DH N (f.1,f.2,c,(max d 1))).bind λh=>cond h ((idx a b).bind λg=>some (Sum.inl (true,g.1,g.2))) (aD8 k (a,c,d,(au (b+1)),e))) (some (Sum.inr e))
def bu6:∀k,aD8 N k=tmq (Xk N) 6 147 bf8 bf9 k:=lpI (λ_=>rfl) λk=>by kernel_rfl
def auM:ai:=(Xk N).aa N 0 6 bf8 bf9
def Ni:List Region×Int×Int->Option (Int×tmI×Bool)|(c,b,d)=>cond ((Int.tmod b 8)!=0) (some (0,[],false)) ((aD8 N N (c,b,d,0,0)).bind λe=>match e with|.inl a=>(a.2.1,a.2.2,a.1)|.inr f=>some (0,[],false))
def agT:ai:=(agR N).put 147 agS (Ni N)
def aoW:az bE (agT N):=(aoV N).pu (auM N) (aoV N).o.l (funext λ⟨a,b,c⟩=>by rw[Ni,bu6 N N];kernel_rfl)
def agU:bH:=sg [.c (.sl aF .aY),.U] [tmf [.B]]
def Xl:ai:=(agT N).on agU
def bg0:aX:=tmn [(0,.c (.sl aF .aY)),(1,.U),(5,.I)]
def bg1:aW:=[tmr [(4,.B)],tmx]
def aD9:Nat->List Region×Int×Int->Option (Int⊕Unit)|0,_=>none|k+1,(a,c,b)=>cond (b<a.length) ((idx a b).bind λd=>(DH N (d.1,d.2,c,1)).bind λf=>cond f ((idx a b).bind λe=>(DI N (e.1,e.2,c,1)).bind λg=>some (Sum.inl (Sb g))) (aD9 k (a,c,(au (b+1))))) (some (Sum.inr ()))
def bu7:∀k,aD9 N k=tmq (Xl N) 3 146 bg0 bg1 k:=lpI (λ_=>rfl) λk=>by kernel_rfl
def auN:ai:=(Xl N).aa N 0 3 bg0 bg1
def Rc:List Region×Int->Option Int|(a,b)=>(aD9 N N (a,b,0)).bind λc=>match c with|.inl d=>d|.inr e=>some 0
def aoX:ai:=(agT N).put 146 agU (Rc N)
def aoY:az bE (aoX N):=(aoW N).pu (auN N) (aoW N).o.l (funext λ⟨a,b⟩=>by rw[Rc,bu7 N N];kernel_rfl)
def aoZ:bH:=⟨[.agg (cv aF),.U,.I],[tmf [.D .B]],0,[],[],[(0,13,.B)],[]⟩
def Xm(N:Nat):Int×tmI×Int×Int->Option tmI|(a,d,b,c)=>aH (decide (0<=(au (aK (b-a))))) (aH (decide (0<=(au ((au (aK (b-a)))+c)))) (aH (decide ((Int.toNat (au (aK (b-a))))<=(Int.toNat (au ((au (aK (b-a)))+c))))&&decide ((Int.toNat (au ((au (aK (b-a)))+c)))<=d.length)) (aH (room (0+((d.drop (Int.toNat (au (aK (b-a))))).take ((Int.toNat (au ((au (aK (b-a)))+c)))-(Int.toNat (au (aK (b-a)))))).length) 1) (some ([]++((d.drop (Int.toNat (au (aK (b-a))))).take ((Int.toNat (au ((au (aK (b-a)))+c)))-(Int.toNat (au (aK (b-a)))))))))))
def ao0:ai:=(aoX N).put 148 aoZ (Xm N)
def ao1:az bE (ao0 N):=(aoY N).pl (by kernel_rfl)
def ao2:bH:=sg [.c (.sl aR .aY),.c (.sl aF .aY),.U,.I] [(true,[.B,.I,.str,.D .val,.bool]),tmf [.I]]
def Re:List aA×List Region×Int×Int->Option (Int×Int×List UInt8×List jC×Bool×Int)|(g,b,c,h)=>(idx g h).bind λa=>cond (a.1==1) ((Rc N (b,c)).bind λi=>cond (i>1) (some (0,0,([]:List UInt8),[],false,12)) ((Rc N (b,c)).bind λj=>some (a.1,(au j),([]:List UInt8),[],false,0))) (cond (a.1==2) ((DJ N (b,c)).bind λl=>some (a.1,(au l),([]:List UInt8),[],false,0)) (cond (a.1==3) ((DJ N (b,c)).bind λf=>(DJ N (b,(aK (c+8)))).bind λd=>cond (d>64) (some (0,0,([]:List UInt8),[],false,12)) (cond (d==0) (some (a.1,0,([]:List UInt8),[],false,0)) ((Ni N (b,f,(au d))).bind λe=>cond (!e.2.2) (some (0,0,([]:List UInt8),[],false,16)) ((Xm N (e.1,e.2.1,f,(au d))).bind λm=>some (a.1,0,(m.map λ(n:Int)=>UInt8.ofNat n.toNat),[],false,0))))) (some (a.1,0,([]:List UInt8),[],false,0))))
def agV:ai:=(ao0 N).put 108 ao2 (Re N)
def ao3:az bE (agV N):=(ao1 N).pl (by kernel_rfl)
def agW:bH:=⟨[.c (.sl aR .aY),.I],[tmf [.D .I],tmf [.D .I]],0,[],[],[(0,40,.I),(0,70,.I),(0,82,.I)],[]⟩
def Xn:ai:=(agV N).on agW
def bg2:aX:=tmv [(0,.c (.sl aR .aY)),(1,.I),(6,.A .I 0),(7,.I)] 0 1
def bg3:aW:=[(.exit 0,tmv [(0,.c (.sl aR .aY)),(1,.I),(6,.A .I 0)] 0 1)]
def aE0(N:Nat):Nat->List aA×Int×tmI×Int->Option (List aA×Int×tmI)|0,_=>none|k+1,(a,b,c,d)=>(idx a b).bind λe=>cond (d<e.2.2.2.length) ((idx a b).bind λf=>(idx f.2.2.2 d).bind λg=>aH (room (c.length+1) 8) (aE0 N k (a,b,(c++[g.2]),(au (d+1))))) (a,b,c)
def bu8:∀k,aE0 N k=tmq (Xn N) 6 109 bg2 bg3 k:=lpI (λ_=>rfl) λk=>by kernel_rfl
def Xo:ai:=(Xn N).aa N 0 6 bg2 bg3
def bg4:aX:=tm [(0,.c (.sl aR .aY)),(1,.I),(11,.A .I 0),(12,.A .I 1),(13,.I)] [] [] 1 [0,1] 2
def bg5:aW:=[(.exit 2,tm [(11,.A .I 0),(12,.A .I 1)] [] [] 1 [0,1] 2)]
def aE1:Nat->List aA×Int×tmI×tmI×Int->Option (tmI×tmI)|0,_=>none|k+1,(a,b,c,d,e)=>(idx a b).bind λf=>cond (e<f.2.2.1) ((idx a b).bind λg=>aH (room (c.length+1) 8) ((idx a b).bind λh=>(Rb N (a,h.2.1)).bind λi=>aH (room (d.length+1) 8) (aE1 k (a,b,(c++[g.2.1]),(d++[(au (e*i))]),(au (e+1)))))) (c,d)
def bu9:∀k,aE1 N k=tmq (Xo N) 17 109 bg4 bg5 k:=lpI (λ_=>rfl) λk=>by kernel_rfl
def auO:ai:=(Xo N).aa N 0 17 bg4 bg5
def Rf:List aA×Int->Option (tmI×tmI)|(b,c)=>(idx b c).bind λe=>cond (e.1==5) ((aE0 N N (b,c,[],0)).bind λa=>(idx a.1 a.2.1).bind λf=>(F99 N (a.1,f.2.2.2)).bind λg=>(a.2.2,g.1)) ((aE1 N N (b,c,[],[],0)).bind λd=>(d.1,d.2))
def agX:ai:=(agV N).put 109 agW (Rf N)
def agY:az bE (agX N):=(ao3 N).pu (auO N) (ao3 N).o.l.l (funext λ⟨a,b⟩=>by rw[Rf,bu8 N N,bu9 N N];kernel_rfl)
def Sd:bH:=⟨[.c (.sl aR .aY),.c (.sl aF .aY),.U,.I,.I],[(true,[.B,.I,.str,.D .val,.bool]),tmf [.I]],0,[(0,1,27,.bool)],[],[],[]⟩
abbrev IQ:Type:=(List aA)×List Region×Int×Int×Int->Option (Int×Int×List UInt8×List jC×Bool×Int)
def Q59(R:IQ):ai:=(agX N).put 59 Sd R
def agZ:bH:=⟨[.c (.sl aR .aY),.c (.sl aF .aY),.U,.I,.c (.sl .I .aY),.c (.sl .I .aY),.I],[(true,[.B,.I,.str,.D .val,.bool]),tmf [.I]],0,[],[],[(0,57,.val)],[]⟩
def Xp(R:IQ):ai:=(Q59 N R).on agZ
def aF4:aX:=tm [(0,.c (.sl aR .aY)),(1,.c (.sl aF .aY)),(2,.U),(4,.c (.sl .I .aY)),(5,.c (.sl .I .aY)),(6,.I),(14,.P 0 14 0),(16,.P 0 16 1),(17,.I)] [] [(0,14,.box 0 [.B,.I,.str,.nil true,.bool]),(0,16,.box 1 [.B,.I,.str,.A .val 2,.bool])] 1 [2] 3
def aF5:aW:=[(.ret,tm [(14,.P 0 14 0),(15,.I)] [] [(0,14,.box 0 [.B,.I,.str,.nil true,.bool])] 1 [] 1),(.exit 0,tm [(14,.P 0 14 0),(16,.P 0 16 1)] [] [(0,14,.box 0 [.B,.I,.str,.nil true,.bool]),(0,16,.box 1 [.B,.I,.str,.A .val 2,.bool])] 1 [2] 3)]
def NE(N:Nat)(R:IQ):Nat->List aA×List Region×Int×tmI×tmI×Int×Int×Int×Int×List UInt8×Bool×Int×Int×List UInt8×List jC×Bool->Option ((Int×Int×Int×List UInt8×Bool)⊕(Int×Int×List UInt8×Bool×Int×Int×List UInt8×List jC×Bool))|0,_=>none|k+1,(e,f,g,c,h,i,b,j,l,m,n,o,p,q,d,r)=>cond (b<c.length) ((idx h b).bind λs=>(idx c b).bind λt=>(R (e,f,(aK (g+(aK s))),t,i)).bind λa=>cond (a.2.2.2.2.2!=0) (some (Sum.inl (a.2.2.2.2.2,0,0,([]:List UInt8),false))) (aH (room (d.length+1) 64) (NE N R k (e,f,g,c,h,i,(au (b+1)),j,l,m,n,o,p,q,(d++[(jC.mk a.1 a.2.1 a.2.2.1 a.2.2.2.1 a.2.2.2.2.1)]),r)))) (some (Sum.inr (j,l,m,n,o,p,q,d,r)))
def bv0(R:IQ):∀k,NE N R k=lp (Xp N R) 0 4 (tq 110) 4 aF4 aF5 k:=lpI (λ_=>rfl) λk=>by kernel_rfl
def auP(R:IQ):ai:=(Xp N R).aa N 0 4 aF4 aF5
def KM(R:IQ):List aA×List Region×Int×Int×tmI×tmI×Int->Option (Int×Int×List UInt8×List jC×Bool×Int)|(c,d,e,f,g,h,i)=>(idx c f).bind λj=>(NE N R N (c,d,e,g,h,i,0,0,0,([]:List UInt8),false,j.1,0,([]:List UInt8),[],false)).bind λl=>match l with|.inl a=>some (a.2.1,a.2.2.1,a.2.2.2.1,[],a.2.2.2.2,a.1)|.inr b=>some (b.2.2.2.2.1,b.2.2.2.2.2.1,b.2.2.2.2.2.2.1,b.2.2.2.2.2.2.2.1,b.2.2.2.2.2.2.2.2,0)
def ag0(R:IQ):ai:=(Q59 N R).put 110 agZ (KM N R)
def ao4(R:IQ)(hR:lK bE 59 (Sd.tI R)):az bE (ag0 N R):=((agY N).jK hR).put ((((agY N).jK hR).on agZ).aa N 0 4 aF4 aF5) _ _ _ (funext λ⟨a,b,c,d,e,f,g⟩=>by rw[KM,bv0 N R N];kernel_rfl)
def ag1:bH:=⟨[.c (.sl aR .aY),.c (.sl aF .aY),.U,.I,.I,.I,.I],[(true,[.B,.I,.str,.D .val,.bool]),tmf [.I]],0,[],[],[(0,62,.I),(0,68,.I)],[]⟩
def Xq(R:IQ):ai:=(ag0 N R).on ag1
def aF6:aX:=tm [(0,.c (.sl aR .aY)),(1,.c (.sl aF .aY)),(2,.U),(3,.I),(4,.I),(6,.I),(14,.P 0 14 0),(16,.I),(19,.A .I 1),(20,.A .I 2),(21,.I)] [] [(0,14,.box 0 [.B,.I,.str,.nil true,.bool])] 1 [1,2] 3
def aF7:aW:=[(.exit 0,tm [(0,.c (.sl aR .aY)),(1,.c (.sl aF .aY)),(2,.U),(3,.I),(6,.I),(14,.P 0 14 0),(19,.A .I 1),(20,.A .I 2)] [] [(0,14,.box 0 [.B,.I,.str,.nil true,.bool])] 1 [1,2] 3)]
def ah5(N:Nat)(R:IQ):Nat->List aA×List Region×Int×x8 (tmI×tmI×Int×Int×Int×List UInt8×Bool)->Option (List aA×List Region×Int×Int×Int×tmI×tmI×Int×Int×List UInt8×Bool)|0,_=>none|k+1,(a,f,g,b,h,i,j,c,d,e,l,m,n,o)=>cond (e<h) ((idx a b).bind λp=>aH (room (c.length+1) 8) (aH (room (d.length+1) 8) (ah5 N R k (a,f,g,b,h,i,j,(c++[p.2.1]),(d++[(au (e*j))]),(au (e+1)),l,m,n,o)))) (a,f,g,b,i,c,d,l,m,n,o)
def bv1(R:IQ):∀k,ah5 N R k=lp (Xq N R) 0 12 (tq 145) 12 aF6 aF7 k:=lpI (λ_=>rfl) λk=>by kernel_rfl
def auQ(R:IQ):ai:=(Xq N R).aa N 0 12 aF6 aF7
def Rg(R:IQ):List aA×List Region×Int×xZ->Option (Int×Int×List UInt8×List jC×Bool×Int)|(c,e,f,d,g,j,h)=>(idx c d).bind λl=>(Rb N (c,l.2.1)).bind λi=>(Ni N (e,f,(au (i*j)))).bind λm=>cond (!m.2.2) (some (0,0,([]:List UInt8),[],false,16)) (cond (h==0) ((idx c d).bind λn=>some (n.1,0,([]:List UInt8),[],(decide (g>0)),0)) ((ah5 N R N (c,e,f,d,g,h,i,[],[],0,0,0,([]:List UInt8),false)).bind λa=>(KM N R (a.1,a.2.1,a.2.2.1,a.2.2.2.1,a.2.2.2.2.2.1,a.2.2.2.2.2.2.1,(au (a.2.2.2.2.1-1)))).bind λb=>(b.1,b.2.1,b.2.2.1,b.2.2.2.1,b.2.2.2.2.1,b.2.2.2.2.2)))
def ao5(R:IQ):ai:=(ag0 N R).put 145 ag1 (Rg N R)
def ao6(R:IQ)(hR:lK bE 59 (Sd.tI R)):az bE (ao5 N R):=(ao4 N R hR).put (((ao4 N R hR).on ag1).aa N 0 12 aF6 aF7) _ _ _ (funext λ⟨a,b,c,d,e,f,g⟩=>by rw[Rg,bv1 N R N];kernel_rfl)
def ao7:bH:=⟨[.c (.sl aR .aY),.c (.sl aF .aY),.U,.I,.I],[(true,[.B,.I,.str,.D .val,.bool]),tmf [.I]],0,[(0,5,50,.bool)],[],[],[]⟩
def Xr(R:IQ):List aA×List Region×Int×Int×Int->Option (Int×Int×List UInt8×List jC×Bool×Int)|(c,d,h,e,j)=>(DJ N (d,h)).bind λf=>(idx c e).bind λl=>cond (l.1==7) ((DJ N (d,(aK (h+8)))).bind λi=>(DJ N (d,(aK (h+16)))).bind λg=>(cond (g>16) (some true) (cond (i>g) (some true) (cond (f==0) (cond (i>0) (some true) (some (decide (g>0)))) (some false)))).bind λm=>cond m (some (0,0,([]:List UInt8),[],false,12)) (cond (f==0) ((idx c e).bind λn=>some (n.1,0,([]:List UInt8),[],false,0)) ((Rg N R (c,d,f,e,(au i),(au g),j)).bind λa=>(a.1,a.2.1,a.2.2.1,a.2.2.2.1,a.2.2.2.2.1,a.2.2.2.2.2)))) (cond (f==0) ((idx c e).bind λo=>some (o.1,0,([]:List UInt8),[],false,0)) ((Rg N R (c,d,f,e,1,1,j)).bind λb=>(b.1,b.2.1,b.2.2.1,b.2.2.2.1,b.2.2.2.2.1,b.2.2.2.2.2)))
def auR(R:IQ):ai:=(ao5 N R).put 107 ao7 (Xr N R)
def auS(R:IQ)(hR:lK bE 59 (Sd.tI R)):az bE (auR N R):=(ao6 N R hR).put ((ao6 N R hR).on ao7) _ _ _ (by kernel_rfl)
def IS:Nat->List aA×List Region×Int×Int×Int->Option (Int×Int×List UInt8×List jC×Bool×Int)|0,_=>none|N+1,(a,f,g,b,h)=>((idx a b).bind λj=>cond (j.1==4) (some true) ((idx a b).bind λl=>some (l.1==7))).bind λm=>cond m ((Xr N (IS N) (a,f,g,b,h)).bind λc=>(c.1,c.2.1,c.2.2.1,c.2.2.2.1,c.2.2.2.2.1,c.2.2.2.2.2)) ((idx a b).bind λn=>cond (n.1<4) ((Re N (a,f,g,b)).bind λd=>(d.1,d.2.1,d.2.2.1,d.2.2.2.1,d.2.2.2.2.1,d.2.2.2.2.2)) ((Rf N (a,b)).bind λi=>(KM N (IS N) (a,f,g,b,i.1,i.2,h)).bind λe=>(e.1,e.2.1,e.2.2.1,e.2.2.2.1,e.2.2.2.2.1,e.2.2.2.2.2)))
def ao8:∀N:Nat,lK bE 59 (Sd.tI (IS N))|0=>r9 λ_=>rfl|N+1=>(Kh ((auS N (IS N) (ao8 N)).on Sd) xY 59 Sd.a Sd.ta Sd.r Sd.tr Sd.k).plain (funext λ⟨a,b,c,d,e⟩=>by rw[IS];kernel_rfl)
def G59:ai:=(agX N).put 59 Sd (IS N)
def K59:az bE (G59 N):=(agY N).jK (ao8 N)
def s19:bH:=⟨[.c (.sl aR .aY),.c (.sl aF .aY),.U,.I,.I],[(true,[.B,.I,.str,.D .val,.bool]),tmf [.I]],0,[(0,4,28,.bool),(0,11,55,.bool)],[],[],[]⟩
def F19:List aA×List Region×Int×Int×Int->Option (Int×Int×List UInt8×List jC×Bool×Int)|(b,c,e,d,f)=>(F55 N (b,d)).bind λh=>cond (h !=0) ((F55 N (b,d)).bind λi=>some (0,0,([]:List UInt8),[],false,i)) ((cond (f<0) (some true) (some (decide (f>3)))).bind λj=>cond j (some (0,0,([]:List UInt8),[],false,2)) ((F56 N c).bind λl=>cond (l !=0) ((F56 N c).bind λm=>some (0,0,([]:List UInt8),[],false,m)) ((F57 N (b,d)).bind λg=>(aH (!((aK g.2.1)=0)) (cond ((Int.tmod e (aK g.2.1))!=0) (some true) ((F58 N (c,e,(max g.1 1))).bind λn=>some (!n)))).bind λo=>cond o (some (0,0,([]:List UInt8),[],false,16)) ((IS N (b,c,e,d,f)).bind λa=>(a.1,a.2.1,a.2.2.1,a.2.2.2.1,a.2.2.2.2.1,a.2.2.2.2.2)))))
def G19:ai:=(G59 N).put 19 s19 (F19 N)
def K19:az bE (G19 N):=(K59 N).pl (by kernel_rfl)
def s6:bH:=⟨[.agg (bq fF),.I,.I],[(true,[.B,.I,.str,.D .val,.bool]),tmf [.I]],0,[(0,4,36,.bool),(0,8,58,.bool)],[],[],[]⟩
def F6:pI (Int×Int)->Option (Int×Int×List UInt8×List jC×Bool×Int)|(a,d,b,f,g,h,i,j,l,m,c,n,o,p)=>(F15 N (a,d,b,f,g,h,i,j,l,m,c,n)).bind λs=>cond (s !=0) ((F15 N (a,d,b,f,g,h,i,j,l,m,c,n)).bind λt=>some (0,0,([]:List UInt8),[],false,t)) ((cond (o<0) (some true) (cond (o>=c.length) (some true) ((idx c o).bind λu=>some (u.1==3)))).bind λv=>cond v (some (0,0,([]:List UInt8),[],false,2)) ((F16 N (a,d,b,f,g,h,i,j,l,m,c,n,o)).bind λq=>(cond (p<0) (some true) ((idx b q.1).bind λw=>some (decide (p>=w.2.2.2.1.length)))).bind λx=>cond x (some (0,0,([]:List UInt8),[],false,2)) ((F17 N (a,d,b,q.1,q.2.1,p)).bind λy=>cond (!y) (some (0,0,([]:List UInt8),[],false,38)) ((F18 N (a,d,b,f,g,h,i,j,l,m,c,n,o,p)).bind λr=>(F20 N (a,d,b,f,g,h,i,j,l,m,c,n)).bind λz=>(F19 N (a,z,r.1,r.2,3)).bind λe=>(e.1,e.2.1,e.2.2.1,e.2.2.2.1,e.2.2.2.2.1,e.2.2.2.2.2)))))
def G6:ai:=(G19 N).put 6 s6 (F6 N)
def K6:az bE (G6 N):=(K19 N).pl (by kernel_rfl)
def s7:bH:=⟨[.agg [.B,.I,.str,.sl .val .aY,.bool],.agg [.B,.I,.str,.sl .val .aY,.bool]],[tmf [.bool]],0,[(0,1,40,.bool)],[],[],[]⟩
abbrev R7:Type:=Int×Int×List UInt8×List jC×Bool×Int×Int×List UInt8×List jC×Bool->Option Bool
def apa(R:R7):ai:=((G6 N).on s7).put 7 s7 R
def aF8:aX:=tm [(2,.P 0 2 0),(3,.P 0 3 1),(5,.I)] [] [(0,2,.box 0 [.B,.I,.str,.sl .val .aY,.bool]),(0,3,.box 1 [.B,.I,.str,.sl .val .aY,.bool])] 1 [] 2
def aF9:aW:=[tmr [(4,.Q)],tmx]
def aw0(N:Nat)(R:R7):Nat->Int×Int×Int×List UInt8×List jC×Bool×Int×Int×List UInt8×List jC×Bool->Option (Bool⊕Unit)|0,_=>none|k+1,(c,f,g,h,d,i,j,l,m,e,n)=>cond (c<d.length) ((idx d c).bind λa=>(idx e c).bind λb=>(R (a.kind,a.int,a.text,a.list,a.cut,b.kind,b.int,b.text,b.list,b.cut)).bind λo=>cond (!o) (some (Sum.inl false)) (aw0 N R k ((au (c+1)),f,g,h,d,i,j,l,m,e,n))) (some (Sum.inr ()))
def bv2(R:R7):∀k,aw0 N R k=lp (apa N R) 0 6 (tq 7) 6 aF8 aF9 k:=lpI (λ_=>rfl) λk=>by kernel_rfl
def aBd(R:R7):ai:=(apa N R).aa N 0 6 aF8 aF9
def F7:Nat->Int×Int×List UInt8×List jC×Bool×Int×Int×List UInt8×List jC×Bool->Option Bool|0,_=>none|N+1,(a,b,c,d,e,f,g,h,i,j)=>(cond (a !=f) (some true) (cond (b !=g) (some true) (cond (!(c==h)) (some true) (cond (!(e==j)) (some true) (some ((d.length:Int)!=(i.length:Int))))))).bind λl=>cond l false ((aw0 N (F7 N) N (0,a,b,c,d,e,f,g,h,i,j)).bind λm=>match m with|.inl n=>n|.inr o=>true)
def ok7:∀N:Nat,lK bE 7 (s7.tI (F7 N))|0=>r9 λ_=>rfl|N+1=>(Kh ((((K6 N).on s7).jK (ok7 N)).aa N 0 6 aF8 aF9) xY 7 s7.a s7.ta s7.r s7.tr s7.k).plain (funext λ⟨a,b,c,d,e,f,g,h,i,j⟩=>by rw[F7,bv2 N (F7 N) N];kernel_rfl)
def G7:ai:=(G6 N).put 7 s7 (F7 N)
def K7:az bE (G7 N):=(K6 N).jK (ok7 N)
def s8:bH:=⟨[.B],[tmf [.bool]],0,[(0,12,4,.bool),(0,10,4,.bool),(0,8,4,.bool),(0,6,4,.bool),(0,4,4,.bool),(0,16,2,.bool)],[],[],[]⟩
def F8(N:Nat):Int->Option Bool|a=>(cond (a==25) (some true) ((cond (a==26) (some true) ((cond (a==27) (some true) ((cond (a==28) (some true) ((cond (a==30) (some true) (some (a==34))).bind λb=>some b)).bind λc=>some c)).bind λd=>some d)).bind λe=>some e)).bind λf=>cond f false ((cond (a>=1) (some (decide (a<=34))) (some false)).bind λg=>g)
def G8:ai:=(G7 N).put 8 s8 (F8 N)
def K8:az bE (G8 N):=(K7 N).pl (by kernel_rfl)
def s9:bH:=⟨[.B],[tmf [.bool]],0,[(0,1,2,.bool)],[],[],[]⟩
def F9(N:Nat):Int->Option Bool|a=>(cond (a>=1) (cond (a<=34) (cond (a !=25) (cond (a !=26) (cond (a !=27) (cond (a !=28) (cond (a !=30) (some (a !=34)) (some false)) (some false)) (some false)) (some false)) (some false)) (some false)) (some false)).bind λb=>b
def G9:ai:=(G8 N).put 9 s9 (F9 N)
def K9:az bE (G9 N):=(K8 N).pl (by kernel_rfl)
def s3:bH:=⟨[.agg (bq fF),.I,.I,.B],[tmf [.bool]],0,[(0,6,8,.bool)],[],[],[]⟩
def F3:pI (Int×Int×Int)->Option Bool|(c,d,e,f,g,h,i,j,l,m,n,o,p,q,r)=>(F4 N (c,d,e,f,g,h,i,j,l,m,n,o)).bind λs=>cond s true ((F5 N (c,d,e,f,g,h,i,j,l,m,n,o,p,q)).bind λa=>(F6 N (c,d,e,f,g,h,i,j,l,m,n,o,p,q)).bind λb=>((F7 N (a.1,a.2.1,a.2.2.1,a.2.2.2.1,a.2.2.2.2.1,b.1,b.2.1,b.2.2.1,b.2.2.2.1,b.2.2.2.2.1)).bind λt=>cond t (cond (a.2.2.2.2.2==b.2.2.2.2.2) ((F8 N r).bind λu=>(F9 N r).bind λv=>some (u==v)) (some false)) (some false)).bind λw=>w)
def G3:ai:=(G9 N).put 3 s3 (F3 N)
def K3:az bE (G3 N):=(K9 N).pl (by kernel_rfl)
end
end Go.Proofs.YtnfdnnplfbfgaaaGreat
